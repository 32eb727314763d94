/-
  DERIVED. The contracts of firstCell, isZeroRow, row.
-/
import Derived.Test.YtlggfmfelakadaaMx2
namespace Go.Proofs.Ytlggfmfelakadaa
open Go.RowKit
set_option linter.unusedVariables false
/-- The first place that is not 0; the length if there is none. -/
def fcN : List Int → Nat
  | [] => 0
  | x :: l => if x = 0 then fcN l + 1 else 0
def fcI (xs : List Int) : Int := if fcN xs < xs.length then (fcN xs : Int) else -1
theorem fcN_le : ∀ xs : List Int, fcN xs ≤ xs.length
  | [] => Nat.le_refl _
  | x :: l => by unfold fcN; have := fcN_le l; split <;> simp <;> omega
theorem fcN_zero : ∀ (xs : List Int) (j : Nat), j < fcN xs → xs.getD j 0 = 0
  | [], j, h => by simp [fcN] at h
  | x :: l, j, h => by
    unfold fcN at h
    split at h
    · rename_i h0
      match j, h with
      | 0, _ => simp [h0]
      | j + 1, h => simpa using fcN_zero l j (by omega)
    · omega
theorem fcN_ne : ∀ (xs : List Int), fcN xs < xs.length → xs.getD (fcN xs) 0 ≠ 0
  | [], h => by simp [fcN] at h
  | x :: l, h => by
    unfold fcN at h ⊢
    split
    · rename_i h0
      rw [if_pos h0] at h
      simpa using fcN_ne l (by simpa using h)
    · rename_i h0
      simpa using h0
theorem fcN_eq {xs : List Int} {k : Nat} (hk : k ≤ xs.length) (h0 : ∀ j, j < k → xs.getD j 0 = 0) (h1 : k < xs.length → xs.getD k 0 ≠ 0) : fcN xs = k := by
  rcases Nat.lt_trichotomy (fcN xs) k with h | h | h
  · exact absurd (h0 _ h) (fcN_ne xs (by omega))
  · exact h
  · have := fcN_le xs
    exact absurd (fcN_zero xs k h) (h1 (by omega))
/-- The first k are zeros. -/
def Zs (xs : List Int) (k : Nat) : Prop := ∀ j, j < k → xs.getD j 0 = 0
theorem Zs.succ {xs : List Int} {k : Nat} (h : Zs xs k) (h0 : xs.getD k 0 = 0) : Zs xs (k + 1) := fun j hj => by
  rcases Nat.lt_or_ge j k with h1 | h1
  · exact h j h1
  · obtain rfl : j = k := by omega
    exact h0

theorem firstCell_cl (x : Int) (w : World) : Calls Try.prog 137 #[.int .i64 x] w (EV (.bool (x != 0)) w) := by
  go_enter Try.func137, Try.ntmps137
  go_wp2
  go_ret
  exact EV.mk rfl
theorem IndexFunc_firstCell (A : Option Addr) (n cap : Nat) (xs : List Int) (w : World) {B : Nat} (h : RI w B A n xs) (hn : n ≤ 1048576) :
    Calls Try.prog 136 #[.slice A n cap, .func (.func 137) #[] #[]] w (EV (.int .i64 (fcI xs)) w) := by
  have hlen := h.len
  have hlx : xs.length ≤ n ∧ n ≤ xs.length := by omega
  have H := Lib.hid h
  clear h hlen
  go_enter Try.func136, Try.ntmps136
  go_wp2_with fail
  go_loop [8] (fun v => ∃ k : Nat, v = .int .i64 k ∧ k ≤ n ∧ Zs xs k) (fun v => n - (intOf v).toNat)
  case atStart => exact ⟨0, rfl, Nat.zero_le _, fun j h => absurd h (by omega)⟩
  case round =>
    obtain ⟨k, rfl, hk, hz⟩ := hrel
    have HZ := Lib.hid hz
    clear hz
    by_cases hlt : k < n
    · obtain ⟨b, o, rfl, hbb, hcells⟩ := H.out.2 (by omega)
      have c1 := hcells k hlt
      clear hcells
      by_cases hx : xs.getD k 0 = 0
      · have hxb : (xs.getD k 0 != 0) = false := by simpa using hx
        have hnz := Lib.hid (HZ.out.succ hx)
        clear hx
        generalize xs.getD k 0 = x at c1 hxb
        go_wp2_with fail
        refine (firstCell_cl x _).mono ?_
        rw [hxb]
        rintro e w' ⟨rfl, rfl⟩
        go_wp2_with fail
        go_round
        case rel => exact ⟨k + 1, by go_num, by omega, hnz.out⟩
        case measure => simp only [intOf]; omega
      · have hxb : (xs.getD k 0 != 0) = true := by simpa using hx
        have hfc := Lib.hid (show fcI xs = k by
          have := fcN_eq (show k ≤ xs.length by omega) HZ.out (fun _ => hx)
          unfold fcI; rw [this, if_pos (by omega)])
        clear hx
        generalize xs.getD k 0 = x at c1 hxb
        go_wp2_with fail
        refine (firstCell_cl x _).mono ?_
        rw [hxb]
        rintro e w' ⟨rfl, rfl⟩
        go_wp2_with fail
        go_ret
        exact EV.mk (vint hfc.out.symm)
    · have hfc := Lib.hid (show fcI xs = -1 by
        obtain rfl : k = n := by omega
        have := fcN_eq (show k ≤ xs.length by omega) HZ.out (fun h => absurd h (by omega))
        unfold fcI; rw [this, if_neg (by omega)])
      go_wp2_with fail
      go_ret
      exact EV.mk (vint hfc.out.symm)

theorem impl_firstCell (A : Option Addr) (n cap : Nat) (xs : List Int) (w : World) {B : Nat} (h : RI w B A n xs) (hn : n ≤ 1048576) :
    Calls Try.prog 132 #[.slice A n cap] w (EV (.int .i64 (fcI xs)) w) := by
  have H := Lib.hid h
  clear h
  go_enter Try.func132, Try.ntmps132
  go_wp2_with (go_at_call 136; refine (IndexFunc_firstCell A n cap xs _ H.out hn).mono ?_; rintro e w' ⟨rfl, rfl⟩)
  go_ret
  exact EV.mk rfl
end Go.Proofs.Ytlggfmfelakadaa

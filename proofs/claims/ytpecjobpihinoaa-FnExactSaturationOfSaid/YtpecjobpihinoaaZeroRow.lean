/-
  DERIVED. The contracts of isZeroRow.
-/
import Derived.Test.YtpecjobpihinoaaRow1
namespace Go.Proofs.Ytpecjobpihinoaa
open Go.RowKit
set_option linter.unusedVariables false
theorem isZeroRow_cl (x : Int) (w : World) : Calls Try.prog 120 #[.int .i64 x] w (EV (.bool (x != 0)) w) := by
  go_enter Try.func120, Try.ntmps120
  go_wp2
  go_ret
  exact EV.mk rfl
theorem IndexFunc_isZeroRow (A : Option Addr) (n cap : Nat) (xs : List Int) (w : World) {B : Nat} (h : RI w B A n xs) (hn : n ≤ 1048576) :
    Calls Try.prog 117 #[.slice A n cap, .func (.func 120) #[] #[]] w (EV (.int .i64 (fcI xs)) w) := by
  have hlen := h.len
  have hlx : xs.length ≤ n ∧ n ≤ xs.length := by omega
  have H := Lib.hid h
  clear h hlen
  go_enter Try.func117, Try.ntmps117
  go_wp2_with fail
  go_loop [8] (fun v => ∃ k : Nat, v = .int .i64 k ∧ k ≤ n ∧ Zs xs k) (fun v => n - (intOf v).toNat)
  case atStart => exact ⟨0, rfl, Nat.zero_le _, fun j h => absurd h (by omega)⟩
  case round =>
    obtain ⟨k, rfl, hk, hz⟩ := hrel
    have HZ := Lib.hid hz
    clear hz
    by_cases hlt : k < n
    · obtain ⟨b, o, rfl, hbb, hcells⟩ := H.out.2 (by omega)
      have c1 := hcells k hlt
      clear hcells
      by_cases hx : xs.getD k 0 = 0
      · have hxb : (xs.getD k 0 != 0) = false := by simpa using hx
        have hnz := Lib.hid (HZ.out.succ hx)
        clear hx
        generalize xs.getD k 0 = x at c1 hxb
        go_wp2_with fail
        refine (isZeroRow_cl x _).mono ?_
        rw [hxb]
        rintro e w' ⟨rfl, rfl⟩
        go_wp2_with fail
        go_round
        case rel => exact ⟨k + 1, by go_num, by omega, hnz.out⟩
        case measure => simp only [intOf]; omega
      · have hxb : (xs.getD k 0 != 0) = true := by simpa using hx
        have hfc := Lib.hid (show fcI xs = k by
          have := fcN_eq (show k ≤ xs.length by omega) HZ.out (fun _ => hx)
          unfold fcI; rw [this, if_pos (by omega)])
        clear hx
        generalize xs.getD k 0 = x at c1 hxb
        go_wp2_with fail
        refine (isZeroRow_cl x _).mono ?_
        rw [hxb]
        rintro e w' ⟨rfl, rfl⟩
        go_wp2_with fail
        go_ret
        exact EV.mk (vint hfc.out.symm)
    · have hfc := Lib.hid (show fcI xs = -1 by
        obtain rfl : k = n := by omega
        have := fcN_eq (show k ≤ xs.length by omega) HZ.out (fun h => absurd h (by omega))
        unfold fcI; rw [this, if_neg (by omega)])
      go_wp2_with fail
      go_ret
      exact EV.mk (vint hfc.out.symm)


theorem impl_isZeroRow (A : Option Addr) (n cap : Nat) (xs : List Int) (w : World) {B : Nat} (h : RI w B A n xs) (hn : n ≤ 1048576) :
    Calls Try.prog 64 #[.slice A n cap] w (EV (.bool (decide (fcI xs < 0))) w) := by
  have hb : decide (fcI xs < 0) = !(decide (0 ≤ fcI xs)) := by
    rw [Bool.eq_iff_iff]; simp
  have H := Lib.hid h
  rw [hb]
  clear h hb
  go_enter Try.func64, Try.ntmps64
  go_wp2_with fail
  go_enter Try.func119, Try.ntmps119
  go_wp2_with (go_at_call 117; refine (IndexFunc_isZeroRow A n cap xs _ H.out hn).mono ?_; rintro e w' ⟨rfl, rfl⟩)
  go_ret
  exact EV.mk rfl
end Go.Proofs.Ytpecjobpihinoaa

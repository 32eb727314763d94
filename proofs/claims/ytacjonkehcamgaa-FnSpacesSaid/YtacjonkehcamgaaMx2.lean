/-
  DERIVED. The contracts of spec.IsMatrix, l12Cell, isMultiple, IsSquare (both).
-/
import Derived.Test.YtacjonkehcamgaaMx
namespace Go.Proofs.Ytacjonkehcamgaa
open Go.RowKit
set_option linter.unusedVariables false
set_option maxHeartbeats 1000000 in
theorem spec_IsMatrix (r c : Int) (A : Option Addr) (n cap : Nat) (xs : List Int) (w : World) {C : Nat} (h : RI w C A n xs) (hC : C ≤ w.heap.size) (hn : n ≤ 1048576) :
    Calls Try.prog 107 #[.agg #[.int .i64 r, .int .i64 c, .slice A n cap]] w (BV (.bool (isMat r c xs)) w) := by
  have hcs := mat_cases r c xs n h.len
  have hlen := h.len
  have hlx : xs.length ≤ n ∧ n ≤ xs.length := by omega
  have H := Lib.hid h
  clear h hlen
  rcases hcs with ⟨hr, h1⟩ | ⟨hr, h1, h2⟩ | ⟨hr, h1, h2⟩ | ⟨hr, h1, h2, h3⟩ | ⟨hr, ⟨h1, h2⟩, ⟨h3, h4⟩, h5⟩ | ⟨hr, ⟨h1, h2⟩, ⟨h3, h4⟩, h5⟩
  iterate 4
    · rw [hr]
      clear hr
      go_enter Try.func107, Try.ntmps107
      go_wp2_with (first | (go_at_call 154; (first | refine (spec_l1In_yes _ _ _ _ (by omega)).mono ?_ | refine (spec_l1In_no _ _ _ _ (by omega)).mono ?_ | refine (spec_l1In _ _ _ _).mono ?_); rintro e w' ⟨rfl, rfl⟩))
      go_ret
      exact BV.mk rfl (by (repeat (first | (with_reducible exact Below.refl _ _) | (with_reducible assumption) | (with_reducible refine below_drewN ?_ _) | (with_reducible refine Below.drew ?_) | (with_reducible refine Below.alloc ?_ ?_ _) | (with_reducible refine Below.setCell ?_ ?_ _) | (with_reducible refine below_into ?_ (by assumption) (by first | omega | (simp; done) | (simp; omega))) | go_size)))
  · rw [hr]
    clear hr
    obtain ⟨m1, m2⟩ := mul24 h1 h2 h3 h4
    have h6 : ((n : Int) != r * c) = true := by rw [bne, h5]; rfl
    go_enter Try.func107, Try.ntmps107
    go_wp2_with (first | (go_at_call 154; (first | refine (spec_l1In_yes _ _ _ _ (by omega)).mono ?_ | refine (spec_l1In_no _ _ _ _ (by omega)).mono ?_ | refine (spec_l1In _ _ _ _).mono ?_); rintro e w' ⟨rfl, rfl⟩))
    go_ret
    exact BV.mk rfl (by (repeat (first | (with_reducible exact Below.refl _ _) | (with_reducible assumption) | (with_reducible refine below_drewN ?_ _) | (with_reducible refine Below.drew ?_) | (with_reducible refine Below.alloc ?_ ?_ _) | (with_reducible refine Below.setCell ?_ ?_ _) | (with_reducible refine below_into ?_ (by assumption) (by first | omega | (simp; done) | (simp; omega))) | go_size)))
  · rw [hr]
    clear hr
    obtain ⟨m1, m2⟩ := mul24 h1 h2 h3 h4
    have h6 : ((n : Int) != r * c) = false := by rw [bne, h5]; rfl
    go_enter Try.func107, Try.ntmps107
    go_wp2_with (first | (go_at_call 154; (first | refine (spec_l1In_yes _ _ _ _ (by omega)).mono ?_ | refine (spec_l1In_no _ _ _ _ (by omega)).mono ?_ | refine (spec_l1In _ _ _ _).mono ?_); rintro e w' ⟨rfl, rfl⟩))
    go_loop [3] (fun v => ∃ k : Nat, v = .int .i64 k ∧ k ≤ n ∧ (xs.take k).all isNum = true) (fun v => n - (intOf v).toNat)
    case atStart => exact ⟨0, rfl, Nat.zero_le _, by simp⟩
    case round =>
      obtain ⟨k, rfl, hk, hall0⟩ := hrel
      have hall := Lib.hid hall0
      clear hall0
      by_cases hlt : k < n
      · obtain ⟨b, o, rfl, hbb, hcells⟩ := H.out.2 (by omega)
        have c1 := hcells k hlt
        have hbs : b < w.heap.size := by omega
        clear hcells
        have hat := all_take (xs := xs) (p := isNum) (show k < xs.length by omega)
        have hfa := all_false (xs := xs) (p := isNum) (show k < xs.length by omega)
        rw [hall.out, Bool.true_and] at hat
        generalize xs.getD k 0 = x at c1 hat hfa
        rcases hx : isNum x with _ | _
        · have hres := Lib.hid (hfa hx)
          clear hat hfa
          go_wp2_with (first | (go_at_call 194; (first | refine (spec_IsNumber_yes _ _ (by omega)).mono ?_ | refine (spec_IsNumber_no _ _ (by omega)).mono ?_ | refine (spec_IsNumber _ _).mono ?_); rintro e w' ⟨rfl, rfl⟩))
          go_ret
          exact BV.mk (vbool hres.out.symm) (by (repeat (first | (with_reducible exact Below.refl _ _) | (with_reducible assumption) | (with_reducible refine below_drewN ?_ _) | (with_reducible refine Below.drew ?_) | (with_reducible refine Below.alloc ?_ ?_ _) | (with_reducible refine Below.setCell ?_ ?_ _) | (with_reducible refine below_into ?_ (by assumption) (by first | omega | (simp; done) | (simp; omega))) | go_size)))
        · have hnx := Lib.hid (hat.trans hx)
          clear hat hfa
          go_wp2_with (first | (go_at_call 194; (first | refine (spec_IsNumber_yes _ _ (by omega)).mono ?_ | refine (spec_IsNumber_no _ _ (by omega)).mono ?_ | refine (spec_IsNumber _ _).mono ?_); rintro e w' ⟨rfl, rfl⟩))
          go_round
          case rel => exact ⟨k + 1, by go_num, by omega, hnx.out⟩
          case measure => simp only [intOf]; omega
      · have hres := Lib.hid (show xs.all isNum = true by rw [← hall.out, List.take_of_length_le (by omega)])
        go_wp2
        go_ret
        exact BV.mk (vbool hres.out.symm) (by (repeat (first | (with_reducible exact Below.refl _ _) | (with_reducible assumption) | (with_reducible refine below_drewN ?_ _) | (with_reducible refine Below.drew ?_) | (with_reducible refine Below.alloc ?_ ?_ _) | (with_reducible refine Below.setCell ?_ ?_ _) | (with_reducible refine below_into ?_ (by assumption) (by first | omega | (simp; done) | (simp; omega))) | go_size)))

theorem spec_l12Cell (r c i j : Int) (A : Option Addr) (n cap : Nat) (xs : List Int) (w : World) {C : Nat} (h : RI w C A n xs) (hC : C ≤ w.heap.size) (hi : 0 ≤ i * c ∧ i * c ≤ 10000) (hj : 0 ≤ j ∧ j ≤ 10000) (hk : i * c + j < n) :
    Calls Try.prog 108 #[.agg #[.int .i64 r, .int .i64 c, .slice A n cap], .int .i64 i, .int .i64 j] w (BV (.int .i64 (cel xs c i j)) w) := by
  obtain ⟨b, o, rfl, hbb, hcells⟩ := h.2 (by omega)
  obtain ⟨hi1, hi2⟩ := hi
  obtain ⟨hj1, hj2⟩ := hj
  have c1 := hcells (i * c + j).toNat (by omega)
  have hne : b < w.heap.size := by omega
  unfold cel
  generalize xs.getD (i * c + j).toNat 0 = x at c1
  clear hcells h
  go_enter Try.func108, Try.ntmps108
  go_wp2
  go_ret
  exact BV.mk rfl (by (repeat (first | (with_reducible exact Below.refl _ _) | (with_reducible assumption) | (with_reducible refine below_drewN ?_ _) | (with_reducible refine Below.drew ?_) | (with_reducible refine Below.alloc ?_ ?_ _) | (with_reducible refine Below.setCell ?_ ?_ _) | (with_reducible refine below_into ?_ (by assumption) (by first | omega | (simp; done) | (simp; omega))) | go_size)))

theorem impl_isMultiple (n d : Int) (w : World) (h1 : -400000000 ≤ n ∧ n ≤ 400000000) (h2 : -400000000 ≤ d ∧ d ≤ 400000000) : Calls Try.prog 158 #[.int .i64 n, .int .i64 d] w (EV (.bool (decide (d ∣ n))) w) := by
  by_cases hd : d = 0
  · subst hd
    go_enter Try.func158, Try.ntmps158
    go_wp2
    go_ret
    refine EV.mk (vbool ?_)
    rw [Bool.eq_iff_iff]
    simp
  · have hb : (d == 0) = false := by simpa using hd
    have ht : (n.tmod d == 0) = decide (d ∣ n) := by
      rw [Bool.eq_iff_iff]
      simp only [beq_iff_eq, decide_eq_true_eq]
      exact ⟨Int.dvd_of_tmod_eq_zero, Int.tmod_eq_zero_of_dvd⟩
    have HT := Lib.hid ht
    have hl := natAbs_tmod_lt n d hd
    clear ht
    by_cases hn : 0 ≤ n
    · have e : n % d = n.tmod d := (Int.tmod_eq_emod_of_nonneg hn).symm
      have E := Lib.hid e
      clear e
      go_enter Try.func158, Try.ntmps158
      go_wp2
      go_ret
      exact EV.mk (vbool (show (n % d == 0) = _ by rw [E.out]; exact HT.out))
    · go_enter Try.func158, Try.ntmps158
      go_wp2
      go_ret
      exact EV.mk (vbool HT.out)

def isSq (r c : Int) (xs : List Int) : Bool := isMat r c xs && decide (r = c) && decide (r ≤ 6)
end Go.Proofs.Ytacjonkehcamgaa

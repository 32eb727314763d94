/-
  DERIVED. The contracts of spec.IsMatrix, l12Cell, isMultiple, IsSquare (both).
-/
import Derived.Test.YtlggfmfelakadaaMx
namespace Go.Proofs.Ytlggfmfelakadaa
open Go.RowKit
set_option linter.unusedVariables false
set_option maxHeartbeats 1000000 in
theorem spec_IsMatrix (r c : Int) (A : Option Addr) (n cap : Nat) (xs : List Int) (w : World) {C : Nat} (h : RI w C A n xs) (hC : C ≤ w.heap.size) (hn : n ≤ 1048576) :
    Calls Try.prog 91 #[.agg #[.int .i64 r, .int .i64 c, .slice A n cap]] w (BV (.bool (isMat r c xs)) w) := by
  have hcs := mat_cases r c xs n h.len
  have hlen := h.len
  have hlx : xs.length ≤ n ∧ n ≤ xs.length := by omega
  have H := Lib.hid h
  clear h hlen
  rcases hcs with ⟨hr, h1⟩ | ⟨hr, h1, h2⟩ | ⟨hr, h1, h2⟩ | ⟨hr, h1, h2, h3⟩ | ⟨hr, ⟨h1, h2⟩, ⟨h3, h4⟩, h5⟩ | ⟨hr, ⟨h1, h2⟩, ⟨h3, h4⟩, h5⟩
  iterate 4
    · rw [hr]
      clear hr
      go_enter Try.func91, Try.ntmps91
      go_wp2_with (first | (go_at_call 101; (first | refine (spec_l1In_yes _ _ _ _ (by omega)).mono ?_ | refine (spec_l1In_no _ _ _ _ (by omega)).mono ?_ | refine (spec_l1In _ _ _ _).mono ?_); rintro e w' ⟨rfl, rfl⟩))
      go_ret
      exact BV.mk rfl (by (repeat (first | (with_reducible exact Below.refl _ _) | (with_reducible assumption) | (with_reducible refine below_drewN ?_ _) | (with_reducible refine Below.drew ?_) | (with_reducible refine Below.alloc ?_ ?_ _) | (with_reducible refine Below.setCell ?_ ?_ _) | (with_reducible refine below_into ?_ (by assumption) (by first | omega | (simp; done) | (simp; omega))) | go_size)))
  · rw [hr]
    clear hr
    obtain ⟨m1, m2⟩ := mul24 h1 h2 h3 h4
    have h6 : ((n : Int) != r * c) = true := by rw [bne, h5]; rfl
    go_enter Try.func91, Try.ntmps91
    go_wp2_with (first | (go_at_call 101; (first | refine (spec_l1In_yes _ _ _ _ (by omega)).mono ?_ | refine (spec_l1In_no _ _ _ _ (by omega)).mono ?_ | refine (spec_l1In _ _ _ _).mono ?_); rintro e w' ⟨rfl, rfl⟩))
    go_ret
    exact BV.mk rfl (by (repeat (first | (with_reducible exact Below.refl _ _) | (with_reducible assumption) | (with_reducible refine below_drewN ?_ _) | (with_reducible refine Below.drew ?_) | (with_reducible refine Below.alloc ?_ ?_ _) | (with_reducible refine Below.setCell ?_ ?_ _) | (with_reducible refine below_into ?_ (by assumption) (by first | omega | (simp; done) | (simp; omega))) | go_size)))
  · rw [hr]
    clear hr
    obtain ⟨m1, m2⟩ := mul24 h1 h2 h3 h4
    have h6 : ((n : Int) != r * c) = false := by rw [bne, h5]; rfl
    go_enter Try.func91, Try.ntmps91
    go_wp2_with (first | (go_at_call 101; (first | refine (spec_l1In_yes _ _ _ _ (by omega)).mono ?_ | refine (spec_l1In_no _ _ _ _ (by omega)).mono ?_ | refine (spec_l1In _ _ _ _).mono ?_); rintro e w' ⟨rfl, rfl⟩))
    go_loop [3] (fun v => ∃ k : Nat, v = .int .i64 k ∧ k ≤ n ∧ (xs.take k).all isNum = true) (fun v => n - (intOf v).toNat)
    case atStart => exact ⟨0, rfl, Nat.zero_le _, by simp⟩
    case round =>
      obtain ⟨k, rfl, hk, hall0⟩ := hrel
      have hall := Lib.hid hall0
      clear hall0
      by_cases hlt : k < n
      · obtain ⟨b, o, rfl, hbb, hcells⟩ := H.out.2 (by omega)
        have c1 := hcells k hlt
        have hbs : b < w.heap.size := by omega
        clear hcells
        have hat := all_take (xs := xs) (p := isNum) (show k < xs.length by omega)
        have hfa := all_false (xs := xs) (p := isNum) (show k < xs.length by omega)
        rw [hall.out, Bool.true_and] at hat
        generalize xs.getD k 0 = x at c1 hat hfa
        rcases hx : isNum x with _ | _
        · have hres := Lib.hid (hfa hx)
          clear hat hfa
          go_wp2_with (first | (go_at_call 111; (first | refine (spec_IsNumber_yes _ _ (by omega)).mono ?_ | refine (spec_IsNumber_no _ _ (by omega)).mono ?_ | refine (spec_IsNumber _ _).mono ?_); rintro e w' ⟨rfl, rfl⟩))
          go_ret
          exact BV.mk (vbool hres.out.symm) (by (repeat (first | (with_reducible exact Below.refl _ _) | (with_reducible assumption) | (with_reducible refine below_drewN ?_ _) | (with_reducible refine Below.drew ?_) | (with_reducible refine Below.alloc ?_ ?_ _) | (with_reducible refine Below.setCell ?_ ?_ _) | (with_reducible refine below_into ?_ (by assumption) (by first | omega | (simp; done) | (simp; omega))) | go_size)))
        · have hnx := Lib.hid (hat.trans hx)
          clear hat hfa
          go_wp2_with (first | (go_at_call 111; (first | refine (spec_IsNumber_yes _ _ (by omega)).mono ?_ | refine (spec_IsNumber_no _ _ (by omega)).mono ?_ | refine (spec_IsNumber _ _).mono ?_); rintro e w' ⟨rfl, rfl⟩))
          go_round
          case rel => exact ⟨k + 1, by go_num, by omega, hnx.out⟩
          case measure => simp only [intOf]; omega
      · have hres := Lib.hid (show xs.all isNum = true by rw [← hall.out, List.take_of_length_le (by omega)])
        go_wp2
        go_ret
        exact BV.mk (vbool hres.out.symm) (by (repeat (first | (with_reducible exact Below.refl _ _) | (with_reducible assumption) | (with_reducible refine below_drewN ?_ _) | (with_reducible refine Below.drew ?_) | (with_reducible refine Below.alloc ?_ ?_ _) | (with_reducible refine Below.setCell ?_ ?_ _) | (with_reducible refine below_into ?_ (by assumption) (by first | omega | (simp; done) | (simp; omega))) | go_size)))

def isSq (r c : Int) (xs : List Int) : Bool := isMat r c xs && decide (r = c) && decide (r ≤ 6)
end Go.Proofs.Ytlggfmfelakadaa

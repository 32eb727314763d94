/-
  DERIVED. The contracts of areNumbers, IsMatrix (both), at, l12Cell.
-/
import Derived.Test.YtlggfmfelakadaaGreatDoorc1
import Derived.Test.YtlggfmfelakadaaGreatDoorc2
namespace Go.Proofs.YtlggfmfelakadaaGreatDoor
open Go.RowKit
set_option linter.unusedVariables false
theorem all_take {xs : List Int} {p : Int → Bool} {j : Nat} (h : j < xs.length) : (xs.take (j + 1)).all p = ((xs.take j).all p && p (xs.getD j 0)) := by
  rw [List.take_add_one, List.all_append, getD_some h]; simp
theorem all_false {xs : List Int} {p : Int → Bool} {j : Nat} (h : j < xs.length) (hp : p (xs.getD j 0) = false) : xs.all p = false := by
  rw [List.all_eq_false]
  exact ⟨xs[j], List.getElem_mem h, by
    have : xs.getD j 0 = xs[j] := by simp [List.getD, h]
    rw [this] at hp; simp [hp]⟩
theorem impl_areNumbers (A : Option Addr) (n cap : Nat) (xs : List Int) (w : World) {C : Nat} (h : RI w C A n xs) (hn : n ≤ 1048576) :
    Calls Tryz.prog 52 #[.slice A n cap] w (EV (.bool (xs.all isNum)) w) := by
  have hlen := h.len
  have hlx : xs.length ≤ n ∧ n ≤ xs.length := by omega
  have H := Lib.hid h
  clear h hlen
  go_enter Tryz.func52, Tryz.ntmps52
  go_wp2
  go_loop [7] (fun v => ∃ k : Nat, v = .int .i64 k ∧ k ≤ n ∧ (xs.take k).all isNum = true) (fun v => n - (intOf v).toNat)
  case atStart => exact ⟨0, rfl, Nat.zero_le _, by simp⟩
  case round =>
    obtain ⟨k, rfl, hk, hall0⟩ := hrel
    have hall := Lib.hid hall0
    clear hall0
    by_cases hlt : k < n
    · obtain ⟨b, o, rfl, hbb, hcells⟩ := H.out.2 (by omega)
      have c1 := hcells k hlt
      clear hcells
      have hat := all_take (xs := xs) (p := isNum) (show k < xs.length by omega)
      have hfa := all_false (xs := xs) (p := isNum) (show k < xs.length by omega)
      rw [hall.out, Bool.true_and] at hat
      generalize xs.getD k 0 = x at c1 hat hfa
      rcases hx : isNum x with _ | _
      · have hres := Lib.hid (hfa hx)
        clear hat hfa
        go_wp2_with (first | (go_at_call 42; (first | refine (impl_IsNumber_yes _ _ (by omega)).mono ?_ | refine (impl_IsNumber_no _ _ (by omega)).mono ?_ | refine (impl_IsNumber _ _).mono ?_); rintro e w' ⟨rfl, rfl⟩))
        go_ret
        exact EV.mk (vbool hres.out.symm)
      · have hnx := Lib.hid (hat.trans hx)
        clear hat hfa
        go_wp2_with (first | (go_at_call 42; (first | refine (impl_IsNumber_yes _ _ (by omega)).mono ?_ | refine (impl_IsNumber_no _ _ (by omega)).mono ?_ | refine (impl_IsNumber _ _).mono ?_); rintro e w' ⟨rfl, rfl⟩))
        go_round
        case rel => exact ⟨k + 1, by go_num, by omega, hnx.out⟩
        case measure => simp only [intOf]; omega
    · have hres := Lib.hid (show xs.all isNum = true by rw [← hall.out, List.take_of_length_le (by omega)])
      go_wp2
      go_ret
      exact EV.mk (vbool hres.out.symm)

theorem mat_cases (r c : Int) (xs : List Int) (n : Nat) (hl : xs.length = n) : (isMat r c xs = false ∧ r < 0) ∨ (isMat r c xs = false ∧ 0 ≤ r ∧ 24 < r) ∨ (isMat r c xs = false ∧ (0 ≤ r ∧ r ≤ 24) ∧ c < 0) ∨
    (isMat r c xs = false ∧ (0 ≤ r ∧ r ≤ 24) ∧ 0 ≤ c ∧ 24 < c) ∨ (isMat r c xs = false ∧ (0 ≤ r ∧ r ≤ 24) ∧ (0 ≤ c ∧ c ≤ 24) ∧ ((n : Int) == r * c) = false) ∨
    (isMat r c xs = xs.all isNum ∧ (0 ≤ r ∧ r ≤ 24) ∧ (0 ≤ c ∧ c ≤ 24) ∧ ((n : Int) == r * c) = true) := by
  subst hl
  have hi := @isMat_iff r c xs
  by_cases h1 : r < 0
  · exact .inl ⟨isMat_not fun h => by have := h.r0; omega, h1⟩
  by_cases h2 : 24 < r
  · exact .inr (.inl ⟨isMat_not fun h => by have := h.r1; omega, by omega, h2⟩)
  by_cases h3 : c < 0
  · exact .inr (.inr (.inl ⟨isMat_not fun h => by have := h.c0; omega, by omega, h3⟩))
  by_cases h4 : 24 < c
  · exact .inr (.inr (.inr (.inl ⟨isMat_not fun h => by have := h.c1; omega, by omega, by omega, h4⟩)))
  by_cases h5 : (xs.length : Int) = r * c
  · refine .inr (.inr (.inr (.inr (.inr ⟨?_, by omega, by omega, by simpa using h5⟩))))
    rcases ha : xs.all isNum with _ | _
    · exact isMat_not fun h => by have := h.num; rw [ha] at this; cases this
    · exact hi.2 ⟨by omega, by omega, by omega, by omega, h5, ha⟩
  · exact .inr (.inr (.inr (.inr (.inl ⟨isMat_not fun h => h5 h.len, by omega, by omega, by simpa using h5⟩))))

set_option maxHeartbeats 1000000 in
theorem impl_IsMatrix (r c : Int) (A : Option Addr) (n cap : Nat) (xs : List Int) (w : World) {C : Nat} (h : RI w C A n xs) (hC : C ≤ w.heap.size) (hn : n ≤ 1048576) :
    Calls Tryz.prog 18 #[.agg #[.int .i64 r, .int .i64 c, .slice A n cap]] w (BV (.bool (isMat r c xs)) w) := by
  have hcs := mat_cases r c xs n h.len
  have H := Lib.hid h
  clear h
  rcases hcs with ⟨hr, h1⟩ | ⟨hr, h1, h2⟩ | ⟨hr, h1, h2⟩ | ⟨hr, h1, h2, h3⟩ | ⟨hr, ⟨h1, h2⟩, ⟨h3, h4⟩, h5⟩ | ⟨hr, ⟨h1, h2⟩, ⟨h3, h4⟩, h5⟩
  iterate 4
    · rw [hr]
      clear hr
      go_enter Tryz.func18, Tryz.ntmps18
      go_wp2_with fail
      go_ret
      exact BV.mk rfl Kw
  all_goals
    rw [hr]
    clear hr
    obtain ⟨m1, m2⟩ := mul24 h1 h2 h3 h4
    go_enter Tryz.func18, Tryz.ntmps18
    go_wp2_with (go_at_call 52; refine (impl_areNumbers A n cap xs _ (H.out.alloc hC _) hn).mono ?_; rintro e w' ⟨rfl, rfl⟩)
    go_ret
    exact BV.mk rfl Kw

theorem impl_at (r c i j : Int) (A : Option Addr) (n cap : Nat) (xs : List Int) (w : World) {C : Nat} (h : RI w C A n xs) (hC : C ≤ w.heap.size) (hi : 0 ≤ i * c ∧ i * c ≤ 10000) (hj : 0 ≤ j ∧ j ≤ 10000) (hk : i * c + j < n) :
    Calls Tryz.prog 33 #[.agg #[.int .i64 r, .int .i64 c, .slice A n cap], .int .i64 i, .int .i64 j] w (BV (.int .i64 (cel xs c i j)) w) := by
  obtain ⟨b, o, rfl, hbb, hcells⟩ := h.2 (by omega)
  obtain ⟨hi1, hi2⟩ := hi
  obtain ⟨hj1, hj2⟩ := hj
  have c1 := hcells (i * c + j).toNat (by omega)
  have hne : b < w.heap.size := by omega
  unfold cel
  generalize xs.getD (i * c + j).toNat 0 = x at c1
  clear hcells h
  go_enter Tryz.func33, Tryz.ntmps33
  go_wp2
  go_ret
  exact BV.mk rfl Kw
end Go.Proofs.YtlggfmfelakadaaGreatDoor

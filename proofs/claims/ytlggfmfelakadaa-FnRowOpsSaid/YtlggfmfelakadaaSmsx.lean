/-
  DERIVED. SameMatrix of the reference.
-/
import Derived.Test.YtlggfmfelakadaaX4
namespace Go.Proofs.Ytlggfmfelakadaa
open Go.RowKit
set_option linter.unusedVariables false
set_option linter.unusedSimpArgs false
set_option maxRecDepth 100000 in
set_option maxHeartbeats 4000000 in
theorem spec_SameMatrix (r c r2 c2 : Int) (A A' : Option Addr) (n cap n' cap' : Nat) (xs ys : List Int) (w : World) {B B' : Nat} (h : RI w B A n xs) (h' : RI w B' A' n' ys) (hB : B ≤ w.heap.size) (hB' : B' ≤ w.heap.size) (hn : n ≤ 1048576) (hn' : n' ≤ 1048576) :
    Calls Try.prog 16 #[.agg #[.int .i64 r, .int .i64 c, .slice A n cap], .agg #[.int .i64 r2, .int .i64 c2, .slice A' n' cap']] w (BV (.bool (sameB r c xs r2 c2 ys)) w) := by
  have hlx := h.len
  have hly := h'.len
  have hx2 : xs.length ≤ n ∧ n ≤ xs.length := by omega
  have hy2 : ys.length ≤ n' ∧ n' ≤ ys.length := by omega
  have H2 := Lib.hid (h.more hB)
  have H3 := Lib.hid (h'.more hB')
  clear h h' hlx hly
  by_cases hr : r = r2
  · subst hr
    by_cases hc : c = c2
    · subst hc
      have HE := Lib.hid (sameB_e (r := r) (c := c) (xs := xs) (ys := ys))
      generalize sameB r c xs r c ys = res at *
      by_cases hnn : n = n'
      · subst hnn
        go_enter Try.func16, Try.ntmps16
        go_wp2_with fail
        go_loopw [5] (fun v wr => ∃ k : Nat, v = .int .i64 k ∧ k ≤ n ∧ xs.take k = ys.take k ∧ BM wr w.heap.size r c A n cap ∧ BM wr (w.heap.size + 1) r c A' n cap' ∧ Below w.heap.size w wr) (fun v _ => n - (intOf v).toNat)
        case atStart => exact ⟨0, rfl, Nat.zero_le _, rfl, Ka, Ka, Kw⟩
        case round =>
          obtain ⟨k, rfl, hk, ht, hA, hB2, hbw⟩ := hrel
          have HT := Lib.hid ht
          clear ht
          obtain ⟨aa, ab, ac, af, al⟩ := hA.mx
          obtain ⟨ba, bb, bc, bf, bl⟩ := hB2.mx
          by_cases hlt : k < n
          · obtain ⟨b, o, rfl, hbb, hcx⟩ := (H2.out.below hbw (Nat.le_refl _)).2 (by omega)
            obtain ⟨b', o', rfl, hbb', hcy⟩ := (H3.out.below hbw (Nat.le_refl _)).2 (by omega)
            have c1 := hcx k hlt
            have c2 := hcy k hlt
            clear hcx hcy
            by_cases he : xs.getD k 0 = ys.getD k 0
            · have HS := Lib.hid (take_next (show k < xs.length by omega) (by omega) HT.out he)
              have hbe : (xs.getD k 0 != ys.getD k 0) = false := by simp only [he, bne_self_eq_false]
              rw [he] at c1 hbe
              clear he
              generalize ys.getD k 0 = z at *
              go_wp2_with fail
              go_quiet (fail)
              go_wp2_with fail
              go_roundw
              case rel => exact ⟨k + 1, by go_num, by omega, HS.out, Kb hA, Kb hB2, Kw⟩
              case measure => simp only [intOf]; omega
            · have HN : Hid (eqB xs ys = false) := Lib.hid (by
                unfold eqB
                rw [decide_eq_false_iff_not]
                intro e
                exact he (by rw [e]))
              have hbe : (xs.getD k 0 != ys.getD k 0) = true := by simpa using he
              clear he
              generalize xs.getD k 0 = z1 at *
              generalize ys.getD k 0 = z2 at *
              go_wp2_with fail
              go_quiet (fail)
              go_wp2_with fail
              go_ret
              exact BV.mk (vbool (by rw [HE.out, HN.out])) Kw
          · obtain rfl : k = n := by omega
            have HN : Hid (eqB xs ys = true) := Lib.hid (by
              have := HT.out
              rw [List.take_of_length_le (by omega), List.take_of_length_le (by omega)] at this
              unfold eqB
              rw [decide_eq_true_eq]
              exact this)
            go_wp2_with fail
            go_ret
            exact BV.mk (vbool (by rw [HE.out, HN.out])) Kw
      · have HN : Hid (eqB xs ys = false) := Lib.hid (by
          unfold eqB
          rw [decide_eq_false_iff_not]
          intro e
          exact hnn (by rw [e] at hx2; omega))
        have hb : ((n : Int) != (n' : Int)) = true := by simp; omega
        clear hnn
        go_enter Try.func16, Try.ntmps16
        go_wp2_with fail
        go_ret
        exact BV.mk (vbool (by rw [HE.out, HN.out])) Kw
    · have HE := Lib.hid (sameB_c (r := r) (xs := xs) (r2 := r) (ys := ys) hc)
      have hb : (c != c2) = true := by simpa using hc
      clear hc
      go_enter Try.func16, Try.ntmps16
      go_wp2_with fail
      go_ret
      exact BV.mk (vbool (by rw [HE.out])) Kw
  · have HE := Lib.hid (sameB_r (c := c) (xs := xs) (c2 := c2) (ys := ys) hr)
    have hb : (r != r2) = true := by simpa using hr
    clear hr
    go_enter Try.func16, Try.ntmps16
    go_wp2_with fail
    go_ret
    exact BV.mk (vbool (by rw [HE.out])) Kw
end Go.Proofs.Ytlggfmfelakadaa

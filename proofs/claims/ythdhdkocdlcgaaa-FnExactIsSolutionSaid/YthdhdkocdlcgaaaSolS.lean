/-
  DERIVED. IsSolution of the reference.
-/
import Derived.Test.YthdhdkocdlcgaaaTimes
namespace Go.Proofs.Ythdhdkocdlcgaaa
open Go.RowKit
set_option linter.unusedVariables false
set_option linter.unusedSimpArgs false
set_option maxRecDepth 100000 in
set_option maxHeartbeats 4000000 in
theorem spec_IsSolution (r c : Int) (A A2 A3 : Option Addr) (n cap n2 cap2 n3 cap3 : Nat) (xs b x : List Int) (w : World) {B B2 B3' : Nat} (h : RI w B A n xs) (h2 : RI w B2 A2 n2 b) (h3 : RI w B3' A3 n3 x) (hB : B ≤ w.heap.size) (hB2 : B2 ≤ w.heap.size) (hB3 : B3' ≤ w.heap.size)
    (hn : n ≤ 1048576) (hn2 : n2 ≤ 1048576) (hn3 : n3 ≤ 1048576) :
    Calls Try.prog 16 #[.agg #[.int .i64 r, .int .i64 c, .slice A n cap], .slice A2 n2 cap2, .slice A3 n3 cap3] w (BV (.bool (solB r c xs b x)) w) := by
  have hl3 := h3.len
  have hl2 := h2.len
  have H1 := Lib.hid (h.more hB)
  have H2 := Lib.hid (h2.more hB2)
  have H3 := Lib.hid (h3.more hB3)
  have HE : Hid (solB r c xs b x = (mulB r c xs n3 1 x && eqB (mulM r c xs n3 1 x).xs b)) := Lib.hid (by rw [← hl3]; rfl)
  have hlb : b.length ≤ n2 ∧ n2 ≤ b.length := by omega
  have hml := mulM_len r c xs n3 1 x
  clear h h2 h3 hB hB2 hB3 hl3 hl2
  rw [HE.out]
  rcases hres : mulB r c xs n3 1 x with _ | _
  · rw [Bool.false_and]
    have HRES := Lib.hid hres
    clear hres
    go_enter Try.func16, Try.ntmps16
    go_wp2_with fail
    refine (spec_l14Times r c A A3 n cap n3 cap3 xs x _ (B := w.heap.size) (B3' := w.heap.size) (by (repeat (first | (with_reducible exact H1.out) | (with_reducible refine RI.drew ?_) | (with_reducible refine RI.drewN ?_ _) | (with_reducible refine RI.alloc ?_ (by first | omega | (simp; done) | (simp; omega)) _) | (with_reducible refine RI.setCell ?_ (by first | omega | (simp; done) | (simp; omega)) _) | (with_reducible refine RI.below ?_ (by assumption) (by first | omega | (simp; done) | (simp; omega)))))) (by (repeat (first | (with_reducible exact H3.out) | (with_reducible refine RI.drew ?_) | (with_reducible refine RI.drewN ?_ _) | (with_reducible refine RI.alloc ?_ (by first | omega | (simp; done) | (simp; omega)) _) | (with_reducible refine RI.setCell ?_ (by first | omega | (simp; done) | (simp; omega)) _) | (with_reducible refine RI.below ?_ (by assumption) (by first | omega | (simp; done) | (simp; omega)))))) (by first | omega | (simp; done) | (simp; omega)) (by first | omega | (simp; done) | (simp; omega)) hn hn3).mono ?_
    rw [HRES.out]
    rintro e w1 ⟨Ar, nr, cr, rfl, ho, hb1⟩
    go_wp2_with fail
    go_ret
    exact BV.mk rfl (by (repeat (first | (with_reducible exact Below.refl _ _) | (with_reducible assumption) | (with_reducible refine below_drewN ?_ _) | (with_reducible refine Below.drew ?_) | (with_reducible refine Below.alloc ?_ ?_ _) | (with_reducible refine Below.setCell ?_ ?_ _) | (with_reducible refine below_into ?_ (by assumption) (by first | omega | (simp; done) | (simp; omega))) | go_size)))
  · rw [Bool.true_and]
    have HRES := Lib.hid hres
    clear hres
    generalize hys : (mulM r c xs n3 1 x).xs = ys at *
    have HYS := Lib.hid hys
    clear hys
    go_enter Try.func16, Try.ntmps16
    go_wp2_with fail
    refine (spec_l14Times r c A A3 n cap n3 cap3 xs x _ (B := w.heap.size) (B3' := w.heap.size) (by (repeat (first | (with_reducible exact H1.out) | (with_reducible refine RI.drew ?_) | (with_reducible refine RI.drewN ?_ _) | (with_reducible refine RI.alloc ?_ (by first | omega | (simp; done) | (simp; omega)) _) | (with_reducible refine RI.setCell ?_ (by first | omega | (simp; done) | (simp; omega)) _) | (with_reducible refine RI.below ?_ (by assumption) (by first | omega | (simp; done) | (simp; omega)))))) (by (repeat (first | (with_reducible exact H3.out) | (with_reducible refine RI.drew ?_) | (with_reducible refine RI.drewN ?_ _) | (with_reducible refine RI.alloc ?_ (by first | omega | (simp; done) | (simp; omega)) _) | (with_reducible refine RI.setCell ?_ (by first | omega | (simp; done) | (simp; omega)) _) | (with_reducible refine RI.below ?_ (by assumption) (by first | omega | (simp; done) | (simp; omega)))))) (by first | omega | (simp; done) | (simp; omega)) (by first | omega | (simp; done) | (simp; omega)) hn hn3).mono ?_
    rw [HRES.out, HYS.out]
    rintro e w1 ⟨Ar, nr, cr, rfl, ho, hb1⟩
    have hs1 := hb1.size
    simp at hs1
    have hbw1 : Below w.heap.size w w1 := by (repeat (first | (with_reducible exact Below.refl _ _) | (with_reducible assumption) | (with_reducible refine below_drewN ?_ _) | (with_reducible refine Below.drew ?_) | (with_reducible refine Below.alloc ?_ ?_ _) | (with_reducible refine Below.setCell ?_ ?_ _) | (with_reducible refine below_into ?_ (by assumption) (by first | omega | (simp; done) | (simp; omega))) | go_size))
    have hnr : ys.length ≤ nr ∧ nr ≤ ys.length := by have h8 := ho.lenEq; omega
    have HO := Lib.hid ho.reads
    clear ho hb1
    by_cases hnn : nr = n2
    · have hnb : ((nr : Int) != (n2 : Int)) = false := by simp; omega
      have hn1 : nr ≤ n2 ∧ n2 ≤ nr := by omega
      clear hnn
      go_wp2_with fail
      go_loopw [9] (fun v wr => ∃ k nd : Nat, v = .int .i64 k ∧ k ≤ n2 ∧ ys.take k = b.take k ∧ wr = w1.drewN nd) (fun v _ => n2 - (intOf v).toNat)
      case atStart => exact ⟨0, 0, rfl, Nat.zero_le _, by simp, rfl⟩
      case round =>
        obtain ⟨k, nd, rfl, hk, heq0, rfl⟩ := hrel
        have heq := Lib.hid heq0
        clear heq0
        by_cases hlt : k < n2
        · obtain ⟨b1, o1, rfl, hbb, hcells⟩ := HO.out.2 (by omega)
          obtain ⟨b2, o2, rfl, hbb2, hcells2⟩ := H2.out.2 (by omega)
          have c1 := hcells k (by omega)
          have c2 := (hbw1.cell (p := ⟨b2, o2 + k, none⟩) hbb2).trans (hcells2 k (by omega))
          clear hcells hcells2
          by_cases he : ys.getD k 0 = b.getD k 0
          · have hnext := Lib.hid (take_next (show k < ys.length by omega) (show k < b.length by omega) heq.out he)
            have heb : (b.getD k 0 != ys.getD k 0) = false := by simp only [bne_eq_false_iff_eq]; exact he.symm
            clear he
            generalize ys.getD k 0 = p at c1 heb
            generalize b.getD k 0 = q at c2 heb
            go_wp2
            go_region
            all_goals go_wp2
            go_roundw
            case rel => exact ⟨k + 1, nd + 1, by go_num, by omega, hnext.out, rfl⟩
            case measure => simp only [intOf]; omega
          · have hne : eqB ys b = false := by
              unfold eqB
              rw [decide_eq_false_iff_not]
              intro e
              exact he (by rw [e])
            have heb : (b.getD k 0 != ys.getD k 0) = true := by simp only [bne_iff_ne, ne_eq]; exact fun h => he h.symm
            have HNE := Lib.hid hne
            clear he hne
            generalize ys.getD k 0 = p at c1 heb
            generalize b.getD k 0 = q at c2 heb
            go_wp2
            go_region
            all_goals go_wp2
            go_ret
            exact BV.mk (vbool HNE.out.symm) (by (repeat (first | (with_reducible exact Below.refl _ _) | (with_reducible assumption) | (with_reducible refine below_drewN ?_ _) | (with_reducible refine Below.drew ?_) | (with_reducible refine Below.alloc ?_ ?_ _) | (with_reducible refine Below.setCell ?_ ?_ _) | (with_reducible refine below_into ?_ (by assumption) (by first | omega | (simp; done) | (simp; omega))) | go_size)))
        · have hall : eqB ys b = true := by
            unfold eqB
            have := heq.out
            rw [List.take_of_length_le (by omega), List.take_of_length_le (by omega)] at this
            simpa using this
          have HALL := Lib.hid hall
          clear hall
          go_wp2
          go_ret
          exact BV.mk (vbool HALL.out.symm) (by (repeat (first | (with_reducible exact Below.refl _ _) | (with_reducible assumption) | (with_reducible refine below_drewN ?_ _) | (with_reducible refine Below.drew ?_) | (with_reducible refine Below.alloc ?_ ?_ _) | (with_reducible refine Below.setCell ?_ ?_ _) | (with_reducible refine below_into ?_ (by assumption) (by first | omega | (simp; done) | (simp; omega))) | go_size)))
    · have hnb : ((nr : Int) != (n2 : Int)) = true := by simp; omega
      have hne : eqB ys b = false := by
        unfold eqB
        rw [decide_eq_false_iff_not]
        intro e
        rw [e] at hnr
        omega
      have HNE := Lib.hid hne
      clear hne hnn
      go_wp2_with fail
      go_ret
      exact BV.mk (vbool HNE.out.symm) (by (repeat (first | (with_reducible exact Below.refl _ _) | (with_reducible assumption) | (with_reducible refine below_drewN ?_ _) | (with_reducible refine Below.drew ?_) | (with_reducible refine Below.alloc ?_ ?_ _) | (with_reducible refine Below.setCell ?_ ?_ _) | (with_reducible refine below_into ?_ (by assumption) (by first | omega | (simp; done) | (simp; omega))) | go_size)))
end Go.Proofs.Ythdhdkocdlcgaaa

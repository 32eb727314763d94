/-
  DERIVED. The law FnReconstruct: a ratio with small parts comes back from its residue.
-/
import Derived.Test.YtcpbaagnjofjfaaDrR
import Derived.Test.YtcpbaagnjofjfaaPlRe
import Derived.Test.YtcpbaagnjofjfaaLaw3
namespace Go.Proofs.Ytcpbaagnjofjfaa
open Go.RowKit
set_option linter.unusedVariables false
set_option linter.unusedSimpArgs false
theorem laws_big (A : Option Addr) (n cap : Nat) (w : World) : Calls Try.prog 13 #[.slice A n cap] w (EV (.bool (decide (1048576 < n))) w) := by
  go_enter Try.func13, Try.ntmps13
  go_wp2
  go_ret
  exact EV.mk (vbool (by first | rfl | (simp; omega)))
theorem laws_abs (x : Int) (h1 : -4611686018427387904 ≤ x) (h2 : x ≤ 4611686018427387904) (w : World) : Calls Try.prog 18 #[.int .i64 x] w (EV (.int .i64 (x.natAbs : Nat)) w) := by
  go_enter Try.func18, Try.ntmps18
  go_wp2
  all_goals go_ret
  all_goals exact EV.mk (vint (by omega))
theorem rbd_bd {n d m : Int} (h : resOk n d m = true) : 1 ≤ rbd n d ∧ rbd n d ≤ 400000000 := by
  obtain ⟨_, h2, _⟩ := resVal_yes h
  have := ratOk_bds h2
  unfold rbd
  omega
set_option maxRecDepth 100000 in
set_option maxHeartbeats 8000000 in
theorem law_FnReconstruct (w : World) (A : Option Addr) (n cap : Nat) (xs : List Int) (hnc : n ≤ cap) (hcm : cap ≤ maxLen) (hby : RB w w.heap.size A n xs) :
    Calls Try.prog 3 #[.slice A n cap] w fun e w' => e = .returned (.bool true) ∧ Below w.heap.size w w' := by
  by_cases hn : 1048576 < n
  · go_enter Try.func3, Try.ntmps3
    go_wp2_with (go_at_call 13; refine (laws_big A n cap _).mono ?_; rintro e w1 ⟨rfl, rfl⟩)
    go_ret
    exact ⟨rfl, Below.refl _ _⟩
  · go_enter Try.func3, Try.ntmps3
    go_wp2_with (go_at_call 13; refine (laws_big A n cap _).mono ?_; rintro e w1 ⟨rfl, rfl⟩)
    refine (spec_DrawResidueOf n cap A xs _ hby (by omega)).mono ?_
    rintro e w1 ⟨q, m, rfl, ⟨nx, dx, rfl, ⟨n1, n2⟩, d1, d2⟩, ⟨m1, m2⟩, hbw⟩
    have hsz := hbw.size
    rcases hr : resOk nx dx m with _ | _
    · have hv : resVal nx dx m = 0 := by unfold resVal; rw [hr]; rfl
      have HR := Lib.hid hr
      have HV := Lib.hid hv
      clear hr hv hby
      go_wp2_with (first | (go_at_call 15; refine (impl_ResidueOf nx dx m _).mono ?_; rw [HR.out, HV.out]; rintro e w2 ⟨rfl, hb2⟩; (have hQ_1 : BQ w2 w1.heap.size nx dx := (by (repeat (first | (with_reducible exact hQ) | (with_reducible refine Blk.new_at _ _ _ _ (by first | omega | (simp; done) | (simp; omega))) | (with_reducible refine Blk.below ?_ (by assumption) (by first | omega | (simp; done) | (simp; omega))) | (with_reducible apply Blk.drew) | (with_reducible apply Blk.drewN) | (with_reducible refine Blk.far ?_ (by simp only [ne_eq]; omega) _) | (with_reducible apply Blk.alloc))))); (have hbw_1 : Below w.heap.size w w2 := (by (repeat (first | (with_reducible exact Below.refl _ _) | (with_reducible assumption) | (with_reducible refine below_drewN ?_ _) | (with_reducible refine Below.drew ?_) | (with_reducible refine Below.alloc ?_ ?_ _) | (with_reducible refine Below.setCell ?_ ?_ _) | (with_reducible refine below_into ?_ (by assumption) (by first | omega | (simp; done) | (simp; omega))) | go_size)))); (have hz := hb2.size); (try simp at hz); (try clear hQ q0 q1 qf ql); clear hb2 hbw; have hQ := hQ_1; have hbw := hbw_1; clear hQ_1 hbw_1; obtain ⟨q0, q1, qf, ql⟩ := hQ.cells) | (go_at_call 16; refine (spec_ResidueOf nx dx m _).mono ?_; rw [HR.out, HV.out]; rintro e w2 ⟨rfl, hb2⟩; (have hQ_1 : BQ w2 w1.heap.size nx dx := (by (repeat (first | (with_reducible exact hQ) | (with_reducible refine Blk.new_at _ _ _ _ (by first | omega | (simp; done) | (simp; omega))) | (with_reducible refine Blk.below ?_ (by assumption) (by first | omega | (simp; done) | (simp; omega))) | (with_reducible apply Blk.drew) | (with_reducible apply Blk.drewN) | (with_reducible refine Blk.far ?_ (by simp only [ne_eq]; omega) _) | (with_reducible apply Blk.alloc))))); (have hbw_1 : Below w.heap.size w w2 := (by (repeat (first | (with_reducible exact Below.refl _ _) | (with_reducible assumption) | (with_reducible refine below_drewN ?_ _) | (with_reducible refine Below.drew ?_) | (with_reducible refine Below.alloc ?_ ?_ _) | (with_reducible refine Below.setCell ?_ ?_ _) | (with_reducible refine below_into ?_ (by assumption) (by first | omega | (simp; done) | (simp; omega))) | go_size)))); (have hz := hb2.size); (try simp at hz); (try clear hQ q0 q1 qf ql); clear hb2 hbw; have hQ := hQ_1; have hbw := hbw_1; clear hQ_1 hbw_1; obtain ⟨q0, q1, qf, ql⟩ := hQ.cells))
      go_ret
      exact ⟨rfl, by (repeat (first | (with_reducible exact Below.refl _ _) | (with_reducible assumption) | (with_reducible refine below_drewN ?_ _) | (with_reducible refine Below.drew ?_) | (with_reducible refine Below.alloc ?_ ?_ _) | (with_reducible refine Below.setCell ?_ ?_ _) | (with_reducible refine below_into ?_ (by assumption) (by first | omega | (simp; done) | (simp; omega))) | go_size))⟩
    · have hi := resVal_img hr
      obtain ⟨⟨k1, k2⟩, k3, k4, k5, -⟩ := resVal_yes hr
      obtain ⟨j1, j2, j3, j4⟩ := ratOk_bds k3
      have HR := Lib.hid hr
      have HI := Lib.hid hi
      have HB := Lib.hid (fun h1 h2 => rf_back hr h1 h2)
      have hrb := rbd_bd hr
      clear hr hi k3 hby
      generalize hv : resVal nx dx m = v at *
      have HV := Lib.hid hv
      clear hv
      go_wp2_with (first | (go_at_call 15; refine (impl_ResidueOf nx dx m _).mono ?_; rw [HR.out, HV.out]; rintro e w2 ⟨rfl, hb2⟩; (have hQ_1 : BQ w2 w1.heap.size nx dx := (by (repeat (first | (with_reducible exact hQ) | (with_reducible refine Blk.new_at _ _ _ _ (by first | omega | (simp; done) | (simp; omega))) | (with_reducible refine Blk.below ?_ (by assumption) (by first | omega | (simp; done) | (simp; omega))) | (with_reducible apply Blk.drew) | (with_reducible apply Blk.drewN) | (with_reducible refine Blk.far ?_ (by simp only [ne_eq]; omega) _) | (with_reducible apply Blk.alloc))))); (have hbw_1 : Below w.heap.size w w2 := (by (repeat (first | (with_reducible exact Below.refl _ _) | (with_reducible assumption) | (with_reducible refine below_drewN ?_ _) | (with_reducible refine Below.drew ?_) | (with_reducible refine Below.alloc ?_ ?_ _) | (with_reducible refine Below.setCell ?_ ?_ _) | (with_reducible refine below_into ?_ (by assumption) (by first | omega | (simp; done) | (simp; omega))) | go_size)))); (have hz := hb2.size); (try simp at hz); (try clear hQ q0 q1 qf ql); clear hb2 hbw; have hQ := hQ_1; have hbw := hbw_1; clear hQ_1 hbw_1; obtain ⟨q0, q1, qf, ql⟩ := hQ.cells) | (go_at_call 16; refine (spec_ResidueOf nx dx m _).mono ?_; rw [HR.out, HV.out]; rintro e w2 ⟨rfl, hb2⟩; (have hQ_1 : BQ w2 w1.heap.size nx dx := (by (repeat (first | (with_reducible exact hQ) | (with_reducible refine Blk.new_at _ _ _ _ (by first | omega | (simp; done) | (simp; omega))) | (with_reducible refine Blk.below ?_ (by assumption) (by first | omega | (simp; done) | (simp; omega))) | (with_reducible apply Blk.drew) | (with_reducible apply Blk.drewN) | (with_reducible refine Blk.far ?_ (by simp only [ne_eq]; omega) _) | (with_reducible apply Blk.alloc))))); (have hbw_1 : Below w.heap.size w w2 := (by (repeat (first | (with_reducible exact Below.refl _ _) | (with_reducible assumption) | (with_reducible refine below_drewN ?_ _) | (with_reducible refine Below.drew ?_) | (with_reducible refine Below.alloc ?_ ?_ _) | (with_reducible refine Below.setCell ?_ ?_ _) | (with_reducible refine below_into ?_ (by assumption) (by first | omega | (simp; done) | (simp; omega))) | go_size)))); (have hz := hb2.size); (try simp at hz); (try clear hQ q0 q1 qf ql); clear hb2 hbw; have hQ := hQ_1; have hbw := hbw_1; clear hQ_1 hbw_1; obtain ⟨q0, q1, qf, ql⟩ := hQ.cells) | (go_at_call 17; refine (impl_IsImage nx dx v m _).mono ?_; rw [HI.out]; rintro e w2 ⟨rfl, hb2⟩; (have hQ_1 : BQ w2 w1.heap.size nx dx := (by (repeat (first | (with_reducible exact hQ) | (with_reducible refine Blk.new_at _ _ _ _ (by first | omega | (simp; done) | (simp; omega))) | (with_reducible refine Blk.below ?_ (by assumption) (by first | omega | (simp; done) | (simp; omega))) | (with_reducible apply Blk.drew) | (with_reducible apply Blk.drewN) | (with_reducible refine Blk.far ?_ (by simp only [ne_eq]; omega) _) | (with_reducible apply Blk.alloc))))); (have hbw_1 : Below w.heap.size w w2 := (by (repeat (first | (with_reducible exact Below.refl _ _) | (with_reducible assumption) | (with_reducible refine below_drewN ?_ _) | (with_reducible refine Below.drew ?_) | (with_reducible refine Below.alloc ?_ ?_ _) | (with_reducible refine Below.setCell ?_ ?_ _) | (with_reducible refine below_into ?_ (by assumption) (by first | omega | (simp; done) | (simp; omega))) | go_size)))); (have hz := hb2.size); (try simp at hz); (try clear hQ q0 q1 qf ql); clear hb2 hbw; have hQ := hQ_1; have hbw := hbw_1; clear hQ_1 hbw_1; obtain ⟨q0, q1, qf, ql⟩ := hQ.cells))
      have hne : (1 : Int) ≤ (nx.natAbs : Nat) ∨ nx.natAbs = 0 := by omega
      have hcs : ∃ y : Int, rbd nx dx = y ∧ 1 ≤ y ∧ y ≤ 400000000 ∧ ((nx.natAbs : Int) < dx ∧ y = dx ∨ dx < (nx.natAbs : Int) ∧ y = nx.natAbs ∨ (nx.natAbs : Int) = dx ∧ y = dx) := ⟨_, rfl, hrb.1, hrb.2, by unfold rbd; omega⟩
      obtain ⟨y, hy, y1, y2, hcs⟩ := hcs
      rw [hy] at HB
      have HY := Lib.hid hy
      clear hy hrb hne
      rcases hcs with ⟨c1, c2⟩ | ⟨c1, c2⟩ | ⟨c1, c2⟩
      all_goals (have c5 := c2.symm; clear c2; subst c5)
      all_goals rcases Int.lt_or_eq_of_le y1 with c3 | c3
      · have c4 : (1 : Int) < dx := c3
        ((refine wp_region_held_drew (S := (fun w' => w'.cell? ⟨w1.heap.size, 0, none⟩ = some (.int .i64 nx) ∧ w'.cell? ⟨w1.heap.size, 1, none⟩ = some (.int .i64 dx))) (by kernel_rfl) ?_ (fun hHeld => ?_)); ((focus ((try dsimp only); (go_keep)))); ((refine wpAnyH_take (i := 0) (v := ?_) (by (first | (simp only [List.getElem?_toArray, List.getElem?_cons_succ, List.getElem?_cons_zero]; done) | (simp only [List.getElem?_toArray, List.getElem?_cons_succ, List.getElem?_cons_zero]; rfl))) (by kernel_rfl) (by kernel_rfl) (by kernel_rfl) (by exact fun _ _ _ h => h) (Or.inl ⟨by rfl, ?_⟩) (by assumption) ?_; rotate_left; (focus (((intro w hSw; (try dsimp only at hSw); go_simp) <;> (try with_reducible rfl)); done)); (try simp only [Act.put, List.setIfInBounds_toArray, List.set_cons_zero, List.set_cons_succ]))); ((refine wpAnyH_take (i := 1) (v := ?_) (by (first | (simp only [List.getElem?_toArray, List.getElem?_cons_succ, List.getElem?_cons_zero]; done) | (simp only [List.getElem?_toArray, List.getElem?_cons_succ, List.getElem?_cons_zero]; rfl))) (by kernel_rfl) (by kernel_rfl) (by kernel_rfl) (by exact fun _ _ _ h => h) (Or.inl ⟨by rfl, ?_⟩) (by assumption) ?_; rotate_left; (focus (((intro w hSw; (try dsimp only at hSw); go_simp) <;> (try with_reducible rfl)); done)); (try simp only [Act.put, List.setIfInBounds_toArray, List.set_cons_zero, List.set_cons_succ]))); ((refine wpAnyH_take (i := 3) (v := ?_) (by (first | (simp only [List.getElem?_toArray, List.getElem?_cons_succ, List.getElem?_cons_zero]; done) | (simp only [List.getElem?_toArray, List.getElem?_cons_succ, List.getElem?_cons_zero]; rfl))) (by kernel_rfl) (by kernel_rfl) (by kernel_rfl) (by exact fun _ _ _ h => h) (Or.inl ⟨by rfl, ?_⟩) (by assumption) ?_; rotate_left; (focus (((intro w hSw; (try dsimp only at hSw); go_simp) <;> (try with_reducible rfl)); done)); (try simp only [Act.put, List.setIfInBounds_toArray, List.set_cons_zero, List.set_cons_succ]))); ((refine wpAnyH_take (i := 4) (v := ?_) (by (first | (simp only [List.getElem?_toArray, List.getElem?_cons_succ, List.getElem?_cons_zero]; done) | (simp only [List.getElem?_toArray, List.getElem?_cons_succ, List.getElem?_cons_zero]; rfl))) (by kernel_rfl) (by kernel_rfl) (by kernel_rfl) (by exact fun _ _ _ h => h) (Or.inl ⟨by rfl, ?_⟩) (by assumption) ?_; rotate_left; (focus (((intro w hSw; (try dsimp only at hSw); go_simp) <;> (try with_reducible rfl)); done)); (try simp only [Act.put, List.setIfInBounds_toArray, List.set_cons_zero, List.set_cons_succ]))); ((refine wpAnyH_ready (rs := [2]) (by kernel_rfl) (by simp) ?_; refine AllReadyH.cons (by (first | (simp only [List.getElem?_toArray, List.getElem?_cons_succ, List.getElem?_cons_zero]; done) | (simp only [List.getElem?_toArray, List.getElem?_cons_succ, List.getElem?_cons_zero]; rfl))) (fun K hK => ?_) AllReadyH.nil; go_simp; (go_at_call 18; refine (laws_abs nx (by omega) (by omega) _).mono ?_; rintro e w2 ⟨rfl, rfl⟩); (try go_wp2_with fail); refine hK.out _ _ ?_ (fun hHeld => ?_); (focus ((try dsimp only); (go_keep))); clear hK K; (try simp only [Act.put, List.setIfInBounds_toArray, List.set_cons_zero, List.set_cons_succ]))); ((refine wpAnyH_ready (rs := [5]) (by kernel_rfl) (by simp) ?_; refine AllReadyH.cons (by (first | (simp only [List.getElem?_toArray, List.getElem?_cons_succ, List.getElem?_cons_zero]; done) | (simp only [List.getElem?_toArray, List.getElem?_cons_succ, List.getElem?_cons_zero]; rfl))) (fun K hK => ?_) AllReadyH.nil; go_simp; skip; (try go_wp2_with fail); refine hK.out _ _ ?_ (fun hHeld => ?_); (focus ((try dsimp only); (go_keep))); clear hK K; (try simp only [Act.put, List.setIfInBounds_toArray, List.set_cons_zero, List.set_cons_succ]))); ((refine wpAnyH_ready (rs := [6]) (by kernel_rfl) (by simp) ?_; refine AllReadyH.cons (by (first | (simp only [List.getElem?_toArray, List.getElem?_cons_succ, List.getElem?_cons_zero]; done) | (simp only [List.getElem?_toArray, List.getElem?_cons_succ, List.getElem?_cons_zero]; rfl))) (fun K hK => ?_) AllReadyH.nil; go_simp; skip; (try go_wp2_with fail); refine hK.out _ _ ?_ (fun hHeld => ?_); (focus ((try dsimp only); (go_keep))); clear hK K; (try simp only [Act.put, List.setIfInBounds_toArray, List.set_cons_zero, List.set_cons_succ]))); ((refine wpAnyH_take (i := 7) (v := ?_) (by (first | (simp only [List.getElem?_toArray, List.getElem?_cons_succ, List.getElem?_cons_zero]; done) | (simp only [List.getElem?_toArray, List.getElem?_cons_succ, List.getElem?_cons_zero]; rfl))) (by kernel_rfl) (by kernel_rfl) (by kernel_rfl) (by exact fun _ _ _ h => h) (Or.inl ⟨by rfl, ?_⟩) (by assumption) ?_; rotate_left; (focus (((intro w hSw; (try dsimp only at hSw); go_simp) <;> (try with_reducible rfl)); done)); (try simp only [Act.put, List.setIfInBounds_toArray, List.set_cons_zero, List.set_cons_succ]))); (refine wpAnyH_done (by kernel_rfl) ?_ _))
        obtain ⟨hQ0, hb0⟩ : (BQ w2.drew w1.heap.size nx dx ∧ Below w.heap.size w w2.drew) := ⟨hQ.drew, hbw.drew⟩
        go_wp2_with fail
        by_cases t1 : 20000 < dx
        · refine (impl_RatioFrom v m (dx) _).mono ?_
          rintro e w3 ⟨rfl, hb3⟩
          generalize rfRes v m (dx) = o
          have hs3 := hb3.size
          (try simp at hs3)
          have hQ3 : BQ w3 w1.heap.size nx dx := Blk.below (Blk.drew hQ) hb3 (by first | exact ql | (simp; omega))
          have hbw3 : Below w.heap.size w w3 := by (repeat (first | (with_reducible exact Below.refl _ _) | (with_reducible assumption) | (with_reducible refine below_drewN ?_ _) | (with_reducible refine Below.drew ?_) | (with_reducible refine Below.alloc ?_ ?_ _) | (with_reducible refine Below.setCell ?_ ?_ _) | (with_reducible refine below_into ?_ (by assumption) (by first | omega | (simp; done) | (simp; omega))) | go_size))
          obtain ⟨r0, r1, rf, rl⟩ := hQ3.cells
          clear hQ hbw q0 q1 qf ql hb3
          rcases o with _ | ⟨a, b⟩ <;> simp only [rfV]
          all_goals go_wp2
          all_goals go_ret
          all_goals exact ⟨rfl, by (repeat (first | (with_reducible exact Below.refl _ _) | (with_reducible assumption) | (with_reducible refine below_drewN ?_ _) | (with_reducible refine Below.drew ?_) | (with_reducible refine Below.alloc ?_ ?_ _) | (with_reducible refine Below.setCell ?_ ?_ _) | (with_reducible refine below_into ?_ (by assumption) (by first | omega | (simp; done) | (simp; omega))) | go_size))⟩
        · obtain ⟨s1, s2, s3⟩ := sq20000 (dx) (by omega) (by omega)
          have s4 : 2 * (dx) * (dx) ≤ 800000000 := by omega
          have s5 : 0 ≤ 2 * (dx) * (dx) := by omega
          clear s3
          by_cases t2 : m ≤ 2 * (dx) * (dx)
          · refine (impl_RatioFrom v m (dx) _).mono ?_
            rintro e w3 ⟨rfl, hb3⟩
            generalize rfRes v m (dx) = o
            have hs3 := hb3.size
            (try simp at hs3)
            have hQ3 : BQ w3 w1.heap.size nx dx := Blk.below (Blk.drew hQ) hb3 (by first | exact ql | (simp; omega))
            have hbw3 : Below w.heap.size w w3 := by (repeat (first | (with_reducible exact Below.refl _ _) | (with_reducible assumption) | (with_reducible refine below_drewN ?_ _) | (with_reducible refine Below.drew ?_) | (with_reducible refine Below.alloc ?_ ?_ _) | (with_reducible refine Below.setCell ?_ ?_ _) | (with_reducible refine below_into ?_ (by assumption) (by first | omega | (simp; done) | (simp; omega))) | go_size))
            obtain ⟨r0, r1, rf, rl⟩ := hQ3.cells
            clear hQ hbw q0 q1 qf ql hb3
            rcases o with _ | ⟨a, b⟩ <;> simp only [rfV]
            all_goals go_wp2
            all_goals go_ret
            all_goals exact ⟨rfl, by (repeat (first | (with_reducible exact Below.refl _ _) | (with_reducible assumption) | (with_reducible refine below_drewN ?_ _) | (with_reducible refine Below.drew ?_) | (with_reducible refine Below.alloc ?_ ?_ _) | (with_reducible refine Below.setCell ?_ ?_ _) | (with_reducible refine below_into ?_ (by assumption) (by first | omega | (simp; done) | (simp; omega))) | go_size))⟩
          · refine (impl_RatioFrom v m (dx) _).mono ?_
            rw [HB.out (by omega) (by omega)]
            rintro e w3 ⟨rfl, hb3⟩
            have hs3 := hb3.size
            (try simp at hs3)
            have hQ3 : BQ w3 w1.heap.size nx dx := Blk.below (Blk.drew hQ) hb3 (by first | exact ql | (simp; omega))
            have hbw3 : Below w.heap.size w w3 := by (repeat (first | (with_reducible exact Below.refl _ _) | (with_reducible assumption) | (with_reducible refine below_drewN ?_ _) | (with_reducible refine Below.drew ?_) | (with_reducible refine Below.alloc ?_ ?_ _) | (with_reducible refine Below.setCell ?_ ?_ _) | (with_reducible refine below_into ?_ (by assumption) (by first | omega | (simp; done) | (simp; omega))) | go_size))
            obtain ⟨r0, r1, rf, rl⟩ := hQ3.cells
            clear hQ hbw q0 q1 qf ql hb3
            simp only [rfV]
            go_wp2
            go_ret
            exact ⟨rfl, by (repeat (first | (with_reducible exact Below.refl _ _) | (with_reducible assumption) | (with_reducible refine below_drewN ?_ _) | (with_reducible refine Below.drew ?_) | (with_reducible refine Below.alloc ?_ ?_ _) | (with_reducible refine Below.setCell ?_ ?_ _) | (with_reducible refine below_into ?_ (by assumption) (by first | omega | (simp; done) | (simp; omega))) | go_size))⟩
      · have c4 : ¬ (1 : Int) < dx := by omega
        ((refine wp_region_held_drew (S := (fun w' => w'.cell? ⟨w1.heap.size, 0, none⟩ = some (.int .i64 nx) ∧ w'.cell? ⟨w1.heap.size, 1, none⟩ = some (.int .i64 dx))) (by kernel_rfl) ?_ (fun hHeld => ?_)); ((focus ((try dsimp only); (go_keep)))); ((refine wpAnyH_take (i := 0) (v := ?_) (by (first | (simp only [List.getElem?_toArray, List.getElem?_cons_succ, List.getElem?_cons_zero]; done) | (simp only [List.getElem?_toArray, List.getElem?_cons_succ, List.getElem?_cons_zero]; rfl))) (by kernel_rfl) (by kernel_rfl) (by kernel_rfl) (by exact fun _ _ _ h => h) (Or.inl ⟨by rfl, ?_⟩) (by assumption) ?_; rotate_left; (focus (((intro w hSw; (try dsimp only at hSw); go_simp) <;> (try with_reducible rfl)); done)); (try simp only [Act.put, List.setIfInBounds_toArray, List.set_cons_zero, List.set_cons_succ]))); ((refine wpAnyH_take (i := 1) (v := ?_) (by (first | (simp only [List.getElem?_toArray, List.getElem?_cons_succ, List.getElem?_cons_zero]; done) | (simp only [List.getElem?_toArray, List.getElem?_cons_succ, List.getElem?_cons_zero]; rfl))) (by kernel_rfl) (by kernel_rfl) (by kernel_rfl) (by exact fun _ _ _ h => h) (Or.inl ⟨by rfl, ?_⟩) (by assumption) ?_; rotate_left; (focus (((intro w hSw; (try dsimp only at hSw); go_simp) <;> (try with_reducible rfl)); done)); (try simp only [Act.put, List.setIfInBounds_toArray, List.set_cons_zero, List.set_cons_succ]))); ((refine wpAnyH_take (i := 3) (v := ?_) (by (first | (simp only [List.getElem?_toArray, List.getElem?_cons_succ, List.getElem?_cons_zero]; done) | (simp only [List.getElem?_toArray, List.getElem?_cons_succ, List.getElem?_cons_zero]; rfl))) (by kernel_rfl) (by kernel_rfl) (by kernel_rfl) (by exact fun _ _ _ h => h) (Or.inl ⟨by rfl, ?_⟩) (by assumption) ?_; rotate_left; (focus (((intro w hSw; (try dsimp only at hSw); go_simp) <;> (try with_reducible rfl)); done)); (try simp only [Act.put, List.setIfInBounds_toArray, List.set_cons_zero, List.set_cons_succ]))); ((refine wpAnyH_take (i := 4) (v := ?_) (by (first | (simp only [List.getElem?_toArray, List.getElem?_cons_succ, List.getElem?_cons_zero]; done) | (simp only [List.getElem?_toArray, List.getElem?_cons_succ, List.getElem?_cons_zero]; rfl))) (by kernel_rfl) (by kernel_rfl) (by kernel_rfl) (by exact fun _ _ _ h => h) (Or.inl ⟨by rfl, ?_⟩) (by assumption) ?_; rotate_left; (focus (((intro w hSw; (try dsimp only at hSw); go_simp) <;> (try with_reducible rfl)); done)); (try simp only [Act.put, List.setIfInBounds_toArray, List.set_cons_zero, List.set_cons_succ]))); ((refine wpAnyH_ready (rs := [2]) (by kernel_rfl) (by simp) ?_; refine AllReadyH.cons (by (first | (simp only [List.getElem?_toArray, List.getElem?_cons_succ, List.getElem?_cons_zero]; done) | (simp only [List.getElem?_toArray, List.getElem?_cons_succ, List.getElem?_cons_zero]; rfl))) (fun K hK => ?_) AllReadyH.nil; go_simp; (go_at_call 18; refine (laws_abs nx (by omega) (by omega) _).mono ?_; rintro e w2 ⟨rfl, rfl⟩); (try go_wp2_with fail); refine hK.out _ _ ?_ (fun hHeld => ?_); (focus ((try dsimp only); (go_keep))); clear hK K; (try simp only [Act.put, List.setIfInBounds_toArray, List.set_cons_zero, List.set_cons_succ]))); ((refine wpAnyH_ready (rs := [5]) (by kernel_rfl) (by simp) ?_; refine AllReadyH.cons (by (first | (simp only [List.getElem?_toArray, List.getElem?_cons_succ, List.getElem?_cons_zero]; done) | (simp only [List.getElem?_toArray, List.getElem?_cons_succ, List.getElem?_cons_zero]; rfl))) (fun K hK => ?_) AllReadyH.nil; go_simp; skip; (try go_wp2_with fail); refine hK.out _ _ ?_ (fun hHeld => ?_); (focus ((try dsimp only); (go_keep))); clear hK K; (try simp only [Act.put, List.setIfInBounds_toArray, List.set_cons_zero, List.set_cons_succ]))); ((refine wpAnyH_ready (rs := [6]) (by kernel_rfl) (by simp) ?_; refine AllReadyH.cons (by (first | (simp only [List.getElem?_toArray, List.getElem?_cons_succ, List.getElem?_cons_zero]; done) | (simp only [List.getElem?_toArray, List.getElem?_cons_succ, List.getElem?_cons_zero]; rfl))) (fun K hK => ?_) AllReadyH.nil; go_simp; skip; (try go_wp2_with fail); refine hK.out _ _ ?_ (fun hHeld => ?_); (focus ((try dsimp only); (go_keep))); clear hK K; (try simp only [Act.put, List.setIfInBounds_toArray, List.set_cons_zero, List.set_cons_succ]))); ((refine wpAnyH_take (i := 7) (v := ?_) (by (first | (simp only [List.getElem?_toArray, List.getElem?_cons_succ, List.getElem?_cons_zero]; done) | (simp only [List.getElem?_toArray, List.getElem?_cons_succ, List.getElem?_cons_zero]; rfl))) (by kernel_rfl) (by kernel_rfl) (by kernel_rfl) (by exact fun _ _ _ h => h) (Or.inl ⟨by rfl, ?_⟩) (by assumption) ?_; rotate_left; (focus (((intro w hSw; (try dsimp only at hSw); go_simp) <;> (try with_reducible rfl)); done)); (try simp only [Act.put, List.setIfInBounds_toArray, List.set_cons_zero, List.set_cons_succ]))); (refine wpAnyH_done (by kernel_rfl) ?_ _))
        obtain ⟨hQ0, hb0⟩ : (BQ w2.drew w1.heap.size nx dx ∧ Below w.heap.size w w2.drew) := ⟨hQ.drew, hbw.drew⟩
        go_wp2_with fail
        have t1 : ¬ 20000 < dx := by omega
        obtain ⟨s1, s2, s3⟩ := sq20000 (dx) (by omega) (by omega)
        have s4 : 2 * (dx) * (dx) ≤ 800000000 := by omega
        have s5 : 0 ≤ 2 * (dx) * (dx) := by omega
        clear s3
        by_cases t2 : m ≤ 2 * (dx) * (dx)
        · refine (impl_RatioFrom v m (dx) _).mono ?_
          rintro e w3 ⟨rfl, hb3⟩
          generalize rfRes v m (dx) = o
          have hs3 := hb3.size
          (try simp at hs3)
          have hQ3 : BQ w3 w1.heap.size nx dx := Blk.below (Blk.drew hQ) hb3 (by first | exact ql | (simp; omega))
          have hbw3 : Below w.heap.size w w3 := by (repeat (first | (with_reducible exact Below.refl _ _) | (with_reducible assumption) | (with_reducible refine below_drewN ?_ _) | (with_reducible refine Below.drew ?_) | (with_reducible refine Below.alloc ?_ ?_ _) | (with_reducible refine Below.setCell ?_ ?_ _) | (with_reducible refine below_into ?_ (by assumption) (by first | omega | (simp; done) | (simp; omega))) | go_size))
          obtain ⟨r0, r1, rf, rl⟩ := hQ3.cells
          clear hQ hbw q0 q1 qf ql hb3
          rcases o with _ | ⟨a, b⟩ <;> simp only [rfV]
          all_goals go_wp2
          all_goals go_ret
          all_goals exact ⟨rfl, by (repeat (first | (with_reducible exact Below.refl _ _) | (with_reducible assumption) | (with_reducible refine below_drewN ?_ _) | (with_reducible refine Below.drew ?_) | (with_reducible refine Below.alloc ?_ ?_ _) | (with_reducible refine Below.setCell ?_ ?_ _) | (with_reducible refine below_into ?_ (by assumption) (by first | omega | (simp; done) | (simp; omega))) | go_size))⟩
        · refine (impl_RatioFrom v m (dx) _).mono ?_
          rw [HB.out (by omega) (by omega)]
          rintro e w3 ⟨rfl, hb3⟩
          have hs3 := hb3.size
          (try simp at hs3)
          have hQ3 : BQ w3 w1.heap.size nx dx := Blk.below (Blk.drew hQ) hb3 (by first | exact ql | (simp; omega))
          have hbw3 : Below w.heap.size w w3 := by (repeat (first | (with_reducible exact Below.refl _ _) | (with_reducible assumption) | (with_reducible refine below_drewN ?_ _) | (with_reducible refine Below.drew ?_) | (with_reducible refine Below.alloc ?_ ?_ _) | (with_reducible refine Below.setCell ?_ ?_ _) | (with_reducible refine below_into ?_ (by assumption) (by first | omega | (simp; done) | (simp; omega))) | go_size))
          obtain ⟨r0, r1, rf, rl⟩ := hQ3.cells
          clear hQ hbw q0 q1 qf ql hb3
          simp only [rfV]
          go_wp2
          go_ret
          exact ⟨rfl, by (repeat (first | (with_reducible exact Below.refl _ _) | (with_reducible assumption) | (with_reducible refine below_drewN ?_ _) | (with_reducible refine Below.drew ?_) | (with_reducible refine Below.alloc ?_ ?_ _) | (with_reducible refine Below.setCell ?_ ?_ _) | (with_reducible refine below_into ?_ (by assumption) (by first | omega | (simp; done) | (simp; omega))) | go_size))⟩
      · have c4 : (1 : Int) < (nx.natAbs : Nat) := c3
        ((refine wp_region_held_drew (S := (fun w' => w'.cell? ⟨w1.heap.size, 0, none⟩ = some (.int .i64 nx) ∧ w'.cell? ⟨w1.heap.size, 1, none⟩ = some (.int .i64 dx))) (by kernel_rfl) ?_ (fun hHeld => ?_)); ((focus ((try dsimp only); (go_keep)))); ((refine wpAnyH_take (i := 0) (v := ?_) (by (first | (simp only [List.getElem?_toArray, List.getElem?_cons_succ, List.getElem?_cons_zero]; done) | (simp only [List.getElem?_toArray, List.getElem?_cons_succ, List.getElem?_cons_zero]; rfl))) (by kernel_rfl) (by kernel_rfl) (by kernel_rfl) (by exact fun _ _ _ h => h) (Or.inl ⟨by rfl, ?_⟩) (by assumption) ?_; rotate_left; (focus (((intro w hSw; (try dsimp only at hSw); go_simp) <;> (try with_reducible rfl)); done)); (try simp only [Act.put, List.setIfInBounds_toArray, List.set_cons_zero, List.set_cons_succ]))); ((refine wpAnyH_take (i := 1) (v := ?_) (by (first | (simp only [List.getElem?_toArray, List.getElem?_cons_succ, List.getElem?_cons_zero]; done) | (simp only [List.getElem?_toArray, List.getElem?_cons_succ, List.getElem?_cons_zero]; rfl))) (by kernel_rfl) (by kernel_rfl) (by kernel_rfl) (by exact fun _ _ _ h => h) (Or.inl ⟨by rfl, ?_⟩) (by assumption) ?_; rotate_left; (focus (((intro w hSw; (try dsimp only at hSw); go_simp) <;> (try with_reducible rfl)); done)); (try simp only [Act.put, List.setIfInBounds_toArray, List.set_cons_zero, List.set_cons_succ]))); ((refine wpAnyH_take (i := 3) (v := ?_) (by (first | (simp only [List.getElem?_toArray, List.getElem?_cons_succ, List.getElem?_cons_zero]; done) | (simp only [List.getElem?_toArray, List.getElem?_cons_succ, List.getElem?_cons_zero]; rfl))) (by kernel_rfl) (by kernel_rfl) (by kernel_rfl) (by exact fun _ _ _ h => h) (Or.inl ⟨by rfl, ?_⟩) (by assumption) ?_; rotate_left; (focus (((intro w hSw; (try dsimp only at hSw); go_simp) <;> (try with_reducible rfl)); done)); (try simp only [Act.put, List.setIfInBounds_toArray, List.set_cons_zero, List.set_cons_succ]))); ((refine wpAnyH_take (i := 4) (v := ?_) (by (first | (simp only [List.getElem?_toArray, List.getElem?_cons_succ, List.getElem?_cons_zero]; done) | (simp only [List.getElem?_toArray, List.getElem?_cons_succ, List.getElem?_cons_zero]; rfl))) (by kernel_rfl) (by kernel_rfl) (by kernel_rfl) (by exact fun _ _ _ h => h) (Or.inl ⟨by rfl, ?_⟩) (by assumption) ?_; rotate_left; (focus (((intro w hSw; (try dsimp only at hSw); go_simp) <;> (try with_reducible rfl)); done)); (try simp only [Act.put, List.setIfInBounds_toArray, List.set_cons_zero, List.set_cons_succ]))); ((refine wpAnyH_ready (rs := [2]) (by kernel_rfl) (by simp) ?_; refine AllReadyH.cons (by (first | (simp only [List.getElem?_toArray, List.getElem?_cons_succ, List.getElem?_cons_zero]; done) | (simp only [List.getElem?_toArray, List.getElem?_cons_succ, List.getElem?_cons_zero]; rfl))) (fun K hK => ?_) AllReadyH.nil; go_simp; (go_at_call 18; refine (laws_abs nx (by omega) (by omega) _).mono ?_; rintro e w2 ⟨rfl, rfl⟩); (try go_wp2_with fail); refine hK.out _ _ ?_ (fun hHeld => ?_); (focus ((try dsimp only); (go_keep))); clear hK K; (try simp only [Act.put, List.setIfInBounds_toArray, List.set_cons_zero, List.set_cons_succ]))); ((refine wpAnyH_ready (rs := [5]) (by kernel_rfl) (by simp) ?_; refine AllReadyH.cons (by (first | (simp only [List.getElem?_toArray, List.getElem?_cons_succ, List.getElem?_cons_zero]; done) | (simp only [List.getElem?_toArray, List.getElem?_cons_succ, List.getElem?_cons_zero]; rfl))) (fun K hK => ?_) AllReadyH.nil; go_simp; skip; (try go_wp2_with fail); refine hK.out _ _ ?_ (fun hHeld => ?_); (focus ((try dsimp only); (go_keep))); clear hK K; (try simp only [Act.put, List.setIfInBounds_toArray, List.set_cons_zero, List.set_cons_succ]))); ((refine wpAnyH_ready (rs := [6]) (by kernel_rfl) (by simp) ?_; refine AllReadyH.cons (by (first | (simp only [List.getElem?_toArray, List.getElem?_cons_succ, List.getElem?_cons_zero]; done) | (simp only [List.getElem?_toArray, List.getElem?_cons_succ, List.getElem?_cons_zero]; rfl))) (fun K hK => ?_) AllReadyH.nil; go_simp; skip; (try go_wp2_with fail); refine hK.out _ _ ?_ (fun hHeld => ?_); (focus ((try dsimp only); (go_keep))); clear hK K; (try simp only [Act.put, List.setIfInBounds_toArray, List.set_cons_zero, List.set_cons_succ]))); ((refine wpAnyH_take (i := 7) (v := ?_) (by (first | (simp only [List.getElem?_toArray, List.getElem?_cons_succ, List.getElem?_cons_zero]; done) | (simp only [List.getElem?_toArray, List.getElem?_cons_succ, List.getElem?_cons_zero]; rfl))) (by kernel_rfl) (by kernel_rfl) (by kernel_rfl) (by exact fun _ _ _ h => h) (Or.inl ⟨by rfl, ?_⟩) (by assumption) ?_; rotate_left; (focus (((intro w hSw; (try dsimp only at hSw); go_simp) <;> (try with_reducible rfl)); done)); (try simp only [Act.put, List.setIfInBounds_toArray, List.set_cons_zero, List.set_cons_succ]))); (refine wpAnyH_done (by kernel_rfl) ?_ _))
        obtain ⟨hQ0, hb0⟩ : (BQ w2.drew w1.heap.size nx dx ∧ Below w.heap.size w w2.drew) := ⟨hQ.drew, hbw.drew⟩
        go_wp2_with fail
        by_cases t1 : 20000 < (nx.natAbs : Int)
        · refine (impl_RatioFrom v m ((nx.natAbs : Int)) _).mono ?_
          rintro e w3 ⟨rfl, hb3⟩
          generalize rfRes v m ((nx.natAbs : Int)) = o
          have hs3 := hb3.size
          (try simp at hs3)
          have hQ3 : BQ w3 w1.heap.size nx dx := Blk.below (Blk.drew hQ) hb3 (by first | exact ql | (simp; omega))
          have hbw3 : Below w.heap.size w w3 := by (repeat (first | (with_reducible exact Below.refl _ _) | (with_reducible assumption) | (with_reducible refine below_drewN ?_ _) | (with_reducible refine Below.drew ?_) | (with_reducible refine Below.alloc ?_ ?_ _) | (with_reducible refine Below.setCell ?_ ?_ _) | (with_reducible refine below_into ?_ (by assumption) (by first | omega | (simp; done) | (simp; omega))) | go_size))
          obtain ⟨r0, r1, rf, rl⟩ := hQ3.cells
          clear hQ hbw q0 q1 qf ql hb3
          rcases o with _ | ⟨a, b⟩ <;> simp only [rfV]
          all_goals go_wp2
          all_goals go_ret
          all_goals exact ⟨rfl, by (repeat (first | (with_reducible exact Below.refl _ _) | (with_reducible assumption) | (with_reducible refine below_drewN ?_ _) | (with_reducible refine Below.drew ?_) | (with_reducible refine Below.alloc ?_ ?_ _) | (with_reducible refine Below.setCell ?_ ?_ _) | (with_reducible refine below_into ?_ (by assumption) (by first | omega | (simp; done) | (simp; omega))) | go_size))⟩
        · obtain ⟨s1, s2, s3⟩ := sq20000 ((nx.natAbs : Int)) (by omega) (by omega)
          have s4 : 2 * ((nx.natAbs : Int)) * ((nx.natAbs : Int)) ≤ 800000000 := by omega
          have s5 : 0 ≤ 2 * ((nx.natAbs : Int)) * ((nx.natAbs : Int)) := by omega
          clear s3
          by_cases t2 : m ≤ 2 * ((nx.natAbs : Int)) * ((nx.natAbs : Int))
          · refine (impl_RatioFrom v m ((nx.natAbs : Int)) _).mono ?_
            rintro e w3 ⟨rfl, hb3⟩
            generalize rfRes v m ((nx.natAbs : Int)) = o
            have hs3 := hb3.size
            (try simp at hs3)
            have hQ3 : BQ w3 w1.heap.size nx dx := Blk.below (Blk.drew hQ) hb3 (by first | exact ql | (simp; omega))
            have hbw3 : Below w.heap.size w w3 := by (repeat (first | (with_reducible exact Below.refl _ _) | (with_reducible assumption) | (with_reducible refine below_drewN ?_ _) | (with_reducible refine Below.drew ?_) | (with_reducible refine Below.alloc ?_ ?_ _) | (with_reducible refine Below.setCell ?_ ?_ _) | (with_reducible refine below_into ?_ (by assumption) (by first | omega | (simp; done) | (simp; omega))) | go_size))
            obtain ⟨r0, r1, rf, rl⟩ := hQ3.cells
            clear hQ hbw q0 q1 qf ql hb3
            rcases o with _ | ⟨a, b⟩ <;> simp only [rfV]
            all_goals go_wp2
            all_goals go_ret
            all_goals exact ⟨rfl, by (repeat (first | (with_reducible exact Below.refl _ _) | (with_reducible assumption) | (with_reducible refine below_drewN ?_ _) | (with_reducible refine Below.drew ?_) | (with_reducible refine Below.alloc ?_ ?_ _) | (with_reducible refine Below.setCell ?_ ?_ _) | (with_reducible refine below_into ?_ (by assumption) (by first | omega | (simp; done) | (simp; omega))) | go_size))⟩
          · refine (impl_RatioFrom v m ((nx.natAbs : Int)) _).mono ?_
            rw [HB.out (by omega) (by omega)]
            rintro e w3 ⟨rfl, hb3⟩
            have hs3 := hb3.size
            (try simp at hs3)
            have hQ3 : BQ w3 w1.heap.size nx dx := Blk.below (Blk.drew hQ) hb3 (by first | exact ql | (simp; omega))
            have hbw3 : Below w.heap.size w w3 := by (repeat (first | (with_reducible exact Below.refl _ _) | (with_reducible assumption) | (with_reducible refine below_drewN ?_ _) | (with_reducible refine Below.drew ?_) | (with_reducible refine Below.alloc ?_ ?_ _) | (with_reducible refine Below.setCell ?_ ?_ _) | (with_reducible refine below_into ?_ (by assumption) (by first | omega | (simp; done) | (simp; omega))) | go_size))
            obtain ⟨r0, r1, rf, rl⟩ := hQ3.cells
            clear hQ hbw q0 q1 qf ql hb3
            simp only [rfV]
            go_wp2
            go_ret
            exact ⟨rfl, by (repeat (first | (with_reducible exact Below.refl _ _) | (with_reducible assumption) | (with_reducible refine below_drewN ?_ _) | (with_reducible refine Below.drew ?_) | (with_reducible refine Below.alloc ?_ ?_ _) | (with_reducible refine Below.setCell ?_ ?_ _) | (with_reducible refine below_into ?_ (by assumption) (by first | omega | (simp; done) | (simp; omega))) | go_size))⟩
      · exact absurd c3 (by omega)
      · have c4 : (1 : Int) < dx := c3
        ((refine wp_region_held_drew (S := (fun w' => w'.cell? ⟨w1.heap.size, 0, none⟩ = some (.int .i64 nx) ∧ w'.cell? ⟨w1.heap.size, 1, none⟩ = some (.int .i64 dx))) (by kernel_rfl) ?_ (fun hHeld => ?_)); ((focus ((try dsimp only); (go_keep)))); ((refine wpAnyH_take (i := 0) (v := ?_) (by (first | (simp only [List.getElem?_toArray, List.getElem?_cons_succ, List.getElem?_cons_zero]; done) | (simp only [List.getElem?_toArray, List.getElem?_cons_succ, List.getElem?_cons_zero]; rfl))) (by kernel_rfl) (by kernel_rfl) (by kernel_rfl) (by exact fun _ _ _ h => h) (Or.inl ⟨by rfl, ?_⟩) (by assumption) ?_; rotate_left; (focus (((intro w hSw; (try dsimp only at hSw); go_simp) <;> (try with_reducible rfl)); done)); (try simp only [Act.put, List.setIfInBounds_toArray, List.set_cons_zero, List.set_cons_succ]))); ((refine wpAnyH_take (i := 1) (v := ?_) (by (first | (simp only [List.getElem?_toArray, List.getElem?_cons_succ, List.getElem?_cons_zero]; done) | (simp only [List.getElem?_toArray, List.getElem?_cons_succ, List.getElem?_cons_zero]; rfl))) (by kernel_rfl) (by kernel_rfl) (by kernel_rfl) (by exact fun _ _ _ h => h) (Or.inl ⟨by rfl, ?_⟩) (by assumption) ?_; rotate_left; (focus (((intro w hSw; (try dsimp only at hSw); go_simp) <;> (try with_reducible rfl)); done)); (try simp only [Act.put, List.setIfInBounds_toArray, List.set_cons_zero, List.set_cons_succ]))); ((refine wpAnyH_take (i := 3) (v := ?_) (by (first | (simp only [List.getElem?_toArray, List.getElem?_cons_succ, List.getElem?_cons_zero]; done) | (simp only [List.getElem?_toArray, List.getElem?_cons_succ, List.getElem?_cons_zero]; rfl))) (by kernel_rfl) (by kernel_rfl) (by kernel_rfl) (by exact fun _ _ _ h => h) (Or.inl ⟨by rfl, ?_⟩) (by assumption) ?_; rotate_left; (focus (((intro w hSw; (try dsimp only at hSw); go_simp) <;> (try with_reducible rfl)); done)); (try simp only [Act.put, List.setIfInBounds_toArray, List.set_cons_zero, List.set_cons_succ]))); ((refine wpAnyH_take (i := 4) (v := ?_) (by (first | (simp only [List.getElem?_toArray, List.getElem?_cons_succ, List.getElem?_cons_zero]; done) | (simp only [List.getElem?_toArray, List.getElem?_cons_succ, List.getElem?_cons_zero]; rfl))) (by kernel_rfl) (by kernel_rfl) (by kernel_rfl) (by exact fun _ _ _ h => h) (Or.inl ⟨by rfl, ?_⟩) (by assumption) ?_; rotate_left; (focus (((intro w hSw; (try dsimp only at hSw); go_simp) <;> (try with_reducible rfl)); done)); (try simp only [Act.put, List.setIfInBounds_toArray, List.set_cons_zero, List.set_cons_succ]))); ((refine wpAnyH_ready (rs := [2]) (by kernel_rfl) (by simp) ?_; refine AllReadyH.cons (by (first | (simp only [List.getElem?_toArray, List.getElem?_cons_succ, List.getElem?_cons_zero]; done) | (simp only [List.getElem?_toArray, List.getElem?_cons_succ, List.getElem?_cons_zero]; rfl))) (fun K hK => ?_) AllReadyH.nil; go_simp; (go_at_call 18; refine (laws_abs nx (by omega) (by omega) _).mono ?_; rintro e w2 ⟨rfl, rfl⟩); (try go_wp2_with fail); refine hK.out _ _ ?_ (fun hHeld => ?_); (focus ((try dsimp only); (go_keep))); clear hK K; (try simp only [Act.put, List.setIfInBounds_toArray, List.set_cons_zero, List.set_cons_succ]))); ((refine wpAnyH_ready (rs := [5]) (by kernel_rfl) (by simp) ?_; refine AllReadyH.cons (by (first | (simp only [List.getElem?_toArray, List.getElem?_cons_succ, List.getElem?_cons_zero]; done) | (simp only [List.getElem?_toArray, List.getElem?_cons_succ, List.getElem?_cons_zero]; rfl))) (fun K hK => ?_) AllReadyH.nil; go_simp; skip; (try go_wp2_with fail); refine hK.out _ _ ?_ (fun hHeld => ?_); (focus ((try dsimp only); (go_keep))); clear hK K; (try simp only [Act.put, List.setIfInBounds_toArray, List.set_cons_zero, List.set_cons_succ]))); ((refine wpAnyH_ready (rs := [6]) (by kernel_rfl) (by simp) ?_; refine AllReadyH.cons (by (first | (simp only [List.getElem?_toArray, List.getElem?_cons_succ, List.getElem?_cons_zero]; done) | (simp only [List.getElem?_toArray, List.getElem?_cons_succ, List.getElem?_cons_zero]; rfl))) (fun K hK => ?_) AllReadyH.nil; go_simp; skip; (try go_wp2_with fail); refine hK.out _ _ ?_ (fun hHeld => ?_); (focus ((try dsimp only); (go_keep))); clear hK K; (try simp only [Act.put, List.setIfInBounds_toArray, List.set_cons_zero, List.set_cons_succ]))); ((refine wpAnyH_take (i := 7) (v := ?_) (by (first | (simp only [List.getElem?_toArray, List.getElem?_cons_succ, List.getElem?_cons_zero]; done) | (simp only [List.getElem?_toArray, List.getElem?_cons_succ, List.getElem?_cons_zero]; rfl))) (by kernel_rfl) (by kernel_rfl) (by kernel_rfl) (by exact fun _ _ _ h => h) (Or.inl ⟨by rfl, ?_⟩) (by assumption) ?_; rotate_left; (focus (((intro w hSw; (try dsimp only at hSw); go_simp) <;> (try with_reducible rfl)); done)); (try simp only [Act.put, List.setIfInBounds_toArray, List.set_cons_zero, List.set_cons_succ]))); (refine wpAnyH_done (by kernel_rfl) ?_ _))
        obtain ⟨hQ0, hb0⟩ : (BQ w2.drew w1.heap.size nx dx ∧ Below w.heap.size w w2.drew) := ⟨hQ.drew, hbw.drew⟩
        go_wp2_with fail
        by_cases t1 : 20000 < dx
        · refine (impl_RatioFrom v m (dx) _).mono ?_
          rintro e w3 ⟨rfl, hb3⟩
          generalize rfRes v m (dx) = o
          have hs3 := hb3.size
          (try simp at hs3)
          have hQ3 : BQ w3 w1.heap.size nx dx := Blk.below (Blk.drew hQ) hb3 (by first | exact ql | (simp; omega))
          have hbw3 : Below w.heap.size w w3 := by (repeat (first | (with_reducible exact Below.refl _ _) | (with_reducible assumption) | (with_reducible refine below_drewN ?_ _) | (with_reducible refine Below.drew ?_) | (with_reducible refine Below.alloc ?_ ?_ _) | (with_reducible refine Below.setCell ?_ ?_ _) | (with_reducible refine below_into ?_ (by assumption) (by first | omega | (simp; done) | (simp; omega))) | go_size))
          obtain ⟨r0, r1, rf, rl⟩ := hQ3.cells
          clear hQ hbw q0 q1 qf ql hb3
          rcases o with _ | ⟨a, b⟩ <;> simp only [rfV]
          all_goals go_wp2
          all_goals go_ret
          all_goals exact ⟨rfl, by (repeat (first | (with_reducible exact Below.refl _ _) | (with_reducible assumption) | (with_reducible refine below_drewN ?_ _) | (with_reducible refine Below.drew ?_) | (with_reducible refine Below.alloc ?_ ?_ _) | (with_reducible refine Below.setCell ?_ ?_ _) | (with_reducible refine below_into ?_ (by assumption) (by first | omega | (simp; done) | (simp; omega))) | go_size))⟩
        · obtain ⟨s1, s2, s3⟩ := sq20000 (dx) (by omega) (by omega)
          have s4 : 2 * (dx) * (dx) ≤ 800000000 := by omega
          have s5 : 0 ≤ 2 * (dx) * (dx) := by omega
          clear s3
          by_cases t2 : m ≤ 2 * (dx) * (dx)
          · refine (impl_RatioFrom v m (dx) _).mono ?_
            rintro e w3 ⟨rfl, hb3⟩
            generalize rfRes v m (dx) = o
            have hs3 := hb3.size
            (try simp at hs3)
            have hQ3 : BQ w3 w1.heap.size nx dx := Blk.below (Blk.drew hQ) hb3 (by first | exact ql | (simp; omega))
            have hbw3 : Below w.heap.size w w3 := by (repeat (first | (with_reducible exact Below.refl _ _) | (with_reducible assumption) | (with_reducible refine below_drewN ?_ _) | (with_reducible refine Below.drew ?_) | (with_reducible refine Below.alloc ?_ ?_ _) | (with_reducible refine Below.setCell ?_ ?_ _) | (with_reducible refine below_into ?_ (by assumption) (by first | omega | (simp; done) | (simp; omega))) | go_size))
            obtain ⟨r0, r1, rf, rl⟩ := hQ3.cells
            clear hQ hbw q0 q1 qf ql hb3
            rcases o with _ | ⟨a, b⟩ <;> simp only [rfV]
            all_goals go_wp2
            all_goals go_ret
            all_goals exact ⟨rfl, by (repeat (first | (with_reducible exact Below.refl _ _) | (with_reducible assumption) | (with_reducible refine below_drewN ?_ _) | (with_reducible refine Below.drew ?_) | (with_reducible refine Below.alloc ?_ ?_ _) | (with_reducible refine Below.setCell ?_ ?_ _) | (with_reducible refine below_into ?_ (by assumption) (by first | omega | (simp; done) | (simp; omega))) | go_size))⟩
          · refine (impl_RatioFrom v m (dx) _).mono ?_
            rw [HB.out (by omega) (by omega)]
            rintro e w3 ⟨rfl, hb3⟩
            have hs3 := hb3.size
            (try simp at hs3)
            have hQ3 : BQ w3 w1.heap.size nx dx := Blk.below (Blk.drew hQ) hb3 (by first | exact ql | (simp; omega))
            have hbw3 : Below w.heap.size w w3 := by (repeat (first | (with_reducible exact Below.refl _ _) | (with_reducible assumption) | (with_reducible refine below_drewN ?_ _) | (with_reducible refine Below.drew ?_) | (with_reducible refine Below.alloc ?_ ?_ _) | (with_reducible refine Below.setCell ?_ ?_ _) | (with_reducible refine below_into ?_ (by assumption) (by first | omega | (simp; done) | (simp; omega))) | go_size))
            obtain ⟨r0, r1, rf, rl⟩ := hQ3.cells
            clear hQ hbw q0 q1 qf ql hb3
            simp only [rfV]
            go_wp2
            go_ret
            exact ⟨rfl, by (repeat (first | (with_reducible exact Below.refl _ _) | (with_reducible assumption) | (with_reducible refine below_drewN ?_ _) | (with_reducible refine Below.drew ?_) | (with_reducible refine Below.alloc ?_ ?_ _) | (with_reducible refine Below.setCell ?_ ?_ _) | (with_reducible refine below_into ?_ (by assumption) (by first | omega | (simp; done) | (simp; omega))) | go_size))⟩
      · have c4 : ¬ (1 : Int) < dx := by omega
        ((refine wp_region_held_drew (S := (fun w' => w'.cell? ⟨w1.heap.size, 0, none⟩ = some (.int .i64 nx) ∧ w'.cell? ⟨w1.heap.size, 1, none⟩ = some (.int .i64 dx))) (by kernel_rfl) ?_ (fun hHeld => ?_)); ((focus ((try dsimp only); (go_keep)))); ((refine wpAnyH_take (i := 0) (v := ?_) (by (first | (simp only [List.getElem?_toArray, List.getElem?_cons_succ, List.getElem?_cons_zero]; done) | (simp only [List.getElem?_toArray, List.getElem?_cons_succ, List.getElem?_cons_zero]; rfl))) (by kernel_rfl) (by kernel_rfl) (by kernel_rfl) (by exact fun _ _ _ h => h) (Or.inl ⟨by rfl, ?_⟩) (by assumption) ?_; rotate_left; (focus (((intro w hSw; (try dsimp only at hSw); go_simp) <;> (try with_reducible rfl)); done)); (try simp only [Act.put, List.setIfInBounds_toArray, List.set_cons_zero, List.set_cons_succ]))); ((refine wpAnyH_take (i := 1) (v := ?_) (by (first | (simp only [List.getElem?_toArray, List.getElem?_cons_succ, List.getElem?_cons_zero]; done) | (simp only [List.getElem?_toArray, List.getElem?_cons_succ, List.getElem?_cons_zero]; rfl))) (by kernel_rfl) (by kernel_rfl) (by kernel_rfl) (by exact fun _ _ _ h => h) (Or.inl ⟨by rfl, ?_⟩) (by assumption) ?_; rotate_left; (focus (((intro w hSw; (try dsimp only at hSw); go_simp) <;> (try with_reducible rfl)); done)); (try simp only [Act.put, List.setIfInBounds_toArray, List.set_cons_zero, List.set_cons_succ]))); ((refine wpAnyH_take (i := 3) (v := ?_) (by (first | (simp only [List.getElem?_toArray, List.getElem?_cons_succ, List.getElem?_cons_zero]; done) | (simp only [List.getElem?_toArray, List.getElem?_cons_succ, List.getElem?_cons_zero]; rfl))) (by kernel_rfl) (by kernel_rfl) (by kernel_rfl) (by exact fun _ _ _ h => h) (Or.inl ⟨by rfl, ?_⟩) (by assumption) ?_; rotate_left; (focus (((intro w hSw; (try dsimp only at hSw); go_simp) <;> (try with_reducible rfl)); done)); (try simp only [Act.put, List.setIfInBounds_toArray, List.set_cons_zero, List.set_cons_succ]))); ((refine wpAnyH_take (i := 4) (v := ?_) (by (first | (simp only [List.getElem?_toArray, List.getElem?_cons_succ, List.getElem?_cons_zero]; done) | (simp only [List.getElem?_toArray, List.getElem?_cons_succ, List.getElem?_cons_zero]; rfl))) (by kernel_rfl) (by kernel_rfl) (by kernel_rfl) (by exact fun _ _ _ h => h) (Or.inl ⟨by rfl, ?_⟩) (by assumption) ?_; rotate_left; (focus (((intro w hSw; (try dsimp only at hSw); go_simp) <;> (try with_reducible rfl)); done)); (try simp only [Act.put, List.setIfInBounds_toArray, List.set_cons_zero, List.set_cons_succ]))); ((refine wpAnyH_ready (rs := [2]) (by kernel_rfl) (by simp) ?_; refine AllReadyH.cons (by (first | (simp only [List.getElem?_toArray, List.getElem?_cons_succ, List.getElem?_cons_zero]; done) | (simp only [List.getElem?_toArray, List.getElem?_cons_succ, List.getElem?_cons_zero]; rfl))) (fun K hK => ?_) AllReadyH.nil; go_simp; (go_at_call 18; refine (laws_abs nx (by omega) (by omega) _).mono ?_; rintro e w2 ⟨rfl, rfl⟩); (try go_wp2_with fail); refine hK.out _ _ ?_ (fun hHeld => ?_); (focus ((try dsimp only); (go_keep))); clear hK K; (try simp only [Act.put, List.setIfInBounds_toArray, List.set_cons_zero, List.set_cons_succ]))); ((refine wpAnyH_ready (rs := [5]) (by kernel_rfl) (by simp) ?_; refine AllReadyH.cons (by (first | (simp only [List.getElem?_toArray, List.getElem?_cons_succ, List.getElem?_cons_zero]; done) | (simp only [List.getElem?_toArray, List.getElem?_cons_succ, List.getElem?_cons_zero]; rfl))) (fun K hK => ?_) AllReadyH.nil; go_simp; skip; (try go_wp2_with fail); refine hK.out _ _ ?_ (fun hHeld => ?_); (focus ((try dsimp only); (go_keep))); clear hK K; (try simp only [Act.put, List.setIfInBounds_toArray, List.set_cons_zero, List.set_cons_succ]))); ((refine wpAnyH_ready (rs := [6]) (by kernel_rfl) (by simp) ?_; refine AllReadyH.cons (by (first | (simp only [List.getElem?_toArray, List.getElem?_cons_succ, List.getElem?_cons_zero]; done) | (simp only [List.getElem?_toArray, List.getElem?_cons_succ, List.getElem?_cons_zero]; rfl))) (fun K hK => ?_) AllReadyH.nil; go_simp; skip; (try go_wp2_with fail); refine hK.out _ _ ?_ (fun hHeld => ?_); (focus ((try dsimp only); (go_keep))); clear hK K; (try simp only [Act.put, List.setIfInBounds_toArray, List.set_cons_zero, List.set_cons_succ]))); ((refine wpAnyH_take (i := 7) (v := ?_) (by (first | (simp only [List.getElem?_toArray, List.getElem?_cons_succ, List.getElem?_cons_zero]; done) | (simp only [List.getElem?_toArray, List.getElem?_cons_succ, List.getElem?_cons_zero]; rfl))) (by kernel_rfl) (by kernel_rfl) (by kernel_rfl) (by exact fun _ _ _ h => h) (Or.inl ⟨by rfl, ?_⟩) (by assumption) ?_; rotate_left; (focus (((intro w hSw; (try dsimp only at hSw); go_simp) <;> (try with_reducible rfl)); done)); (try simp only [Act.put, List.setIfInBounds_toArray, List.set_cons_zero, List.set_cons_succ]))); (refine wpAnyH_done (by kernel_rfl) ?_ _))
        obtain ⟨hQ0, hb0⟩ : (BQ w2.drew w1.heap.size nx dx ∧ Below w.heap.size w w2.drew) := ⟨hQ.drew, hbw.drew⟩
        go_wp2_with fail
        have t1 : ¬ 20000 < dx := by omega
        obtain ⟨s1, s2, s3⟩ := sq20000 (dx) (by omega) (by omega)
        have s4 : 2 * (dx) * (dx) ≤ 800000000 := by omega
        have s5 : 0 ≤ 2 * (dx) * (dx) := by omega
        clear s3
        by_cases t2 : m ≤ 2 * (dx) * (dx)
        · refine (impl_RatioFrom v m (dx) _).mono ?_
          rintro e w3 ⟨rfl, hb3⟩
          generalize rfRes v m (dx) = o
          have hs3 := hb3.size
          (try simp at hs3)
          have hQ3 : BQ w3 w1.heap.size nx dx := Blk.below (Blk.drew hQ) hb3 (by first | exact ql | (simp; omega))
          have hbw3 : Below w.heap.size w w3 := by (repeat (first | (with_reducible exact Below.refl _ _) | (with_reducible assumption) | (with_reducible refine below_drewN ?_ _) | (with_reducible refine Below.drew ?_) | (with_reducible refine Below.alloc ?_ ?_ _) | (with_reducible refine Below.setCell ?_ ?_ _) | (with_reducible refine below_into ?_ (by assumption) (by first | omega | (simp; done) | (simp; omega))) | go_size))
          obtain ⟨r0, r1, rf, rl⟩ := hQ3.cells
          clear hQ hbw q0 q1 qf ql hb3
          rcases o with _ | ⟨a, b⟩ <;> simp only [rfV]
          all_goals go_wp2
          all_goals go_ret
          all_goals exact ⟨rfl, by (repeat (first | (with_reducible exact Below.refl _ _) | (with_reducible assumption) | (with_reducible refine below_drewN ?_ _) | (with_reducible refine Below.drew ?_) | (with_reducible refine Below.alloc ?_ ?_ _) | (with_reducible refine Below.setCell ?_ ?_ _) | (with_reducible refine below_into ?_ (by assumption) (by first | omega | (simp; done) | (simp; omega))) | go_size))⟩
        · refine (impl_RatioFrom v m (dx) _).mono ?_
          rw [HB.out (by omega) (by omega)]
          rintro e w3 ⟨rfl, hb3⟩
          have hs3 := hb3.size
          (try simp at hs3)
          have hQ3 : BQ w3 w1.heap.size nx dx := Blk.below (Blk.drew hQ) hb3 (by first | exact ql | (simp; omega))
          have hbw3 : Below w.heap.size w w3 := by (repeat (first | (with_reducible exact Below.refl _ _) | (with_reducible assumption) | (with_reducible refine below_drewN ?_ _) | (with_reducible refine Below.drew ?_) | (with_reducible refine Below.alloc ?_ ?_ _) | (with_reducible refine Below.setCell ?_ ?_ _) | (with_reducible refine below_into ?_ (by assumption) (by first | omega | (simp; done) | (simp; omega))) | go_size))
          obtain ⟨r0, r1, rf, rl⟩ := hQ3.cells
          clear hQ hbw q0 q1 qf ql hb3
          simp only [rfV]
          go_wp2
          go_ret
          exact ⟨rfl, by (repeat (first | (with_reducible exact Below.refl _ _) | (with_reducible assumption) | (with_reducible refine below_drewN ?_ _) | (with_reducible refine Below.drew ?_) | (with_reducible refine Below.alloc ?_ ?_ _) | (with_reducible refine Below.setCell ?_ ?_ _) | (with_reducible refine below_into ?_ (by assumption) (by first | omega | (simp; done) | (simp; omega))) | go_size))⟩
end Go.Proofs.Ytcpbaagnjofjfaa

/-
  DERIVED. FormatRatio, and ParseRatio of what it writes.
-/
import Derived.Test.YtlggfmfelakadaaGreatDoorc2
import Derived.Test.YtlggfmfelakadaaGreatDoorRatOx
import Derived.Test.YtlggfmfelakadaaGreatDoorc3
namespace Go.Proofs.YtlggfmfelakadaaGreatDoor
open Go.RowKit
set_option linter.unusedVariables false
set_option linter.unusedSimpArgs false
/-- What FormatRatio writes of a ratio. -/
def ratT (n d : Int) : Bs := if d = 1 then Lib.itoa n else Lib.itoa n ++ 47 :: Lib.itoa d
theorem cut_rat1 (n : Int) : Lib.cut (Lib.itoa n) [47] = (Lib.itoa n, [], false) := cut_no 47 _ (itoa_no (by unfold Ng Dg; decide))
theorem cut_rat (n d : Int) : Lib.cut (Lib.itoa n ++ 47 :: Lib.itoa d) [47] = (Lib.itoa n, Lib.itoa d, true) := cut_at 47 _ _ (itoa_no (by unfold Ng Dg; decide))
set_option maxRecDepth 100000 in
set_option maxHeartbeats 4000000 in
theorem impl_FormatRatio (n d : Int) (h : ratOk n d = true) (w : World) (hv : LV w) : Calls Tryz.prog 13 #[.agg #[.int .i64 n, .int .i64 d]] w (GV (.string (bs (ratT n d))) w) := by
  have hR := Lib.hid h
  obtain ⟨h1, h2, h3, h4⟩ := ratOk_bds h
  clear h
  go_enter Tryz.func13, Tryz.ntmps13
  go_wp2_with fail
  have hQ : BQ (w.alloc (.cells #[.int .i64 n, .int .i64 d] 38)) w.heap.size n d := by (with_reducible (repeat (first | assumption | refine Blk.new_at _ _ _ _ Ks | refine Blk.below ?_ (by assumption) Ks | apply Blk.drew | apply Blk.drewN | refine Blk.far ?_ (by simp only [ne_eq]; omega) _ | apply Blk.alloc)))
  obtain ⟨q0, q1, qf, ql⟩ := hQ.cells
  by_cases hd : d = 1
  · subst hd
    go_wp2_with (first | (go_at_call 39; refine (impl_IsRatio n 1 _).mono ?_; rw [hR.out]; rintro e w1 ⟨rfl, hb1⟩; have hQ1 : BQ w1 w.heap.size n 1 := (by (with_reducible (repeat (first | exact hQ | refine Blk.new_at _ _ _ _ Ks | refine Blk.below ?_ (by assumption) Ks | apply Blk.drew | apply Blk.drewN | refine Blk.far ?_ (by simp only [ne_eq]; omega) _ | apply Blk.alloc)))); obtain ⟨p0, p1, pf, pl⟩ := hQ1.cells; have hv1 : LV w1 := (LV.below hv (C := w.heap.size) Kw hv.lo)) | (go_at_call 21; refine (impl_FormatInt n ⟨h3, h4⟩ _ hv1).mono ?_; rintro e w2 ⟨rfl, hb2⟩))
    go_ret
    refine ⟨?_, Kw⟩
    unfold ratT
    rw [if_pos rfl]
    rfl
  · have hd1 : (d == 1) = false := by rw [beq_eq_false_iff_ne]; exact hd
    go_wp2_with (first | (go_at_call 39; refine (impl_IsRatio n d _).mono ?_; rw [hR.out]; rintro e w1 ⟨rfl, hb1⟩; have hQ1 : BQ w1 w.heap.size n d := (by (with_reducible (repeat (first | exact hQ | refine Blk.new_at _ _ _ _ Ks | refine Blk.below ?_ (by assumption) Ks | apply Blk.drew | apply Blk.drewN | refine Blk.far ?_ (by simp only [ne_eq]; omega) _ | apply Blk.alloc)))); obtain ⟨p0, p1, pf, pl⟩ := hQ1.cells; have hv1 : LV w1 := (LV.below hv (C := w.heap.size) Kw hv.lo)) | fail)
    have hbw : Below w.heap.size w w1 := Kw
    have hsz := hb1.size
    simp at hsz
    clear hb1 hQ q0 q1 qf ql
    have hl1 := itoa_len ⟨h3, h4⟩
    have hl2 := itoa_len (n := d) ⟨by omega, h2⟩
    have hc1 : ¬ 9223372036854775807 < (Lib.itoa n).length + 1 := by omega
    have hc2 : ¬ 9223372036854775807 < (Lib.itoa n).length + 1 + (Lib.itoa d).length := by omega
    clear hl1 hl2
    ((refine wp_region_held_drew (S := (fun w' => w'.cell? ⟨w.heap.size, 0, none⟩ = some (.int .i64 n) ∧ w'.cell? ⟨w.heap.size, 1, none⟩ = some (.int .i64 d))) (by kernel_rfl) ?_ (fun hHeld => ?_)); ((focus ((try dsimp only); (go_keep)))); ((refine tk_ (i := 0) (v := ?_) (y := Or.inl ⟨by rfl, ?_⟩) (h := ?_); rotate_left; (focus (((intro w hSw; (try dsimp only at hSw); go_simp) <;> (try with_reducible rfl)); done)); (try simp only [Act.put, p1_, p2_, p3_]))); ((refine tk_ (i := 1) (v := ?_) (y := Or.inl ⟨by rfl, ?_⟩) (h := ?_); rotate_left; (focus (((intro w hSw; (try dsimp only at hSw); go_simp) <;> (try with_reducible rfl)); done)); (try simp only [Act.put, p1_, p2_, p3_]))); ((refine tk_ (i := 4) (v := ?_) (y := Or.inl ⟨by rfl, ?_⟩) (h := ?_); rotate_left; (focus (((intro w hSw; (try dsimp only at hSw); go_simp) <;> (try with_reducible rfl)); done)); (try simp only [Act.put, p1_, p2_, p3_]))); ((refine tk_ (i := 5) (v := ?_) (y := Or.inl ⟨by rfl, ?_⟩) (h := ?_); rotate_left; (focus (((intro w hSw; (try dsimp only at hSw); go_simp) <;> (try with_reducible rfl)); done)); (try simp only [Act.put, p1_, p2_, p3_]))); ((refine wpAnyH_ready (rs := [2]) (by kernel_rfl) (by simp) ?_; refine AllReadyH.cons (by simp only [e1_, e2_, e3_]; try rfl) (fun K hK => ?_) AllReadyH.nil; go_simp; (refine (impl_FormatInt n ⟨h3, h4⟩ _ (LV.below hv1 (C := w1.heap.size) Kw hv1.lo)).mono ?_; rintro e w2 ⟨rfl, hb2⟩; have hsz2 := hb2.size; (try simp at hsz2); have hQ2 : BQ w2 w.heap.size n d := (by (with_reducible (repeat (first | exact hQ1 | refine Blk.new_at _ _ _ _ Ks | refine Blk.below ?_ (by assumption) Ks | apply Blk.drew | apply Blk.drewN | refine Blk.far ?_ (by simp only [ne_eq]; omega) _ | apply Blk.alloc)))); clear p0 p1 pf pl; obtain ⟨p0, p1, pf, pl⟩ := hQ2.cells); (try go_wp2_with fail); refine hK.out _ _ ?_ (fun hHeld => ?_); (focus ((try dsimp only); (go_keep))); clear hK K; (try simp only [Act.put, p1_, p2_, p3_]))); ((refine tk_ (i := 3) (v := ?_) (y := Or.inl ⟨by rfl, ?_⟩) (h := ?_); rotate_left; (focus (((intro w hSw; (try dsimp only at hSw); go_simp) <;> (try with_reducible rfl)); done)); (try simp only [Act.put, p1_, p2_, p3_]))); ((refine wpAnyH_ready (rs := [6]) (by kernel_rfl) (by simp) ?_; refine AllReadyH.cons (by simp only [e1_, e2_, e3_]; try rfl) (fun K hK => ?_) AllReadyH.nil; go_simp; (refine (impl_FormatInt d ⟨by omega, h2⟩ _ (LV.below hv1 (C := w1.heap.size) Kw hv1.lo)).mono ?_; rintro e w3 ⟨rfl, hb3⟩; have hsz3 := hb3.size; (try simp at hsz3); have hQ3 : BQ w3 w.heap.size n d := (by (with_reducible (repeat (first | exact hQ2 | refine Blk.new_at _ _ _ _ Ks | refine Blk.below ?_ (by assumption) Ks | apply Blk.drew | apply Blk.drewN | refine Blk.far ?_ (by simp only [ne_eq]; omega) _ | apply Blk.alloc)))); clear p0 p1 pf pl; obtain ⟨p0, p1, pf, pl⟩ := hQ3.cells); (try go_wp2_with fail); refine hK.out _ _ ?_ (fun hHeld => ?_); (focus ((try dsimp only); (go_keep))); clear hK K; (try simp only [Act.put, p1_, p2_, p3_]))); ((refine tk_ (i := 7) (v := ?_) (y := Or.inl ⟨by rfl, ?_⟩) (h := ?_); rotate_left; (focus (((intro w hSw; (try dsimp only at hSw); go_simp) <;> (try with_reducible rfl)); done)); (try simp only [Act.put, p1_, p2_, p3_]))); ((refine tk_ (i := 8) (v := ?_) (y := Or.inl ⟨by rfl, ?_⟩) (h := ?_); rotate_left; (focus (((intro w hSw; (try dsimp only at hSw); go_simp) <;> (try with_reducible rfl)); done)); (try simp only [Act.put, p1_, p2_, p3_]))); (refine wpAnyH_done (by kernel_rfl) ?_ _))
    go_wp2_with fail
    go_ret
    refine ⟨?_, Kw⟩
    unfold ratT
    rw [if_neg hd]
    show Ending.returned (.string (bs (Lib.itoa n) ++ bs [47] ++ bs (Lib.itoa d))) = _
    rw [bs_app, bs_app, List.append_assoc]
    rfl
theorem itoa_one : Lib.itoa 1 = [49] := by
  unfold Lib.itoa
  rw [if_neg (by omega)]
  show Lib.decDigits 1 = [49]
  unfold Lib.decDigits
  rw [dif_pos (by omega)]
  rfl
theorem ratT_len {n d : Int} (h : -400000000 ≤ n ∧ n ≤ 400000000) (h2 : -400000000 ≤ d ∧ d ≤ 400000000) : (ratT n d).length ≤ 21 := by
  have a := itoa_len h
  have b := itoa_len h2
  unfold ratT
  split
  · omega
  · rw [List.length_append, List.length_cons]; omega
theorem ret_Qs {fn : Func} {R : Ending → World → Prop} {a : Act} {w : World} {t s : Tmp} {b : Nat} {n d : Int} {v : Value} (hr : fn.results = #[.cell t 38, .tmp s])
    (ht : a.tmps.getD t undef = .pointer (some ⟨b, 0, none⟩)) (hs : a.tmps.getD s undef = v) (h : BQ w b n d) (hd : a.defers = []) (hR : R (.returned (.tuple #[.agg #[.int .i64 n, .int .i64 d], v])) w) : bodyPost Tryz.prog fn R .ret a w :=
  bodyPost_ret (v := .tuple #[.agg #[.int .i64 n, .int .i64 d], v]) (by
    obtain ⟨r0, r1, rf, rl⟩ := h.cells
    have ht' := ht
    have hs' := hs
    simp only [Array.getD_eq_getD_getElem?] at ht' hs'
    simp [results, hr, ht', hs', go_sem, r0, r1]) hd hR
set_option maxRecDepth 100000 in
set_option maxHeartbeats 4000000 in
theorem impl_ParseRatio (n d : Int) (h : ratOk n d = true) (w : World) (hv : LV w) : Calls Tryz.prog 12 #[.string (bs (ratT n d))] w (GV (.tuple #[.agg #[.int .i64 n, .int .i64 d], .bool true]) w) := by
  have hR := Lib.hid h
  obtain ⟨h1, h2, h3, h4⟩ := ratOk_bds h
  have hln := ratT_len (n := n) (d := d) ⟨h3, h4⟩ ⟨by omega, h2⟩
  have hF := impl_FormatRatio n d h
  by_cases hd : d = 1
  · have hC : ∀ w, LV w → Calls Tryz.prog 23 #[.string (bs (ratT n d)), .string ⟨#[47]⟩] w (GV (.tuple #[.string (bs (Lib.itoa n)), .string (bs []), .bool false]) w) := by
      intro w hv
      have := c_Cut (ratT n d) [47] w hv (by omega)
      rw [show Lib.cut (ratT n d) [47] = (Lib.itoa n, [], false) by unfold ratT; rw [if_pos hd, cut_rat1]] at this
      exact this
    have hP : ∀ w, LV w → Calls Tryz.prog 24 #[.string ⟨#[49]⟩] w (GV (.tuple #[.int .i64 d, .bool true]) w) := by
      intro w hv
      have := impl_ParseInt 1 (by omega) w hv
      rw [itoa_one] at this
      rw [hd]
      exact this
    have hP1 := impl_ParseInt n ⟨h3, h4⟩
    clear h hd hln
    generalize bs (ratT n d) = s at *
    generalize bs (Lib.itoa n) = sn at *
    generalize bs (Lib.itoa d) = sd at *
    go_enter Tryz.func12, Tryz.ntmps12
    go_wp2_with (first | (go_at_call 39; refine (impl_IsRatio n d _).mono ?_; rw [hR.out]; rintro e w4 ⟨rfl, hb4⟩; have hv4 : LV w4 := LV.below hv3 (C := w3.heap.size) Kw hv3.lo; have hQ4 : BQ w4 w.heap.size 0 0 := (by (with_reducible (repeat (first | exact hQ3 | refine Blk.new_at _ _ _ _ Ks | refine Blk.below ?_ (by assumption) Ks | apply Blk.drew | apply Blk.drewN | refine Blk.far ?_ (by simp only [ne_eq]; omega) _ | apply Blk.alloc)))); have hr4 : BQ w4 w3.heap.size n d := (by (with_reducible (repeat (first | assumption | refine Blk.new_at _ _ _ _ Ks | refine Blk.below ?_ (by assumption) Ks | apply Blk.drew | apply Blk.drewN | refine Blk.far ?_ (by simp only [ne_eq]; omega) _ | apply Blk.alloc)))); have hbw4 : Below w.heap.size w w4 := Kw; have hs4 := hb4.size; simp at hs4; clear hb4 hbw3 hQ3; obtain ⟨p0, p1, pf, pl⟩ := hr4.cells) | (go_at_call 13; refine (hF _ hv4).mono ?_; rintro e w5 ⟨rfl, hb5⟩; have hQ5 : BQ w5 w.heap.size 0 0 := (by (with_reducible (repeat (first | exact hQ4 | refine Blk.new_at _ _ _ _ Ks | refine Blk.below ?_ (by assumption) Ks | apply Blk.drew | apply Blk.drewN | refine Blk.far ?_ (by simp only [ne_eq]; omega) _ | apply Blk.alloc)))); have hr5 : BQ w5 w3.heap.size n d := (by (with_reducible (repeat (first | exact hr4 | refine Blk.new_at _ _ _ _ Ks | refine Blk.below ?_ (by assumption) Ks | apply Blk.drew | apply Blk.drewN | refine Blk.far ?_ (by simp only [ne_eq]; omega) _ | apply Blk.alloc)))); have hbw5 : Below w.heap.size w w5 := Kw; have hs5 := hb5.size; clear hb5 hbw4 hQ4 p0 p1 pf pl hr4; obtain ⟨p0, p1, pf, pl⟩ := hr5.cells; obtain ⟨q0, q1, qf, ql⟩ := hQ5.cells) | (go_at_call 24; refine (hP _ hv2).mono ?_; rintro e w3 ⟨rfl, hb3⟩; have hv3 : LV w3 := LV.below hv2 hb3 hv2.lo; have hQ3 : BQ w3 w.heap.size 0 0 := (by (with_reducible (repeat (first | exact hQ2 | refine Blk.new_at _ _ _ _ Ks | refine Blk.below ?_ (by assumption) Ks | apply Blk.drew | apply Blk.drewN | refine Blk.far ?_ (by simp only [ne_eq]; omega) _ | apply Blk.alloc)))); have hbw3 : Below w.heap.size w w3 := Kw; have hs3 := hb3.size; clear hb3 hbw2 hQ2 hP) | (go_at_call 24; refine (hP1 _ hv1).mono ?_; rintro e w2 ⟨rfl, hb2⟩; have hv2 : LV w2 := LV.below hv1 hb2 hv1.lo; have hQ2 : BQ w2 w.heap.size 0 0 := (by (with_reducible (repeat (first | exact hQ | refine Blk.new_at _ _ _ _ Ks | refine Blk.below ?_ (by assumption) Ks | apply Blk.drew | apply Blk.drewN | refine Blk.far ?_ (by simp only [ne_eq]; omega) _ | apply Blk.alloc)))); have hbw2 : Below w.heap.size w w2 := Kw; have hs2 := hb2.size; clear hb2 hbw hQ hP1) | (go_at_call 23; refine (hC _ (LV.below hv (C := w.heap.size) Kw hv.lo)).mono ?_; rintro e w1 ⟨rfl, hb1⟩; have hv1 : LV w1 := LV.below hv (C := w.heap.size) Kw hv.lo; have hQ : BQ w1 w.heap.size 0 0 := (by (with_reducible (repeat (first | assumption | refine Blk.new_at _ _ _ _ Ks | refine Blk.below ?_ (by assumption) Ks | apply Blk.drew | apply Blk.drewN | refine Blk.far ?_ (by simp only [ne_eq]; omega) _ | apply Blk.alloc)))); have hbw : Below w.heap.size w w1 := Kw; have hs1 := hb1.size; simp at hs1; clear hb1))
    refine ret_Qs rfl rfl rfl (hQ5.put (n' := n) (d' := d)) rfl ⟨rfl, ?_⟩
    clear p0 p1 pf pl q0 q1 qf ql
    (repeat (first | (with_reducible (first | exact Below.refl _ _ | assumption | refine below_drewN ?_ _ | refine Below.drew ?_ | refine Below.alloc ?_ ?_ _ | refine Below.setCell ?_ ?_ _ | refine below_i ?_)) | go_size))
  · have hC : ∀ w, LV w → Calls Tryz.prog 23 #[.string (bs (ratT n d)), .string ⟨#[47]⟩] w (GV (.tuple #[.string (bs (Lib.itoa n)), .string (bs (Lib.itoa d)), .bool true]) w) := by
      intro w hv
      have := c_Cut (ratT n d) [47] w hv (by omega)
      rw [show Lib.cut (ratT n d) [47] = (Lib.itoa n, Lib.itoa d, true) by unfold ratT; rw [if_neg hd, cut_rat]] at this
      exact this
    have hP : ∀ w, LV w → Calls Tryz.prog 24 #[.string (bs (Lib.itoa d))] w (GV (.tuple #[.int .i64 d, .bool true]) w) := impl_ParseInt d ⟨by omega, h2⟩
    have hP1 := impl_ParseInt n ⟨h3, h4⟩
    clear h hd hln
    generalize bs (ratT n d) = s at *
    generalize bs (Lib.itoa n) = sn at *
    generalize bs (Lib.itoa d) = sd at *
    go_enter Tryz.func12, Tryz.ntmps12
    go_wp2_with (first | (go_at_call 39; refine (impl_IsRatio n d _).mono ?_; rw [hR.out]; rintro e w4 ⟨rfl, hb4⟩; have hv4 : LV w4 := LV.below hv3 (C := w3.heap.size) Kw hv3.lo; have hQ4 : BQ w4 w.heap.size 0 0 := (by (with_reducible (repeat (first | exact hQ3 | refine Blk.new_at _ _ _ _ Ks | refine Blk.below ?_ (by assumption) Ks | apply Blk.drew | apply Blk.drewN | refine Blk.far ?_ (by simp only [ne_eq]; omega) _ | apply Blk.alloc)))); have hr4 : BQ w4 w3.heap.size n d := (by (with_reducible (repeat (first | assumption | refine Blk.new_at _ _ _ _ Ks | refine Blk.below ?_ (by assumption) Ks | apply Blk.drew | apply Blk.drewN | refine Blk.far ?_ (by simp only [ne_eq]; omega) _ | apply Blk.alloc)))); have hbw4 : Below w.heap.size w w4 := Kw; have hs4 := hb4.size; simp at hs4; clear hb4 hbw3 hQ3; obtain ⟨p0, p1, pf, pl⟩ := hr4.cells) | (go_at_call 13; refine (hF _ hv4).mono ?_; rintro e w5 ⟨rfl, hb5⟩; have hQ5 : BQ w5 w.heap.size 0 0 := (by (with_reducible (repeat (first | exact hQ4 | refine Blk.new_at _ _ _ _ Ks | refine Blk.below ?_ (by assumption) Ks | apply Blk.drew | apply Blk.drewN | refine Blk.far ?_ (by simp only [ne_eq]; omega) _ | apply Blk.alloc)))); have hr5 : BQ w5 w3.heap.size n d := (by (with_reducible (repeat (first | exact hr4 | refine Blk.new_at _ _ _ _ Ks | refine Blk.below ?_ (by assumption) Ks | apply Blk.drew | apply Blk.drewN | refine Blk.far ?_ (by simp only [ne_eq]; omega) _ | apply Blk.alloc)))); have hbw5 : Below w.heap.size w w5 := Kw; have hs5 := hb5.size; clear hb5 hbw4 hQ4 p0 p1 pf pl hr4; obtain ⟨p0, p1, pf, pl⟩ := hr5.cells; obtain ⟨q0, q1, qf, ql⟩ := hQ5.cells) | (go_at_call 24; refine (hP _ hv2).mono ?_; rintro e w3 ⟨rfl, hb3⟩; have hv3 : LV w3 := LV.below hv2 hb3 hv2.lo; have hQ3 : BQ w3 w.heap.size 0 0 := (by (with_reducible (repeat (first | exact hQ2 | refine Blk.new_at _ _ _ _ Ks | refine Blk.below ?_ (by assumption) Ks | apply Blk.drew | apply Blk.drewN | refine Blk.far ?_ (by simp only [ne_eq]; omega) _ | apply Blk.alloc)))); have hbw3 : Below w.heap.size w w3 := Kw; have hs3 := hb3.size; clear hb3 hbw2 hQ2 hP) | (go_at_call 24; refine (hP1 _ hv1).mono ?_; rintro e w2 ⟨rfl, hb2⟩; have hv2 : LV w2 := LV.below hv1 hb2 hv1.lo; have hQ2 : BQ w2 w.heap.size 0 0 := (by (with_reducible (repeat (first | exact hQ | refine Blk.new_at _ _ _ _ Ks | refine Blk.below ?_ (by assumption) Ks | apply Blk.drew | apply Blk.drewN | refine Blk.far ?_ (by simp only [ne_eq]; omega) _ | apply Blk.alloc)))); have hbw2 : Below w.heap.size w w2 := Kw; have hs2 := hb2.size; clear hb2 hbw hQ hP1) | (go_at_call 23; refine (hC _ (LV.below hv (C := w.heap.size) Kw hv.lo)).mono ?_; rintro e w1 ⟨rfl, hb1⟩; have hv1 : LV w1 := LV.below hv (C := w.heap.size) Kw hv.lo; have hQ : BQ w1 w.heap.size 0 0 := (by (with_reducible (repeat (first | assumption | refine Blk.new_at _ _ _ _ Ks | refine Blk.below ?_ (by assumption) Ks | apply Blk.drew | apply Blk.drewN | refine Blk.far ?_ (by simp only [ne_eq]; omega) _ | apply Blk.alloc)))); have hbw : Below w.heap.size w w1 := Kw; have hs1 := hb1.size; simp at hs1; clear hb1))
    refine ret_Qs rfl rfl rfl (hQ5.put (n' := n) (d' := d)) rfl ⟨rfl, ?_⟩
    clear p0 p1 pf pl q0 q1 qf ql
    (repeat (first | (with_reducible (first | exact Below.refl _ _ | assumption | refine below_drewN ?_ _ | refine Below.drew ?_ | refine Below.alloc ?_ ?_ _ | refine Below.setCell ?_ ?_ _ | refine below_i ?_)) | go_size))
end Go.Proofs.YtlggfmfelakadaaGreatDoor

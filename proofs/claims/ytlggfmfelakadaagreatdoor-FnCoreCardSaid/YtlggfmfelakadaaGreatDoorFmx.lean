/-
  DERIVED. FormatMatrix.
-/
import Derived.Test.YtlggfmfelakadaaGreatDoorc3
import Derived.Test.YtlggfmfelakadaaGreatDoorMxx
namespace Go.Proofs.YtlggfmfelakadaaGreatDoor
open Go.RowKit
set_option linter.unusedVariables false
set_option linter.unusedSimpArgs false
theorem isMat_cells {r c : Int} {xs : List Int} (h : isMat r c xs = true) : ∀ x ∈ xs, -400000000 ≤ x ∧ x ≤ 400000000 := by
  have := (isMat_iff.1 h).num
  rw [List.all_eq_true] at this
  exact fun x hx => (isNum_iff x).1 (this x hx)
set_option maxRecDepth 100000 in
set_option maxHeartbeats 4000000 in
theorem impl_FormatMatrix_no (r c : Int) (A : Option Addr) (n cap : Nat) (xs : List Int) (w : World) {B : Nat} (h : RI w B A n xs) (hB : B ≤ w.heap.size) (hnc : n ≤ cap) (hn : n ≤ 1048576) (hM : isMat r c xs = false) :
    Calls Tryz.prog 6 #[.agg #[.int .i64 r, .int .i64 c, .slice A n cap]] w (GV (.string (bs [])) w) := by
  have H := Lib.hid (h.more hB)
  clear h
  go_enter Tryz.func6, Tryz.ntmps6
  go_wp2_with fail
  refine (impl_IsMatrix r c A n cap xs _ (C := w.heap.size) (Kr H.out) Ks hn).mono ?_
  rw [hM]
  rintro e w1 ⟨rfl, hb1⟩
  go_wp2_with fail
  go_ret
  exact ⟨rfl, Kw⟩
set_option maxRecDepth 100000 in
set_option maxHeartbeats 8000000 in
theorem impl_FormatMatrix (R C : Nat) (A : Option Addr) (n cap : Nat) (xs : List Int) (w : World) {B : Nat} (h : RI w B A n xs) (hB : B ≤ w.heap.size) (hnc : n ≤ cap) (hcap : cap ≤ 9223372036854775807) (hn : n ≤ 1048576) (hM : isMat R C xs = true) (hv : LV w) :
    Calls Tryz.prog 6 #[.agg #[.int .i64 R, .int .i64 C, .slice A n cap]] w (GV (.string (bs (matT R C xs))) w) := by
  have H := Lib.hid (h.more hB)
  have hR : R ≤ 24 := by have := (isMat_iff.1 hM).r1; omega
  have hC : C ≤ 24 := by have := (isMat_iff.1 hM).c1; omega
  have hlen : xs.length = R * C := by have := (isMat_iff.1 hM).len; exact_mod_cast this
  have hx := isMat_cells hM
  have hnl : n = xs.length := h.1.symm
  have HL := Lib.hid (And.intro hlen hnl)
  have hbl := body_len hlen hx
  have hn6 : xs.length ≤ 576 := by rw [hlen]; exact Nat.le_trans (Nat.mul_le_mul hR hC) (by omega)
  have hbl2 : (Lib.join (rowsT R C xs) [59]).length ≤ 10000 := by
    show (bodyT R C xs).length ≤ 10000
    omega
  clear h hlen hnl hbl hn6
  go_enter Tryz.func6, Tryz.ntmps6
  go_wp2_with fail
  refine (impl_IsMatrix R C A n cap xs _ (C := w.heap.size) (Kr H.out) Ks hn).mono ?_
  rw [hM]
  rintro e w1 ⟨rfl, hb1⟩
  have hbm : BM w1 w.heap.size R C A n cap := Ka
  have hbw : Below w.heap.size w w1 := Kw
  have hs1 := hb1.size
  (try simp at hs1)
  clear hb1 hM
  obtain ⟨ma, mb, mc, mf, ml⟩ := hbm.mx
  go_wp2_with fail
  have ho : OT (w1.alloc (.cells #[] 9)) (w.heap.size + 1) (.slice (some ⟨w1.heap.size, 0, none⟩) 0 0) [] := OT.empty _ _ rfl (by omega)
  go_loopw [3, 4] (fun u v wr => ∃ (k : Nat) (P : Option Addr) (q pc : Nat), v = .int .i64 k ∧ u = .slice P q pc ∧ k ≤ R ∧ OT wr (w.heap.size + 1) (.slice P q pc) ((rowsT R C xs).take k) ∧ BM wr w.heap.size R C A n cap ∧ Below w.heap.size w wr ∧ w.heap.size + 1 ≤ wr.heap.size) (fun _ v _ => R - (intOf v).toNat)
  case atStart => exact ⟨0, _, _, _, rfl, rfl, Nat.zero_le _, by rw [List.take_zero]; exact ho, Kb hbm, Kw, by simp; omega⟩
  case round =>
    clear ho ma mb mc mf ml hbm hbw hs1
    obtain ⟨k, P, q, pc, rfl, rfl, hk, ho, hbm, hbw, hszw⟩ := hrel
    obtain ⟨ma, mb, mc, mf, ml⟩ := hbm.mx
    by_cases hlt : k < R ∧ 0 < C
    · obtain ⟨hlt, hC0⟩ := hlt
      have hki : k * C + C ≤ n := by
        have := Nat.mul_le_mul_right C hlt
        rw [Nat.succ_mul] at this
        rw [HL.out.2, HL.out.1]; exact this
      go_wp2_with fail
      refine (impl_row R C k A n cap xs _ (B := w.heap.size) (Kr H.out) Ks hnc hcap (by omega) (by omega) hki).mono ?_
      rintro e w2 ⟨A', cap', rfl, hri, hb2, hc1, hc2⟩
      have ho2 : OT w2 (w.heap.size + 1) (.slice P q pc) ((rowsT R C xs).take k) := ho.below hb2 (Nat.le_refl _)
      have hbm2 : BM w2 w.heap.size R C A n cap := Kb hbm
      have hbw2 : Below w.heap.size w w2 := Kw
      have hs2 := hb2.size
      have HR := Lib.hid hri
      clear ho hbm hbw hb2 ma mb mc mf ml hri
      obtain ⟨ma, mb, mc, mf, ml⟩ := hbm2.mx
      have hxr : ∀ x ∈ rowL xs C k, -400000000 ≤ x ∧ x ≤ 400000000 := fun x hx' => hx x (List.mem_of_mem_drop (List.mem_of_mem_take hx'))
      go_wp2_with fail
      refine (impl_FormatInts A' C cap' (rowL xs C k) _ (B := w.heap.size) (Kr HR.out) Ks (by omega) hxr (LV.below hv (C := w.heap.size) Kw hv.lo)).mono ?_
      rintro e w3 ⟨rfl, hb3⟩
      have ho3 : OT w3 (w.heap.size + 1) (.slice P q pc) ((rowsT R C xs).take k) := ho2.below hb3 (Nat.le_refl _)
      have hbm3 : BM w3 w.heap.size R C A n cap := Kb hbm2
      have hbw3 : Below w.heap.size w w3 := Kw
      have hs3 := hb3.size
      clear ho2 hbm2 hbw2 hb3 ma mb mc mf ml HR hxr
      have hlk : ((rowsT R C xs).take k).length ≤ 24 := by rw [List.length_take]; omega
      go_wp2_with (at_builtin; refine wpList_append_txt _ rfl (.tmp 20) (.tmp 25) rfl (w.heap.size + 1) _ _ rfl (ho3.alloc _) _ (rowT (rowL xs C k)) rfl ?f1 ?f5 ?f6 ?_)
      case f1 => simp [go_sem]
      case f5 => omega
      case f6 => simp; omega
      intro v1 w6 hown1 hgr hat
      rw [show (rowsT R C xs).take k ++ [rowT (rowL xs C k)] = (rowsT R C xs).take (k + 1) from rows_next hC0 hlt] at hown1
      have hb6 : Below (w.heap.size + 1) (w3.alloc (.cells #[.string (bs (rowT (rowL xs C k)))] 9)) w6 := (ho3.alloc _).below_grown hgr (by simp; omega)
      have hbm6 : BM w6 w.heap.size R C A n cap := BX.below (BX.alloc hbm3 _) hb6 (by omega)
      have hbw6 : Below w.heap.size w w6 := (hbw3.alloc (by omega) _).trans (hb6.mono (by omega))
      have hs6 : w.heap.size + 1 ≤ w6.heap.size := by have := hb6.size; simp at this; omega
      obtain ⟨P', pc', rfl⟩ := hown1.shape
      clear hgr hat ho3 hbw3 hbm3 hb6
      obtain ⟨ma, mb, mc, mf, ml⟩ := hbm6.mx
      go_wp2_with fail
      go_roundw
      case rel => exact ⟨k + 1, P', _, pc', by go_num, by first | rfl | (simp; done), by omega, hown1, hbm6, hbw6, hs6⟩
      case measure => simp only [intOf]; omega
    · have hfin := rows_end (xs := xs) hlt
      rw [hfin] at ho
      clear hfin
      have hln1 := itoa_len (n := (R : Int)) (by omega)
      have hln2 := itoa_len (n := (C : Int)) (by omega)
      have hFR := impl_FormatInt (R : Int) (by omega)
      have hFC := impl_FormatInt (C : Int) (by omega)
      have hJ : ∀ w', OT w' (w.heap.size + 1) (.slice P q pc) (rowsT R C xs) → Calls Tryz.prog 22 #[.slice P q pc, .string (bs [59])] w' (GV (.string (bs (bodyT R C xs))) w') := fun w' h' => c_Join P q pc (rowsT R C xs) [59] w' h' (by omega) (Nat.le_trans (rows_len R C xs) (by omega))
      have HT : Hid (matT R C xs = Lib.itoa (R : Int) ++ 120 :: Lib.itoa (C : Int) ++ 91 :: (bodyT R C xs ++ [93])) := Lib.hid rfl
      have hbl3 : (bodyT R C xs).length ≤ 10000 := hbl2
      clear hbl2
      generalize bodyT R C xs = bd at *
      generalize matT R C xs = mt at *
      generalize Lib.itoa (R : Int) = tr at *
      generalize Lib.itoa (C : Int) = tc at *
      have hc1 : ¬ 9223372036854775807 < tr.length + 1 := by omega
      have hc2 : ¬ 9223372036854775807 < tr.length + 1 + tc.length := by omega
      have hc3 : ¬ 9223372036854775807 < tr.length + 1 + tc.length + 1 := by omega
      have hc4 : ¬ 9223372036854775807 < tr.length + 1 + tc.length + 1 + bd.length := by omega
      have hc5 : ¬ 9223372036854775807 < tr.length + 1 + tc.length + 1 + bd.length + 1 := by omega
      clear hln1 hln2 hbl3
      by_cases hkR : k < R
      · have hcz : ¬ 0 < C := by omega
        clear hlt
        go_wp2_with fail
        ((refine wp_region_held_drew (S := (fun w' => w'.cell? ⟨w.heap.size, 0, none⟩ = some (.int .i64 R) ∧ w'.cell? ⟨w.heap.size, 1, none⟩ = some (.int .i64 C))) (by kernel_rfl) ?_ (fun hHeld => ?_)); ((focus ((try dsimp only); (go_keep)))); ((refine tk_ (i := 0) (v := ?_) (y := Or.inl ⟨by rfl, ?_⟩) (h := ?_); rotate_left; (focus (((intro w hSw; (try dsimp only at hSw); go_simp) <;> (try with_reducible rfl)); done)); (try simp only [Act.put, p1_, p2_, p3_]))); ((refine tk_ (i := 1) (v := ?_) (y := Or.inl ⟨by rfl, ?_⟩) (h := ?_); rotate_left; (focus (((intro w hSw; (try dsimp only at hSw); go_simp) <;> (try with_reducible rfl)); done)); (try simp only [Act.put, p1_, p2_, p3_]))); ((refine tk_ (i := 4) (v := ?_) (y := Or.inl ⟨by rfl, ?_⟩) (h := ?_); rotate_left; (focus (((intro w hSw; (try dsimp only at hSw); go_simp) <;> (try with_reducible rfl)); done)); (try simp only [Act.put, p1_, p2_, p3_]))); ((refine tk_ (i := 5) (v := ?_) (y := Or.inl ⟨by rfl, ?_⟩) (h := ?_); rotate_left; (focus (((intro w hSw; (try dsimp only at hSw); go_simp) <;> (try with_reducible rfl)); done)); (try simp only [Act.put, p1_, p2_, p3_]))); ((refine tk_ (i := 9) (v := ?_) (y := Or.inl ⟨by rfl, ?_⟩) (h := ?_); rotate_left; (focus (((intro w hSw; (try dsimp only at hSw); go_simp) <;> (try with_reducible rfl)); done)); (try simp only [Act.put, p1_, p2_, p3_]))); ((refine wpAnyH_ready (rs := [2]) (by kernel_rfl) (by simp) ?_; refine AllReadyH.cons (by simp only [e1_, e2_, e3_]; try rfl) (fun K hK => ?_) AllReadyH.nil; go_simp; (refine (hFR _ (LV.below hv (C := w.heap.size) Kw hv.lo)).mono ?_; rintro e w3 ⟨rfl, hb3⟩; have ho_1 : OT w3 (w.heap.size + 1) (.slice P q pc) (rowsT R C xs) := (by first | exact OT.below ho hb3 (Nat.le_refl _) | exact OT.below ho.drew hb3 (Nat.le_refl _) | exact OT.below (ho.drewN _) hb3 (Nat.le_refl _)); have hbm_1 : BM w3 w.heap.size R C A n cap := (Kb hbm); have hbw_1 : Below w.heap.size w w3 := Kw; have hs_w3 := hb3.size; clear ho hbm hbw hb3 ma mb mc mf ml; have ho := ho_1; have hbm := hbm_1; have hbw := hbw_1; clear ho_1 hbm_1 hbw_1; obtain ⟨ma, mb, mc, mf, ml⟩ := hbm.mx); (try go_wp2_with fail); refine hK.out _ _ ?_ (fun hHeld => ?_); (focus ((try dsimp only); (go_keep))); clear hK K; (try simp only [Act.put, p1_, p2_, p3_]))); ((refine tk_ (i := 3) (v := ?_) (y := Or.inl ⟨by rfl, ?_⟩) (h := ?_); rotate_left; (focus (((intro w hSw; (try dsimp only at hSw); go_simp) <;> (try with_reducible rfl)); done)); (try simp only [Act.put, p1_, p2_, p3_]))); ((refine wpAnyH_ready (rs := [6]) (by kernel_rfl) (by simp) ?_; refine AllReadyH.cons (by simp only [e1_, e2_, e3_]; try rfl) (fun K hK => ?_) AllReadyH.nil; go_simp; (refine (hFC _ (LV.below hv (C := w.heap.size) Kw hv.lo)).mono ?_; rintro e w4 ⟨rfl, hb4⟩; have ho_1 : OT w4 (w.heap.size + 1) (.slice P q pc) (rowsT R C xs) := (by first | exact OT.below ho hb4 (Nat.le_refl _) | exact OT.below ho.drew hb4 (Nat.le_refl _) | exact OT.below (ho.drewN _) hb4 (Nat.le_refl _)); have hbm_1 : BM w4 w.heap.size R C A n cap := (Kb hbm); have hbw_1 : Below w.heap.size w w4 := Kw; have hs_w4 := hb4.size; clear ho hbm hbw hb4 ma mb mc mf ml; have ho := ho_1; have hbm := hbm_1; have hbw := hbw_1; clear ho_1 hbm_1 hbw_1; obtain ⟨ma, mb, mc, mf, ml⟩ := hbm.mx); (try go_wp2_with fail); refine hK.out _ _ ?_ (fun hHeld => ?_); (focus ((try dsimp only); (go_keep))); clear hK K; (try simp only [Act.put, p1_, p2_, p3_]))); ((refine tk_ (i := 7) (v := ?_) (y := Or.inl ⟨by rfl, ?_⟩) (h := ?_); rotate_left; (focus (((intro w hSw; (try dsimp only at hSw); go_simp) <;> (try with_reducible rfl)); done)); (try simp only [Act.put, p1_, p2_, p3_]))); ((refine tk_ (i := 8) (v := ?_) (y := Or.inl ⟨by rfl, ?_⟩) (h := ?_); rotate_left; (focus (((intro w hSw; (try dsimp only at hSw); go_simp) <;> (try with_reducible rfl)); done)); (try simp only [Act.put, p1_, p2_, p3_]))); ((refine wpAnyH_ready (rs := [10]) (by kernel_rfl) (by simp) ?_; refine AllReadyH.cons (by simp only [e1_, e2_, e3_]; try rfl) (fun K hK => ?_) AllReadyH.nil; go_simp; (refine (hJ _ (by first | exact ho | exact ho.drew | exact ho.drewN _)).mono ?_; rintro e w5 ⟨rfl, hb5⟩; have ho_1 : OT w5 (w.heap.size + 1) (.slice P q pc) (rowsT R C xs) := (by first | exact OT.below ho hb5 (Nat.le_refl _) | exact OT.below ho.drew hb5 (Nat.le_refl _) | exact OT.below (ho.drewN _) hb5 (Nat.le_refl _)); have hbm_1 : BM w5 w.heap.size R C A n cap := (Kb hbm); have hbw_1 : Below w.heap.size w w5 := Kw; have hs_w5 := hb5.size; clear ho hbm hbw hb5 ma mb mc mf ml; have ho := ho_1; have hbm := hbm_1; have hbw := hbw_1; clear ho_1 hbm_1 hbw_1; obtain ⟨ma, mb, mc, mf, ml⟩ := hbm.mx); (try go_wp2_with fail); refine hK.out _ _ ?_ (fun hHeld => ?_); (focus ((try dsimp only); (go_keep))); clear hK K; (try simp only [Act.put, p1_, p2_, p3_]))); ((refine tk_ (i := 11) (v := ?_) (y := Or.inl ⟨by rfl, ?_⟩) (h := ?_); rotate_left; (focus (((intro w hSw; (try dsimp only at hSw); go_simp) <;> (try with_reducible rfl)); done)); (try simp only [Act.put, p1_, p2_, p3_]))); ((refine tk_ (i := 12) (v := ?_) (y := Or.inl ⟨by rfl, ?_⟩) (h := ?_); rotate_left; (focus (((intro w hSw; (try dsimp only at hSw); go_simp) <;> (try with_reducible rfl)); done)); (try simp only [Act.put, p1_, p2_, p3_]))); ((refine tk_ (i := 13) (v := ?_) (y := Or.inl ⟨by rfl, ?_⟩) (h := ?_); rotate_left; (focus (((intro w hSw; (try dsimp only at hSw); go_simp) <;> (try with_reducible rfl)); done)); (try simp only [Act.put, p1_, p2_, p3_]))); (refine wpAnyH_done (by kernel_rfl) ?_ _))
        go_wp2_with fail
        go_ret
        refine ⟨?_, Kw⟩
        rw [HT.out]
        show Ending.returned (.string (bs tr ++ bs [120] ++ bs tc ++ bs [91] ++ bs bd ++ bs [93])) = _
        simp only [bs_app, List.append_assoc]
        rfl
      · clear hlt
        go_wp2_with fail
        ((refine wp_region_held_drew (S := (fun w' => w'.cell? ⟨w.heap.size, 0, none⟩ = some (.int .i64 R) ∧ w'.cell? ⟨w.heap.size, 1, none⟩ = some (.int .i64 C))) (by kernel_rfl) ?_ (fun hHeld => ?_)); ((focus ((try dsimp only); (go_keep)))); ((refine tk_ (i := 0) (v := ?_) (y := Or.inl ⟨by rfl, ?_⟩) (h := ?_); rotate_left; (focus (((intro w hSw; (try dsimp only at hSw); go_simp) <;> (try with_reducible rfl)); done)); (try simp only [Act.put, p1_, p2_, p3_]))); ((refine tk_ (i := 1) (v := ?_) (y := Or.inl ⟨by rfl, ?_⟩) (h := ?_); rotate_left; (focus (((intro w hSw; (try dsimp only at hSw); go_simp) <;> (try with_reducible rfl)); done)); (try simp only [Act.put, p1_, p2_, p3_]))); ((refine tk_ (i := 4) (v := ?_) (y := Or.inl ⟨by rfl, ?_⟩) (h := ?_); rotate_left; (focus (((intro w hSw; (try dsimp only at hSw); go_simp) <;> (try with_reducible rfl)); done)); (try simp only [Act.put, p1_, p2_, p3_]))); ((refine tk_ (i := 5) (v := ?_) (y := Or.inl ⟨by rfl, ?_⟩) (h := ?_); rotate_left; (focus (((intro w hSw; (try dsimp only at hSw); go_simp) <;> (try with_reducible rfl)); done)); (try simp only [Act.put, p1_, p2_, p3_]))); ((refine tk_ (i := 9) (v := ?_) (y := Or.inl ⟨by rfl, ?_⟩) (h := ?_); rotate_left; (focus (((intro w hSw; (try dsimp only at hSw); go_simp) <;> (try with_reducible rfl)); done)); (try simp only [Act.put, p1_, p2_, p3_]))); ((refine wpAnyH_ready (rs := [2]) (by kernel_rfl) (by simp) ?_; refine AllReadyH.cons (by simp only [e1_, e2_, e3_]; try rfl) (fun K hK => ?_) AllReadyH.nil; go_simp; (refine (hFR _ (LV.below hv (C := w.heap.size) Kw hv.lo)).mono ?_; rintro e w3 ⟨rfl, hb3⟩; have ho_1 : OT w3 (w.heap.size + 1) (.slice P q pc) (rowsT R C xs) := (by first | exact OT.below ho hb3 (Nat.le_refl _) | exact OT.below ho.drew hb3 (Nat.le_refl _) | exact OT.below (ho.drewN _) hb3 (Nat.le_refl _)); have hbm_1 : BM w3 w.heap.size R C A n cap := (Kb hbm); have hbw_1 : Below w.heap.size w w3 := Kw; have hs_w3 := hb3.size; clear ho hbm hbw hb3 ma mb mc mf ml; have ho := ho_1; have hbm := hbm_1; have hbw := hbw_1; clear ho_1 hbm_1 hbw_1; obtain ⟨ma, mb, mc, mf, ml⟩ := hbm.mx); (try go_wp2_with fail); refine hK.out _ _ ?_ (fun hHeld => ?_); (focus ((try dsimp only); (go_keep))); clear hK K; (try simp only [Act.put, p1_, p2_, p3_]))); ((refine tk_ (i := 3) (v := ?_) (y := Or.inl ⟨by rfl, ?_⟩) (h := ?_); rotate_left; (focus (((intro w hSw; (try dsimp only at hSw); go_simp) <;> (try with_reducible rfl)); done)); (try simp only [Act.put, p1_, p2_, p3_]))); ((refine wpAnyH_ready (rs := [6]) (by kernel_rfl) (by simp) ?_; refine AllReadyH.cons (by simp only [e1_, e2_, e3_]; try rfl) (fun K hK => ?_) AllReadyH.nil; go_simp; (refine (hFC _ (LV.below hv (C := w.heap.size) Kw hv.lo)).mono ?_; rintro e w4 ⟨rfl, hb4⟩; have ho_1 : OT w4 (w.heap.size + 1) (.slice P q pc) (rowsT R C xs) := (by first | exact OT.below ho hb4 (Nat.le_refl _) | exact OT.below ho.drew hb4 (Nat.le_refl _) | exact OT.below (ho.drewN _) hb4 (Nat.le_refl _)); have hbm_1 : BM w4 w.heap.size R C A n cap := (Kb hbm); have hbw_1 : Below w.heap.size w w4 := Kw; have hs_w4 := hb4.size; clear ho hbm hbw hb4 ma mb mc mf ml; have ho := ho_1; have hbm := hbm_1; have hbw := hbw_1; clear ho_1 hbm_1 hbw_1; obtain ⟨ma, mb, mc, mf, ml⟩ := hbm.mx); (try go_wp2_with fail); refine hK.out _ _ ?_ (fun hHeld => ?_); (focus ((try dsimp only); (go_keep))); clear hK K; (try simp only [Act.put, p1_, p2_, p3_]))); ((refine tk_ (i := 7) (v := ?_) (y := Or.inl ⟨by rfl, ?_⟩) (h := ?_); rotate_left; (focus (((intro w hSw; (try dsimp only at hSw); go_simp) <;> (try with_reducible rfl)); done)); (try simp only [Act.put, p1_, p2_, p3_]))); ((refine tk_ (i := 8) (v := ?_) (y := Or.inl ⟨by rfl, ?_⟩) (h := ?_); rotate_left; (focus (((intro w hSw; (try dsimp only at hSw); go_simp) <;> (try with_reducible rfl)); done)); (try simp only [Act.put, p1_, p2_, p3_]))); ((refine wpAnyH_ready (rs := [10]) (by kernel_rfl) (by simp) ?_; refine AllReadyH.cons (by simp only [e1_, e2_, e3_]; try rfl) (fun K hK => ?_) AllReadyH.nil; go_simp; (refine (hJ _ (by first | exact ho | exact ho.drew | exact ho.drewN _)).mono ?_; rintro e w5 ⟨rfl, hb5⟩; have ho_1 : OT w5 (w.heap.size + 1) (.slice P q pc) (rowsT R C xs) := (by first | exact OT.below ho hb5 (Nat.le_refl _) | exact OT.below ho.drew hb5 (Nat.le_refl _) | exact OT.below (ho.drewN _) hb5 (Nat.le_refl _)); have hbm_1 : BM w5 w.heap.size R C A n cap := (Kb hbm); have hbw_1 : Below w.heap.size w w5 := Kw; have hs_w5 := hb5.size; clear ho hbm hbw hb5 ma mb mc mf ml; have ho := ho_1; have hbm := hbm_1; have hbw := hbw_1; clear ho_1 hbm_1 hbw_1; obtain ⟨ma, mb, mc, mf, ml⟩ := hbm.mx); (try go_wp2_with fail); refine hK.out _ _ ?_ (fun hHeld => ?_); (focus ((try dsimp only); (go_keep))); clear hK K; (try simp only [Act.put, p1_, p2_, p3_]))); ((refine tk_ (i := 11) (v := ?_) (y := Or.inl ⟨by rfl, ?_⟩) (h := ?_); rotate_left; (focus (((intro w hSw; (try dsimp only at hSw); go_simp) <;> (try with_reducible rfl)); done)); (try simp only [Act.put, p1_, p2_, p3_]))); ((refine tk_ (i := 12) (v := ?_) (y := Or.inl ⟨by rfl, ?_⟩) (h := ?_); rotate_left; (focus (((intro w hSw; (try dsimp only at hSw); go_simp) <;> (try with_reducible rfl)); done)); (try simp only [Act.put, p1_, p2_, p3_]))); ((refine tk_ (i := 13) (v := ?_) (y := Or.inl ⟨by rfl, ?_⟩) (h := ?_); rotate_left; (focus (((intro w hSw; (try dsimp only at hSw); go_simp) <;> (try with_reducible rfl)); done)); (try simp only [Act.put, p1_, p2_, p3_]))); (refine wpAnyH_done (by kernel_rfl) ?_ _))
        go_wp2_with fail
        go_ret
        refine ⟨?_, Kw⟩
        rw [HT.out]
        show Ending.returned (.string (bs tr ++ bs [120] ++ bs tc ++ bs [91] ++ bs bd ++ bs [93])) = _
        simp only [bs_app, List.append_assoc]
        rfl
end Go.Proofs.YtlggfmfelakadaaGreatDoor

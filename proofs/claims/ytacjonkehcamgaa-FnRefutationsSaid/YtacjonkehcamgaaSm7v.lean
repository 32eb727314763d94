/-
  DERIVED. SmithForm of the reference.
-/
import Derived.Test.YtacjonkehcamgaaSm6v
import Derived.Test.YtacjonkehcamgaaY3
import Derived.Test.YtacjonkehcamgaaY1
namespace Go.Proofs.Ytacjonkehcamgaa
open Go.RowKit
set_option linter.unusedVariables false
set_option linter.unusedSimpArgs false
set_option maxRecDepth 100000 in
set_option maxHeartbeats 8000000 in
theorem spec_SmithForm (r c : Int) (A : Option Addr) (n cap : Nat) (xs : List Int) (w : World) {B : Nat} (h : RI w B A n xs) (hB : B ≤ w.heap.size) (hn : n ≤ 1048576) :
    Calls Try.prog 57 #[.agg #[.int .i64 r, .int .i64 c, .slice A n cap]] w (M3R (sfDO r c (sfX r c xs)) (sfUO r (sfX r c xs)) (sfVO c (sfX r c xs)) (sfX r c xs).isSome w) := by
  have hlen := h.len
  have H2 := Lib.hid (h.more hB)
  clear h
  rcases hm : isMat r c xs with _ | _
  · have HM := Lib.hid hm
    have HX := Lib.hid (sfX_no hm)
    clear hm
    generalize sfX r c xs = X at *
    go_enter Try.func57, Try.ntmps57
    go_wp2_with fail
    refine (spec_IsMatrix r c A n cap xs _ (C := w.heap.size) (Kr H2.out) Ks hn).mono ?_
    rw [HM.out]
    rintro e w1 ⟨rfl, hb1⟩
    have hV : HV3 w w1 r c A n cap := ⟨Ka, Ka, Ka, Ka, Kw⟩
    obtain ⟨r0a, r0b, r0c, r0f, r0l⟩ := hV.r1.mx
    obtain ⟨r1a, r1b, r1c, r1f, r1l⟩ := hV.r2.mx
    obtain ⟨r2a, r2b, r2c, r2f, r2l⟩ := hV.r3.mx
    obtain ⟨ma, mb, mc, mf, ml⟩ := hV.m.mx
    have hvr1 := hV.r1
    have hvr2 := hV.r2
    have hvr3 := hV.r3
    have hbw := hV.b
    go_wp2_with fail
    refine ret_M3 (r := 0) (c := 0) (A := none) (n := 0) (cap := 0) (r' := 0) (c' := 0) (A' := none) (n' := 0) (cap' := 0) (r'' := 0) (c'' := 0) (A'' := none) (n'' := 0) (cap'' := 0) Try.results57 rfl rfl rfl (Kb hvr1) (Kb hvr2) (Kb hvr3) rfl ?_
    exact M3R.none_ HX.out Kw
  · have M := isMat_iff.1 hm
    obtain ⟨R, rfl⟩ := nat_of M.r0
    obtain ⟨C, rfl⟩ := nat_of M.c0
    have hR : R ≤ 24 := by have := M.r1; omega
    have hC : C ≤ 24 := by have := M.c1; omega
    have hlx : xs.length = R * C := by have := M.len; rw [← Int.natCast_mul] at this; omega
    have hs0 := start_gd (R := R) (C := C) M.num
    have HG0 : Hid (SGD R C ⟨fun i j => cel xs C i j, idF, idF⟩) := Lib.hid ⟨⟨hs0.ok.f, hs0.ok.g, idF_ok C C⟩, ⟨hs0.nb.f, hs0.nb.g, idF_nb⟩⟩
    have HX := Lib.hid (sfX_yes hm)
    have HT := Lib.hid (tb_of hlx)
    have HM := Lib.hid hm
    clear M hm hlx hs0
    generalize sfX (R : Int) (C : Int) xs = X at *
    generalize hf : (fun (i j : Nat) => cel xs C i j) = f0 at HG0 HX HT
    clear hf
    have HH : Hid (∀ (Aa : Option Addr) (na capa : Nat) (A2 : Option Addr) (n2 cap2 : Nat) (A3 : Option Addr) (n3 cap3 : Nat) (w' : World) (B0 : Nat), OR w' B0 (.slice Aa na capa) (tb R C f0) → OR w' B0 (.slice A2 n2 cap2) (tb R R idF) → OR w' B0 (.slice A3 n3 cap3) (tb C C idF) → Apart (.slice Aa na capa) (.slice A2 n2 cap2) → Apart (.slice Aa na capa) (.slice A3 n3 cap3) → Apart (.slice A2 n2 cap2) (.slice A3 n3 cap3) → B0 ≤ w'.heap.size → Calls Try.prog 157 #[.agg #[.int .i64 R, .int .i64 C, .slice Aa na capa], .agg #[.int .i64 R, .int .i64 R, .slice A2 n2 cap2], .agg #[.int .i64 C, .int .i64 C, .slice A3 n3 cap3]] w' (SmR (.slice Aa na capa) (.slice A2 n2 cap2) (.slice A3 n3 cap3) B0 R C X w')) :=
      Lib.hid (fun Aa na capa A2 n2 cap2 A3 n3 cap3 w' B0 k1 k2 k3 a1 a2 a3 k4 => by rw [HX.out]; exact spec_l13Smith R C Aa na capa A2 n2 cap2 A3 n3 cap3 ⟨f0, idF, idF⟩ w' k1 k2 k3 a1 a2 a3 k4 HG0.out hC hR)
    clear HX HG0
    go_enter Try.func57, Try.ntmps57
    go_wp2_with fail
    refine (spec_IsMatrix R C A n cap xs _ (C := w.heap.size) (Kr H2.out) Ks hn).mono ?_
    rw [HM.out]
    rintro e w1 ⟨rfl, hb1⟩
    have hV : HV3 w w1 R C A n cap := ⟨Ka, Ka, Ka, Ka, Kw⟩
    have hri : RI w1 w.heap.size A n xs := Kr H2.out
    clear hb1
    obtain ⟨ma, mb, mc, mf, ml⟩ := hV.m.mx
    have hlow := hV.lt
    go_wp2_with fail
    refine (spec_l3Copy R C A n cap xs _ (B := w.heap.size) (Kr hri) Ks hn).mono ?_
    rintro e w2 ⟨Aa, na, capa, rfl, -, hoa, hb2⟩
    have hV2 : HV3 w w2 R C A n cap := by (with_reducible (repeat (first | exact hV | refine HV3.b_ ?_ | refine HV3.drew ?_ | refine HV3.drewN ?_ _ | refine HV3.alloc ?_ _)))
    clear ma mb mc mf ml
    rw [HT.out] at hoa
    have hs2 := hb2.size
    (try simp at hs2)
    obtain ⟨B0, hB0, hB2, hBw⟩ : ∃ B0, w.heap.size + 1 + 1 + 1 + 1 ≤ B0 ∧ B0 ≤ w2.heap.size ∧ OR w2 B0 (.slice Aa na capa) (tb R C f0) := ⟨_, hlow, hs2, hoa⟩
    have HOA := Lib.hid hBw.own
    clear hV hb2 hri hoa
    have hV := hV2
    clear hV2
    have hlow2 := hV.lt
    obtain ⟨ma, mb, mc, mf, ml⟩ := hV.m.mx
    go_wp2_with fail
    refine (spec_IdentityMatrix R _ hR).mono ?_
    rintro e w3 ⟨A2, n2, cap2, rfl, ho2, hb3⟩
    have hs3 := hb3.size
    simp at hs3
    have h5 : BM w3 w2.heap.size R C Aa na capa := Ka
    have hoa : OR w3 B0 (.slice Aa na capa) (tb R C f0) := Ko hBw
    have HOB : Hid (Own (.slice A2 n2 cap2) (w2.heap.size + 1) w3.heap.size) := Lib.hid ((OR.own (xs := tb R R idF) ho2).wide (by simp) (Nat.le_refl _))
    have ho2' : OR w3 B0 (.slice A2 n2 cap2) (tb R R idF) := OR.mono (xs := tb R R idF) ho2 (by simp; omega)
    have hV3 : HV3 w w3 R C A n cap := by (with_reducible (repeat (first | exact hV | refine HV3.b_ ?_ | refine HV3.drew ?_ | refine HV3.drewN ?_ _ | refine HV3.alloc ?_ _)))
    clear ma mb mc mf ml
    clear hV hBw ho2 hb3
    have hV := hV3
    clear hV3
    obtain ⟨ma, mb, mc, mf, ml⟩ := hV.m.mx
    go_wp2_with fail
    refine (spec_IdentityMatrix C _ hC).mono ?_
    rintro e w4 ⟨A3, n3, cap3, rfl, ho3, hb4⟩
    have hs4 := hb4.size
    simp at hs4
    have h6 : BM w4 w2.heap.size R C Aa na capa := Kb h5
    have h7 : BM w4 w3.heap.size R R A2 n2 cap2 := Ka
    have hoa4 : OR w4 B0 (.slice Aa na capa) (tb R C f0) := Ko hoa
    have ho24 : OR w4 B0 (.slice A2 n2 cap2) (tb R R idF) := Ko ho2'
    have HOC : Hid (Own (.slice A3 n3 cap3) (w3.heap.size + 1) w4.heap.size) := Lib.hid ((OR.own (xs := tb C C idF) ho3).wide (by simp) (Nat.le_refl _))
    have ho3' : OR w4 B0 (.slice A3 n3 cap3) (tb C C idF) := OR.mono (xs := tb C C idF) ho3 (by simp; omega)
    have hV4 : HV3 w w4 R C A n cap := by (with_reducible (repeat (first | exact hV | refine HV3.b_ ?_ | refine HV3.drew ?_ | refine HV3.drewN ?_ _ | refine HV3.alloc ?_ _)))
    clear ma mb mc mf ml
    clear hV h5 hoa ho2' ho3 hb4
    have hV := hV4
    clear hV4
    have HAP : Hid (Apart (.slice Aa na capa) (.slice A2 n2 cap2)) := Lib.hid (fun g e1 e2 => by have := HOA.out g e1; have := HOB.out g e2; omega)
    have HAP2 : Hid (Apart (.slice Aa na capa) (.slice A3 n3 cap3)) := Lib.hid (fun g e1 e2 => by have := HOA.out g e1; have := HOC.out g e2; omega)
    have HAP3 : Hid (Apart (.slice A2 n2 cap2) (.slice A3 n3 cap3)) := Lib.hid (fun g e1 e2 => by have := HOB.out g e1; have := HOC.out g e2; omega)
    obtain ⟨ma, mb, mc, mf, ml⟩ := hV.m.mx
    obtain ⟨la, lb, lc, lf, ll⟩ := h6.mx
    obtain ⟨na_, nb_, nc_, nf_, nl_⟩ := h7.mx
    go_wp2_with fail
    refine (HH.out Aa na capa A2 n2 cap2 A3 n3 cap3 (w4.alloc (.cells #[.int .i64 C, .int .i64 C, .slice A3 n3 cap3] 26)) B0 (Ko hoa4) (Ko ho24) (Ko ho3') HAP.out HAP2.out HAP3.out Ks).mono ?_
    rcases hs : X with _ | s
    · have HXN := Lib.hid hs
      have hv : X.isSome = false := by rw [hs]; rfl
      rw [← hs]
      clear hs HH
      rintro e w5 ⟨he, -, hb5, -⟩
      rw [hv] at he
      subst he
      have hV4 : HV3 w w5 R C A n cap := by (with_reducible (repeat (first | exact hV | refine HV3.b_ ?_ | refine HV3.drew ?_ | refine HV3.drewN ?_ _ | refine HV3.alloc ?_ _)))
      clear ma mb mc mf ml
      clear la lb lc lf ll na_ nb_ nc_ nf_ nl_
      clear hV h6 h7 hb5 hv hoa4 ho24 ho3'
      obtain ⟨r0a, r0b, r0c, r0f, r0l⟩ := hV4.r1.mx
      obtain ⟨r1a, r1b, r1c, r1f, r1l⟩ := hV4.r2.mx
      obtain ⟨r2a, r2b, r2c, r2f, r2l⟩ := hV4.r3.mx
      have hvr1 := hV4.r1
      have hvr2 := hV4.r2
      have hvr3 := hV4.r3
      have hbw := hV4.b
      go_wp2_with fail
      refine ret_M3 (r := 0) (c := 0) (A := none) (n := 0) (cap := 0) (r' := 0) (c' := 0) (A' := none) (n' := 0) (cap' := 0) (r'' := 0) (c'' := 0) (A'' := none) (n'' := 0) (cap'' := 0) Try.results57 rfl rfl rfl (Kb hvr1) (Kb hvr2) (Kb hvr3) rfl ?_
      exact M3R.none_ HXN.out Kw
    · have HXS := Lib.hid hs
      have hv : X.isSome = true := by rw [hs]; rfl
      rw [← hs]
      clear hs HH
      rintro e w5 ⟨he, ⟨f', g', h', k1, k2, k3, kk⟩, hb5, hk5⟩
      rw [hv] at he
      subst he
      obtain ⟨rfl, rfl, rfl⟩ := kk s HXS.out
      have hV4 : HV3 w w5 R C A n cap := by (with_reducible (repeat (first | exact hV | refine HV3.b_ ?_ | refine HV3.drew ?_ | refine HV3.drewN ?_ _ | refine HV3.alloc ?_ _)))
      have o1 : ∀ k, w2.heap.size ≤ k → some k ≠ (Value.slice Aa na capa).ownBlock := fun k hk e => by have := HOA.out k e.symm; omega
      have o2 : ∀ k, k ≤ w2.heap.size ∨ w3.heap.size ≤ k → some k ≠ (Value.slice A2 n2 cap2).ownBlock := fun k hk e => by have := HOB.out k e.symm; omega
      have o3 : ∀ k, k ≤ w3.heap.size ∨ w4.heap.size ≤ k → some k ≠ (Value.slice A3 n3 cap3).ownBlock := fun k hk e => by have := HOC.out k e.symm; omega
      have hm1 : BM w5 w2.heap.size R C Aa na capa := (hk5 _ (by simp; omega) (o1 _ (Nat.le_refl _)) (o2 _ (.inl (Nat.le_refl _))) (o3 _ (.inl (by omega)))).trans (show BM _ w2.heap.size R C Aa na capa from Kb h6)
      have hm2 : BM w5 w3.heap.size R R A2 n2 cap2 := (hk5 _ (by simp; omega) (o1 _ (by omega)) (o2 _ (.inr (Nat.le_refl _))) (o3 _ (.inl (Nat.le_refl _)))).trans (show BM _ w3.heap.size R R A2 n2 cap2 from Kb h7)
      have hm3 : BM w5 w4.heap.size C C A3 n3 cap3 := (hk5 _ (by simp) (o1 _ (by omega)) (o2 _ (.inr (by omega))) (o3 _ (.inr (Nat.le_refl _)))).trans (show BM _ w4.heap.size C C A3 n3 cap3 from Ka)
      clear ma mb mc mf ml
      clear la lb lc lf ll na_ nb_ nc_ nf_ nl_
      clear hV h6 h7 hb5 hv hoa4 ho24 ho3' hk5 o1 o2 o3 kk
      obtain ⟨r0a, r0b, r0c, r0f, r0l⟩ := hV4.r1.mx
      obtain ⟨r1a, r1b, r1c, r1f, r1l⟩ := hV4.r2.mx
      obtain ⟨r2a, r2b, r2c, r2f, r2l⟩ := hV4.r3.mx
      obtain ⟨ua, ub, uc, uf, ul⟩ := hm1.mx
      obtain ⟨va, vb, vc, vf, vl⟩ := hm2.mx
      obtain ⟨za, zb, zc, zf, zl⟩ := hm3.mx
      have hvr1 := B3.of hV4.r1
      have hvr2 := B3.of hV4.r2
      have hvr3 := B3.of hV4.r3
      have hbw := hV4.b
      have HAO := Lib.hid (HOA.out)
      have ne0 : ¬ w2.heap.size = w.heap.size + 1 := by omega
      have nf0 : ¬ w.heap.size + 1 = w2.heap.size := by omega
      have ne1 : ¬ w2.heap.size = w.heap.size + 1 + 1 := by omega
      have nf1 : ¬ w.heap.size + 1 + 1 = w2.heap.size := by omega
      have ne2 : ¬ w2.heap.size = w.heap.size + 1 + 1 + 1 := by omega
      have nf2 : ¬ w.heap.size + 1 + 1 + 1 = w2.heap.size := by omega
      have ne3 : ¬ w3.heap.size = w.heap.size + 1 := by omega
      have nf3 : ¬ w.heap.size + 1 = w3.heap.size := by omega
      have ne4 : ¬ w3.heap.size = w.heap.size + 1 + 1 := by omega
      have nf4 : ¬ w.heap.size + 1 + 1 = w3.heap.size := by omega
      have ne5 : ¬ w3.heap.size = w.heap.size + 1 + 1 + 1 := by omega
      have nf5 : ¬ w.heap.size + 1 + 1 + 1 = w3.heap.size := by omega
      have ne6 : ¬ w4.heap.size = w.heap.size + 1 := by omega
      have nf6 : ¬ w.heap.size + 1 = w4.heap.size := by omega
      have ne7 : ¬ w4.heap.size = w.heap.size + 1 + 1 := by omega
      have nf7 : ¬ w.heap.size + 1 + 1 = w4.heap.size := by omega
      have ne8 : ¬ w4.heap.size = w.heap.size + 1 + 1 + 1 := by omega
      have nf8 : ¬ w.heap.size + 1 + 1 + 1 = w4.heap.size := by omega
      go_wp2_with fail
      ((refine wp_region_held_drew (S := (fun w' => w'.cell? ⟨w2.heap.size, 0, none⟩ = some (.int .i64 R) ∧ w'.cell? ⟨w2.heap.size, 1, none⟩ = some (.int .i64 C) ∧ w'.cell? ⟨w2.heap.size, 2, none⟩ = some (.slice Aa na capa) ∧ w'.cell? ⟨w3.heap.size, 0, none⟩ = some (.int .i64 R) ∧ w'.cell? ⟨w3.heap.size, 1, none⟩ = some (.int .i64 R) ∧ w'.cell? ⟨w3.heap.size, 2, none⟩ = some (.slice A2 n2 cap2) ∧ w'.cell? ⟨w4.heap.size, 0, none⟩ = some (.int .i64 C) ∧ w'.cell? ⟨w4.heap.size, 1, none⟩ = some (.int .i64 C) ∧ w'.cell? ⟨w4.heap.size, 2, none⟩ = some (.slice A3 n3 cap3))) (by kernel_rfl) ?_ (fun hHeld => ?_)); ((focus ((try dsimp only); (go_keep)))); ((refine tk_ (i := 0) (v := ?_) (y := Or.inl ⟨by rfl, ?_⟩) (h := ?_); rotate_left; (focus (((intro w hSw; (try dsimp only at hSw); go_simp) <;> (try with_reducible rfl)); done)); (try simp only [Act.put, p1_, p2_, p3_]))); ((refine tk_ (i := 1) (v := ?_) (y := Or.inl ⟨by rfl, ?_⟩) (h := ?_); rotate_left; (focus (((intro w hSw; (try dsimp only at hSw); go_simp) <;> (try with_reducible rfl)); done)); (try simp only [Act.put, p1_, p2_, p3_]))); ((refine tk_ (i := 2) (v := ?_) (y := Or.inl ⟨by rfl, ?_⟩) (h := ?_); rotate_left; (focus (((intro w hSw; (try dsimp only at hSw); go_simp) <;> (try with_reducible rfl)); done)); (try simp only [Act.put, p1_, p2_, p3_]))); ((refine wpAnyH_ready (rs := [3]) (by kernel_rfl) (by simp) ?_; refine AllReadyH.cons (by simp only [e1_, e2_, e3_]; try rfl) (fun K hK => ?_) AllReadyH.nil; go_simp; (try go_wp2_with fail); refine hK.out _ _ ?_ (fun hHeld => ?_); (focus ((try dsimp only); (go_keep))); clear hK K; (try simp only [Act.put, p1_, p2_, p3_]))); ((refine wpAnyH_ready (rs := [4]) (by kernel_rfl) (by simp) ?_; refine AllReadyH.cons (by simp only [e1_, e2_, e3_]; try rfl) (fun K hK => ?_) AllReadyH.nil; go_simp; (try go_wp2_with fail); refine hK.out _ _ ?_ (fun hHeld => ?_); (focus ((try dsimp only); (go_keep))); clear hK K; (try simp only [Act.put, p1_, p2_, p3_]))); ((refine wpAnyH_ready (rs := [5]) (by kernel_rfl) (by simp) ?_; refine AllReadyH.cons (by simp only [e1_, e2_, e3_]; try rfl) (fun K hK => ?_) AllReadyH.nil; go_simp; (try go_wp2_with fail); refine hK.out _ _ ?_ (fun hHeld => ?_); (focus ((try dsimp only); (go_keep))); clear hK K; (try simp only [Act.put, p1_, p2_, p3_]))); ((refine tk_ (i := 6) (v := ?_) (y := Or.inl ⟨by rfl, ?_⟩) (h := ?_); rotate_left; (focus (((intro w hSw; (try dsimp only at hSw); go_simp) <;> (try with_reducible rfl)); done)); (try simp only [Act.put, p1_, p2_, p3_]))); (refine wpAnyH_done (by kernel_rfl) ?_ _))
      go_wp2_with fail
      refine ret_M3 (r := R) (c := C) (A := Aa) (n := na) (cap := capa) (r' := R) (c' := R) (A' := A2) (n' := n2) (cap' := cap2) (r'' := C) (c'' := C) (A'' := A3) (n'' := n3) (cap'' := cap3) Try.results57 rfl rfl rfl (Kb hvr1) (Kb hvr2) (Kb hvr3) rfl ?_
      exact M3R.some_ HXS.out (OR.mono (B := B0) (Ko k1) (by omega)) (OR.mono (B := B0) (Ko k2) (by omega)) (OR.mono (B := B0) (Ko k3) (by omega)) HAP.out HAP2.out HAP3.out Kw
end Go.Proofs.Ytacjonkehcamgaa

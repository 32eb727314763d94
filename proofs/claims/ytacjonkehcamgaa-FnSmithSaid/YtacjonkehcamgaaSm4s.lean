/-
  DERIVED. SmithForm of the program.
-/
import Derived.Test.YtacjonkehcamgaaSm3s
import Derived.Test.YtacjonkehcamgaaU3
namespace Go.Proofs.Ytacjonkehcamgaa
open Go.RowKit
set_option linter.unusedVariables false
set_option linter.unusedSimpArgs false
/-- A number beyond the limit came up. -/
def BadX (X : Option SS) (w : World) (B b R C : Nat) : Prop := X = none ∧ ∃ f g h, WK w B b R C f g h true
theorem sfGo_bad (R C m t : Nat) : sfGo R C m t none = none := rfl
theorem sfGo_some (R C m t : Nat) (s : SS) : sfGo R C m t (some s) = sfOut R C m (t + 1) (sfN t s) := rfl
theorem sfN_neg {t : Nat} {s : SS} (h : s.f t t < 0) : sfN t s = s.wr (s.row.neg t) := by unfold sfN; rw [if_pos h]
theorem sfN_pos {t : Nat} {s : SS} (h : ¬ s.f t t < 0) : sfN t s = s := by unfold sfN; rw [if_neg h]
theorem WK.asS {w : World} {B b R C : Nat} {f g f' g' h : Fn2} {bd : Bool} (k : WK w B b R C f g h bd) (hf : tb R C f = tb R C f') (hg : tb R R g = tb R R g') : WK w B b R C f' g' h bd := by
  obtain ⟨A, n, cap, A2, n2, cap2, A3, n3, cap3, k⟩ := k
  exact ⟨A, n, cap, A2, n2, cap2, A3, n3, cap3, k.blk, k.hb, k.m.as hf, k.l.as hg, k.r, k.ml, k.mr, k.lr, k.mb, k.lb, k.rb⟩
set_option maxRecDepth 100000 in
set_option maxHeartbeats 8000000 in
theorem impl_SmithForm (r c : Int) (A : Option Addr) (n cap : Nat) (xs : List Int) (w : World) {B : Nat} (h : RI w B A n xs) (hB : B ≤ w.heap.size) (hn : n ≤ 1048576) :
    Calls Try.prog 56 #[.agg #[.int .i64 r, .int .i64 c, .slice A n cap]] w (M3R (sfDO r c (sfX r c xs)) (sfUO r (sfX r c xs)) (sfVO c (sfX r c xs)) (sfX r c xs).isSome w) := by
  have hlen := h.len
  have H2 := Lib.hid (h.more hB)
  clear h
  rcases hm : isMat r c xs with _ | _
  · have HM := Lib.hid hm
    have HX := Lib.hid (sfX_no hm)
    clear hm
    generalize sfX r c xs = X at *
    go_enter Try.func56, Try.ntmps56
    go_wp2_with fail
    refine (impl_IsMatrix r c A n cap xs _ (C := w.heap.size) (Kr H2.out) Ks hn).mono ?_
    rw [HM.out]
    rintro e w1 ⟨rfl, hb1⟩
    have hV : HV3 w w1 r c A n cap := ⟨Ka, Ka, Ka, Ka, Kw⟩
    obtain ⟨r0a, r0b, r0c, r0f, r0l⟩ := hV.r1.mx
    obtain ⟨r1a, r1b, r1c, r1f, r1l⟩ := hV.r2.mx
    obtain ⟨r2a, r2b, r2c, r2f, r2l⟩ := hV.r3.mx
    obtain ⟨ma, mb, mc, mf, ml⟩ := hV.m.mx
    have hvr1 := hV.r1
    have hvr2 := hV.r2
    have hvr3 := hV.r3
    have hbw := hV.b
    go_wp2_with fail
    refine ret_M3 (r := 0) (c := 0) (A := none) (n := 0) (cap := 0) (r' := 0) (c' := 0) (A' := none) (n' := 0) (cap' := 0) (r'' := 0) (c'' := 0) (A'' := none) (n'' := 0) (cap'' := 0) Try.results56 rfl rfl rfl (Kb hvr1) (Kb hvr2) (Kb hvr3) rfl ?_
    exact M3R.none_ HX.out Kw
  · have M := isMat_iff.1 hm
    obtain ⟨R, rfl⟩ := nat_of M.r0
    obtain ⟨C, rfl⟩ := nat_of M.c0
    have hR : R ≤ 24 := by have := M.r1; omega
    have hC : C ≤ 24 := by have := M.c1; omega
    have hlx : xs.length = R * C := by have := M.len; rw [← Int.natCast_mul] at this; omega
    have hs0 := start_gd (R := R) (C := C) M.num
    have HG0 : Hid (SGD R C ⟨fun i j => cel xs C i j, idF, idF⟩) := Lib.hid ⟨⟨hs0.ok.f, hs0.ok.g, idF_ok C C⟩, ⟨hs0.nb.f, hs0.nb.g, idF_nb⟩⟩
    have HX := Lib.hid (sfX_yes hm)
    have HT := Lib.hid (tb_of hlx)
    have HM := Lib.hid hm
    clear M hm hlx hs0
    generalize sfX (R : Int) (C : Int) xs = X at *
    go_enter Try.func56, Try.ntmps56
    go_wp2_with fail
    refine (impl_IsMatrix R C A n cap xs _ (C := w.heap.size) (Kr H2.out) Ks hn).mono ?_
    rw [HM.out]
    rintro e w1 ⟨rfl, hb1⟩
    have hV : HV3 w w1 R C A n cap := ⟨Ka, Ka, Ka, Ka, Kw⟩
    have hri : RI w1 w.heap.size A n xs := Kr H2.out
    clear hb1
    obtain ⟨ma, mb, mc, mf, ml⟩ := hV.m.mx
    go_wp2_with fail
    refine (impl_newWork R C A n cap _ _ (B := w.heap.size) (HT.out ▸ hri) (Nat.le_of_lt ml) hR hC).mono ?_
    rintro e w2 ⟨b, rfl, hK, hb2⟩
    have hlow := hV.lt
    have hV2 : HV3 w w2 R C A n cap := hV.below hb2 hlow
    have hK2 := Lib.hid hK
    generalize hB0 : w1.heap.size = B0 at *
    have hlow : w.heap.size + 1 + 1 + 1 + 1 ≤ B0 := hlow
    clear hB0 hb2 hV hri ma mb mc mf ml hK
    go_upto_block 0 with fail
    go_cut [] from 11 (fun wc => HV3 w wc R C A n cap ∧ ((∃ s, X = some s ∧ WK wc B0 b R C s.f s.g s.h false) ∨ BadX X wc B0 b R C))
    case first => as_aux_lemma =>
      go_wp2_with fail
      go_loopg [7] (R + C + 2) (fun k vt wr => ∃ (t : Nat), vt = .int .i64 t ∧ t ≤ min R C ∧ min R C - t < k ∧ HV3 w wr R C A n cap ∧ ((∃ s, SGD R C s ∧ sfOut R C (min R C - t) t s = X ∧ WK wr B0 b R C s.f s.g s.h false) ∨ BadX X wr B0 b R C))
      case atStart => exact ⟨0, rfl, Nat.zero_le _, by omega, hV2, .inl ⟨_, HG0.out, HX.out.symm, hK2.out⟩⟩
      case round => as_aux_lemma =>
        clear hV2 hK2 HG0 HX
        obtain ⟨t, rfl, htm, hk, hV, hrel⟩ := hrel
        rcases hrel with ⟨s, hG0, hout, hK⟩ | ⟨hXn, f, g, h, hK⟩
        · obtain ⟨A1, n1, cap1, A2, n2, cap2, A3, n3, cap3, hW⟩ := hK
          have HG := Lib.hid hG0
          clear hG0
          obtain ⟨ma, mb, mc, mf, ml⟩ := hV.m.mx; obtain ⟨c0, c1, c2, c3, c4, c5, c6, c7, c8, c9, cf, cl⟩ := hW.cells; have hvl := hV.lt
          have HOUT := Lib.hid hout
          clear hout
          go_upto_region 5 with fail
          go_cut [32] from 19 to 73 (fun v wc => ∃ tb : Bool, v = .bool tb ∧ (tb = decide (t < min R C)) ∧ HV3 w wc R C A n cap ∧ WK wc B0 b R C s.f s.g s.h false)
          case first =>
            rcases Nat.lt_or_ge C R with hRC | hRC
            · by_cases htc : t < C
              · go_wp2_with fail
                go_meet
                case rel => exact ⟨_, rfl, (by first | (rw [decide_eq_true (show t < min R C by omega)]; done) | (rw [decide_eq_true (show t < min R C by omega)]; rfl)), by (with_reducible (repeat (first | exact hV | refine HV3.b_ ?_ | refine HV3.drew ?_ | refine HV3.drewN ?_ _))), by ((with_reducible refine WB.wk (A := A1) (n := n1) (cap := cap1) (A2 := A2) (n2 := n2) (cap2 := cap2) (A3 := A3) (n3 := n3) (cap3 := cap3) ?_); (with_reducible (repeat (first | exact hW | refine WB.b_ ?_ | refine WB.drew ?_ | refine WB.drewN ?_ _ | refine WB.alloc ?_ _))))⟩
              · go_wp2_with fail
                go_meet
                case rel => exact ⟨_, rfl, (by first | (rw [decide_eq_false (show ¬ t < min R C by omega)]; done) | (rw [decide_eq_false (show ¬ t < min R C by omega)]; rfl)), by (with_reducible (repeat (first | exact hV | refine HV3.b_ ?_ | refine HV3.drew ?_ | refine HV3.drewN ?_ _))), by ((with_reducible refine WB.wk (A := A1) (n := n1) (cap := cap1) (A2 := A2) (n2 := n2) (cap2 := cap2) (A3 := A3) (n3 := n3) (cap3 := cap3) ?_); (with_reducible (repeat (first | exact hW | refine WB.b_ ?_ | refine WB.drew ?_ | refine WB.drewN ?_ _ | refine WB.alloc ?_ _))))⟩
            · by_cases htc : t < R
              · go_wp2_with fail
                go_meet
                case rel => exact ⟨_, rfl, (by first | (rw [decide_eq_true (show t < min R C by omega)]; done) | (rw [decide_eq_true (show t < min R C by omega)]; rfl)), by (with_reducible (repeat (first | exact hV | refine HV3.b_ ?_ | refine HV3.drew ?_ | refine HV3.drewN ?_ _))), by ((with_reducible refine WB.wk (A := A1) (n := n1) (cap := cap1) (A2 := A2) (n2 := n2) (cap2 := cap2) (A3 := A3) (n3 := n3) (cap3 := cap3) ?_); (with_reducible (repeat (first | exact hW | refine WB.b_ ?_ | refine WB.drew ?_ | refine WB.drewN ?_ _ | refine WB.alloc ?_ _))))⟩
              · go_wp2_with fail
                go_meet
                case rel => exact ⟨_, rfl, (by first | (rw [decide_eq_false (show ¬ t < min R C by omega)]; done) | (rw [decide_eq_false (show ¬ t < min R C by omega)]; rfl)), by (with_reducible (repeat (first | exact hV | refine HV3.b_ ?_ | refine HV3.drew ?_ | refine HV3.drewN ?_ _))), by ((with_reducible refine WB.wk (A := A1) (n := n1) (cap := cap1) (A2 := A2) (n2 := n2) (cap2 := cap2) (A3 := A3) (n3 := n3) (cap3 := cap3) ?_); (with_reducible (repeat (first | exact hW | refine WB.b_ ?_ | refine WB.drew ?_ | refine WB.drewN ?_ _ | refine WB.alloc ?_ _))))⟩
          clear ma mb mc mf ml c0 c1 c2 c3 c4 c5 c6 c7 c8 c9 cf cl hvl
          clear hV hW
          obtain ⟨tst, rfl, htst, hV, hK⟩ := hcut
          obtain ⟨A1, n1, cap1, A2, n2, cap2, A3, n3, cap3, hW⟩ := hK
          obtain ⟨ma, mb, mc, mf, ml⟩ := hV.m.mx; obtain ⟨c0, c1, c2, c3, c4, c5, c6, c7, c8, c9, cf, cl⟩ := hW.cells; have hvl := hV.lt
          have hout := HOUT.out
          clear HOUT
          by_cases htl : t < min R C
          · rw [decide_eq_true htl] at htst
            subst htst
            obtain ⟨htR, htC⟩ : t < R ∧ t < C := by omega
            have hm1 : min R C - t = min R C - (t + 1) + 1 := by omega
            rw [hm1] at hout
            have hcall : Hid (∀ w', WK w' B0 b R C s.f s.g s.h false → Calls Try.prog 155 #[.pointer (some ⟨b, 0, none⟩), .int .i64 t] w' (P2V (ls2 R C s.f t) w')) := Lib.hid (fun w' hk => impl_leastFrom B0 b R C t s.f s.g s.h false w' hk (Nat.le_of_lt htR) (Nat.le_of_lt htC) HG.out.ok.f hC hR)
            rcases ls2_cases R C s.f t with ⟨e, _⟩ | ⟨p, q, e, ⟨a1, a2, a3, a4⟩, h3, h4, h5⟩
            · have HXS : Hid (X = some s) := Lib.hid (by rw [← hout, sfOut_stop (by rw [e]; decide)])
              rw [e] at hcall
              clear e hout hm1
              go_wp2_with fail
              refine (hcall.out _ (by ((with_reducible refine WB.wk (A := A1) (n := n1) (cap := cap1) (A2 := A2) (n2 := n2) (cap2 := cap2) (A3 := A3) (n3 := n3) (cap3 := cap3) ?_); (with_reducible (repeat (first | exact hW | refine WB.b_ ?_ | refine WB.drew ?_ | refine WB.drewN ?_ _ | refine WB.alloc ?_ _)))))).mono ?_
              rintro e w1 ⟨rfl, hb1⟩
              (have hV_1 : HV3 w w1 R C A n cap := (by (with_reducible (repeat (first | exact hV | refine HV3.b_ ?_ | refine HV3.drew ?_ | refine HV3.drewN ?_ _))))); (have hW_1 : WB w1 B0 b R C s.f s.g s.h false A1 n1 cap1 A2 n2 cap2 A3 n3 cap3 := (by (with_reducible (repeat (first | exact hW | refine WB.b_ ?_ | refine WB.drew ?_ | refine WB.drewN ?_ _ | refine WB.alloc ?_ _))))); clear hV hW hb1; clear ma mb mc mf ml c0 c1 c2 c3 c4 c5 c6 c7 c8 c9 cf cl hvl; (have hV := hV_1); (have hW := hW_1); clear hV_1 hW_1; obtain ⟨ma, mb, mc, mf, ml⟩ := hV.m.mx; obtain ⟨c0, c1, c2, c3, c4, c5, c6, c7, c8, c9, cf, cl⟩ := hW.cells; have hvl := hV.lt
              clear hcall
              go_wp2_with fail
              go_meet
              case rel => exact ⟨by (with_reducible (repeat (first | exact hV | refine HV3.b_ ?_ | refine HV3.drew ?_ | refine HV3.drewN ?_ _))), .inl ⟨s, HXS.out, by ((with_reducible refine WB.wk (A := A1) (n := n1) (cap := cap1) (A2 := A2) (n2 := n2) (cap2 := cap2) (A3 := A3) (n3 := n3) (cap3 := cap3) ?_); (with_reducible (repeat (first | exact hW | refine WB.b_ ?_ | refine WB.drew ?_ | refine WB.drewN ?_ _ | refine WB.alloc ?_ _))))⟩⟩
            · have hnn : ¬ (ls2 R C s.f t).1 < 0 := by rw [e]; dsimp only; omega
              have HGO : Hid (sfGo R C (min R C - (t + 1)) t (sfIn R C t s) = X) := Lib.hid (by rw [← hout, sfOut_go hnn])
              have HNN := Lib.hid hnn
              rw [e] at hcall
              clear e hout hm1 hnn h3 h4 h5
              go_wp2_with fail
              refine (hcall.out _ (by ((with_reducible refine WB.wk (A := A1) (n := n1) (cap := cap1) (A2 := A2) (n2 := n2) (cap2 := cap2) (A3 := A3) (n3 := n3) (cap3 := cap3) ?_); (with_reducible (repeat (first | exact hW | refine WB.b_ ?_ | refine WB.drew ?_ | refine WB.drewN ?_ _ | refine WB.alloc ?_ _)))))).mono ?_
              rintro e w1 ⟨rfl, hb1⟩
              (have hV_1 : HV3 w w1 R C A n cap := (by (with_reducible (repeat (first | exact hV | refine HV3.b_ ?_ | refine HV3.drew ?_ | refine HV3.drewN ?_ _))))); (have hW_1 : WB w1 B0 b R C s.f s.g s.h false A1 n1 cap1 A2 n2 cap2 A3 n3 cap3 := (by (with_reducible (repeat (first | exact hW | refine WB.b_ ?_ | refine WB.drew ?_ | refine WB.drewN ?_ _ | refine WB.alloc ?_ _))))); clear hV hW hb1; clear ma mb mc mf ml c0 c1 c2 c3 c4 c5 c6 c7 c8 c9 cf cl hvl; (have hV := hV_1); (have hW := hW_1); clear hV_1 hW_1; obtain ⟨ma, mb, mc, mf, ml⟩ := hV.m.mx; obtain ⟨c0, c1, c2, c3, c4, c5, c6, c7, c8, c9, cf, cl⟩ := hW.cells; have hvl := hV.lt
              clear hcall
              go_upto_block 2 with fail
              go_cut [] from 19 to 73 (fun wc => HV3 w wc R C A n cap ∧ ((∃ s, SGD R C s ∧ sfOut R C (min R C - (t + 1)) (t + 1) (sfN t s) = X ∧ WK wc B0 b R C s.f s.g s.h false) ∨ BadX X wc B0 b R C))
              case first => as_aux_lemma =>
                go_wp2_with fail
                go_loopg [] (sfMs R C t s + 2) (fun k wr => HV3 w wr R C A n cap ∧ ((∃ s, SGD R C s ∧ ¬ (ls2 R C s.f t).1 < 0 ∧ sfGo R C (min R C - (t + 1)) t (sfIn R C t s) = X ∧ sfMs R C t s < k ∧ WK wr B0 b R C s.f s.g s.h false) ∨ BadX X wr B0 b R C))
                case atStart => exact ⟨by (with_reducible (repeat (first | exact hV | refine HV3.b_ ?_ | refine HV3.drew ?_ | refine HV3.drewN ?_ _))), .inl ⟨s, HG.out, (by have := HNN.out; omega), HGO.out, by omega, by ((with_reducible refine WB.wk (A := A1) (n := n1) (cap := cap1) (A2 := A2) (n2 := n2) (cap2 := cap2) (A3 := A3) (n3 := n3) (cap3 := cap3) ?_); (with_reducible (repeat (first | exact hW | refine WB.b_ ?_ | refine WB.drew ?_ | refine WB.drewN ?_ _ | refine WB.alloc ?_ _))))⟩⟩
                case round => as_aux_lemma =>
                  clear ma mb mc mf ml c0 c1 c2 c3 c4 c5 c6 c7 c8 c9 cf cl hvl
                  clear hV hW HG HNN HGO
                  obtain ⟨hV, hrel⟩ := hrel
                  rcases hrel with ⟨s, hG0, hnn, hgo, hk2, hK⟩ | ⟨hXn, f, g, h, hK⟩
                  · obtain ⟨A1, n1, cap1, A2, n2, cap2, A3, n3, cap3, hW⟩ := hK
                    rcases ls2_cases R C s.f t with ⟨e, _⟩ | ⟨p, q, e, ⟨a1, a2, a3, a4⟩, h3, h4, h5⟩
                    · exact absurd (by rw [e]; decide) hnn
                    · have hcall : Hid (∀ w', WK w' B0 b R C s.f s.g s.h false → Calls Try.prog 156 #[.pointer (some ⟨b, 0, none⟩), .int .i64 t] w' (RND B0 b R C t (rnd R C t s) w')) := Lib.hid (fun w' hk => impl_round B0 b R C t p q s w' hk htR htC hG0 e a2 a4 h3 hC hR)
                      have HYES : Hid ((rnd R C t s).1.OK R C → (rnd R C t s).2 = true → SGD R C (rnd R C t s).1 ∧ sfOut R C (min R C - (t + 1)) (t + 1) (sfN t (rnd R C t s).1) = X) := Lib.hid (fun hk hd => by
                        have hg := rnd_gd hG0 e a2 a4 htR htC hk
                        exact ⟨hg, by rw [← hgo, sfIn_done ((SS.ok_iff hg.nb).2 hk) hd]; rfl⟩)
                      have HNXT : Hid ((rnd R C t s).1.OK R C → (rnd R C t s).2 = false → SGD R C (rnd R C t s).1 ∧ ¬ (ls2 R C (rnd R C t s).1.f t).1 < 0 ∧ sfGo R C (min R C - (t + 1)) t (sfIn R C t (rnd R C t s).1) = X ∧ sfMs R C t (rnd R C t s).1 < gk - 1) := Lib.hid (fun hk hd => by
                        have hg := rnd_gd hG0 e a2 a4 htR htC hk
                        obtain ⟨k1, k2⟩ := rnd_lt hG0 htR htC e a2 a4 h3 (h5 htR htC) hk hd
                        obtain ⟨p2, q2, e2, _⟩ := ls2_some (R := R) (C := C) (Nat.le_refl t) htR (Nat.le_refl t) htC k2
                        exact ⟨hg, by rw [e2]; dsimp only; omega, by rw [← hgo, sfIn_next ((SS.ok_iff hg.nb).2 hk) hd k1], by omega⟩)
                      have HNO : Hid (¬ (rnd R C t s).1.OK R C → X = none) := Lib.hid (fun hk => by
                        have hA : SGD R C (sfA R C t s) := by
                          unfold sfA
                          rw [e]
                          exact (hG0.a1 a2 htR).a2 a4 htC
                        have hnb : (rnd R C t s).1.NBS := sfD_nb (sfC_nb (sfB_nb hA.nb))
                        rw [← hgo, sfIn_bad (SS.ok_no hnb hk)]; rfl)
                      have hkp : 0 < gk := by omega
                      clear hG0 hnn hgo hk2 e a1 a2 a3 a4 h3 h4 h5
                      generalize rnd R C t s = Y at *
                      obtain ⟨ma, mb, mc, mf, ml⟩ := hV.m.mx; obtain ⟨c0, c1, c2, c3, c4, c5, c6, c7, c8, c9, cf, cl⟩ := hW.cells; have hvl := hV.lt
                      go_wp2_with fail
                      refine (hcall.out _ (by ((with_reducible refine WB.wk (A := A1) (n := n1) (cap := cap1) (A2 := A2) (n2 := n2) (cap2 := cap2) (A3 := A3) (n3 := n3) (cap3 := cap3) ?_); (with_reducible (repeat (first | exact hW | refine WB.b_ ?_ | refine WB.drew ?_ | refine WB.drewN ?_ _ | refine WB.alloc ?_ _)))))).mono ?_
                      rintro e w1 ⟨hb1, hres⟩
                      (have hV_1 : HV3 w w1 R C A n cap := (by (with_reducible (repeat (first | exact hV | refine HV3.b_ ?_ | refine HV3.drew ?_ | refine HV3.drewN ?_ _))))); clear hV hW; clear ma mb mc mf ml c0 c1 c2 c3 c4 c5 c6 c7 c8 c9 cf cl hvl; (have hV := hV_1); clear hV_1
                      clear hcall
                      rcases hres with ⟨hok, rfl, hK⟩ | ⟨hno, v, f, g, h, rfl, hK⟩
                      · rcases hy : Y.2 with _ | _
                        · obtain ⟨k1, k2, k3, k4⟩ := HNXT.out hok hy
                          have K1 := Lib.hid k1
                          have K2 := Lib.hid k2
                          have K3 := Lib.hid k3
                          have K4 := Lib.hid k4
                          clear HYES HNXT HNO hok hy k1 k2 k3 k4
                          obtain ⟨A1, n1, cap1, A2, n2, cap2, A3, n3, cap3, hW⟩ := hK
                          obtain ⟨ma, mb, mc, mf, ml⟩ := hV.m.mx; obtain ⟨c0, c1, c2, c3, c4, c5, c6, c7, c8, c9, cf, cl⟩ := hW.cells; have hvl := hV.lt
                          go_wp2_with fail
                          go_roundg (gk - 1)
                          case measure => omega
                          case rel => exact ⟨by (with_reducible (repeat (first | exact hV | refine HV3.b_ ?_ | refine HV3.drew ?_ | refine HV3.drewN ?_ _))), .inl ⟨Y.1, K1.out, (by have := K2.out; omega), K3.out, K4.out, by ((with_reducible refine WB.wk (A := A1) (n := n1) (cap := cap1) (A2 := A2) (n2 := n2) (cap2 := cap2) (A3 := A3) (n3 := n3) (cap3 := cap3) ?_); (with_reducible (repeat (first | exact hW | refine WB.b_ ?_ | refine WB.drew ?_ | refine WB.drewN ?_ _ | refine WB.alloc ?_ _))))⟩⟩
                        · obtain ⟨k1, k2⟩ := HYES.out hok hy
                          have K1 := Lib.hid k1
                          have K2 := Lib.hid k2
                          clear HYES HNXT HNO hok hy k1 k2
                          obtain ⟨A1, n1, cap1, A2, n2, cap2, A3, n3, cap3, hW⟩ := hK
                          obtain ⟨ma, mb, mc, mf, ml⟩ := hV.m.mx; obtain ⟨c0, c1, c2, c3, c4, c5, c6, c7, c8, c9, cf, cl⟩ := hW.cells; have hvl := hV.lt
                          go_wp2_with fail
                          go_meet
                          case rel => exact ⟨by (with_reducible (repeat (first | exact hV | refine HV3.b_ ?_ | refine HV3.drew ?_ | refine HV3.drewN ?_ _))), .inl ⟨Y.1, K1.out, K2.out, by ((with_reducible refine WB.wk (A := A1) (n := n1) (cap := cap1) (A2 := A2) (n2 := n2) (cap2 := cap2) (A3 := A3) (n3 := n3) (cap3 := cap3) ?_); (with_reducible (repeat (first | exact hW | refine WB.b_ ?_ | refine WB.drew ?_ | refine WB.drewN ?_ _ | refine WB.alloc ?_ _))))⟩⟩
                      · have HXN := Lib.hid (HNO.out hno)
                        clear HYES HNXT HNO hno
                        obtain ⟨A1, n1, cap1, A2, n2, cap2, A3, n3, cap3, hW⟩ := hK
                        obtain ⟨ma, mb, mc, mf, ml⟩ := hV.m.mx; obtain ⟨c0, c1, c2, c3, c4, c5, c6, c7, c8, c9, cf, cl⟩ := hW.cells; have hvl := hV.lt
                        rcases v with _ | _
                        · go_wp2_with fail
                          go_meet
                          case rel => exact ⟨by (with_reducible (repeat (first | exact hV | refine HV3.b_ ?_ | refine HV3.drew ?_ | refine HV3.drewN ?_ _))), .inr ⟨HXN.out, f, g, h, by ((with_reducible refine WB.wk (A := A1) (n := n1) (cap := cap1) (A2 := A2) (n2 := n2) (cap2 := cap2) (A3 := A3) (n3 := n3) (cap3 := cap3) ?_); (with_reducible (repeat (first | exact hW | refine WB.b_ ?_ | refine WB.drew ?_ | refine WB.drewN ?_ _ | refine WB.alloc ?_ _))))⟩⟩
                        · go_wp2_with fail
                          go_roundg (gk - 1)
                          case measure => omega
                          case rel => exact ⟨by (with_reducible (repeat (first | exact hV | refine HV3.b_ ?_ | refine HV3.drew ?_ | refine HV3.drewN ?_ _))), .inr ⟨HXN.out, f, g, h, by ((with_reducible refine WB.wk (A := A1) (n := n1) (cap := cap1) (A2 := A2) (n2 := n2) (cap2 := cap2) (A3 := A3) (n3 := n3) (cap3 := cap3) ?_); (with_reducible (repeat (first | exact hW | refine WB.b_ ?_ | refine WB.drew ?_ | refine WB.drewN ?_ _ | refine WB.alloc ?_ _))))⟩⟩
                  · have HXn := Lib.hid hXn
                    clear hXn
                    obtain ⟨A1, n1, cap1, A2, n2, cap2, A3, n3, cap3, hW⟩ := hK
                    obtain ⟨ma, mb, mc, mf, ml⟩ := hV.m.mx; obtain ⟨c0, c1, c2, c3, c4, c5, c6, c7, c8, c9, cf, cl⟩ := hW.cells; have hvl := hV.lt
                    go_wp2_with fail
                    go_meet
                    case rel => exact ⟨by (with_reducible (repeat (first | exact hV | refine HV3.b_ ?_ | refine HV3.drew ?_ | refine HV3.drewN ?_ _))), .inr ⟨HXn.out, f, g, h, by ((with_reducible refine WB.wk (A := A1) (n := n1) (cap := cap1) (A2 := A2) (n2 := n2) (cap2 := cap2) (A3 := A3) (n3 := n3) (cap3 := cap3) ?_); (with_reducible (repeat (first | exact hW | refine WB.b_ ?_ | refine WB.drew ?_ | refine WB.drewN ?_ _ | refine WB.alloc ?_ _))))⟩⟩
              case rest => as_aux_lemma =>
                clear ma mb mc mf ml c0 c1 c2 c3 c4 c5 c6 c7 c8 c9 cf cl hvl
                clear hV hW HG HNN HGO
                obtain ⟨hV, hrel⟩ := hcut
                rcases hrel with ⟨s, hG0, hout, hK⟩ | ⟨hXn, f, g, h, hK⟩
                · obtain ⟨A1, n1, cap1, A2, n2, cap2, A3, n3, cap3, hW⟩ := hK
                  have HG := Lib.hid hG0
                  have hzn := hG0.ok.f t t htR htC
                  clear hG0
                  obtain ⟨ma, mb, mc, mf, ml⟩ := hV.m.mx; obtain ⟨c0, c1, c2, c3, c4, c5, c6, c7, c8, c9, cf, cl⟩ := hW.cells; have hvl := hV.lt
                  by_cases hz0 : s.f t t < 0
                  · rw [sfN_neg hz0] at hout
                    have HO := Lib.hid hout
                    have HG2 : Hid (SGD R C (s.wr (s.row.neg t))) := Lib.hid (HG.out.wr (HG.out.row.neg htR))
                    clear hout
                    generalize hz : s.f t t = z at *
                    have HZ := Lib.hid hz
                    clear hz
                    go_wp2_with fail
                    refine (impl_at_tb R C t t A1 n1 cap1 s.f z HZ.out _ (B := B0) (by have hm := hW.m; (with_reducible (repeat (first | exact hm | refine OR.drew ?_ | refine OR.drewN ?_ _ | refine OR.alloc ?_ _ | refine OR.b_ ?_ | refine OR.l_ ?_)))) (by omega) (by omega) (by omega) (by omega)).mono ?_
                    rintro e w1 ⟨rfl, hb1⟩
                    (have hV_1 : HV3 w w1 R C A n cap := (by (with_reducible (repeat (first | exact hV | refine HV3.b_ ?_ | refine HV3.drew ?_ | refine HV3.drewN ?_ _))))); (have hW_1 : WB w1 B0 b R C s.f s.g s.h false A1 n1 cap1 A2 n2 cap2 A3 n3 cap3 := (by (with_reducible (repeat (first | exact hW | refine WB.b_ ?_ | refine WB.drew ?_ | refine WB.drewN ?_ _ | refine WB.alloc ?_ _))))); clear hV hW hb1; clear ma mb mc mf ml c0 c1 c2 c3 c4 c5 c6 c7 c8 c9 cf cl hvl; (have hV := hV_1); (have hW := hW_1); clear hV_1 hW_1; obtain ⟨ma, mb, mc, mf, ml⟩ := hV.m.mx; obtain ⟨c0, c1, c2, c3, c4, c5, c6, c7, c8, c9, cf, cl⟩ := hW.cells; have hvl := hV.lt
                    go_wp2_with fail
                    refine (impl_rows_neg B0 b R C t s.f s.g s.h _ (by ((with_reducible refine WB.wk (A := A1) (n := n1) (cap := cap1) (A2 := A2) (n2 := n2) (cap2 := cap2) (A3 := A3) (n3 := n3) (cap3 := cap3) ?_); (with_reducible (repeat (first | exact hW | refine WB.b_ ?_ | refine WB.drew ?_ | refine WB.drewN ?_ _ | refine WB.alloc ?_ _))))) htR HG.out.ok.f HG.out.ok.g (by omega) hC hR).mono ?_
                    rintro e w1 ⟨rfl, hb1, hK⟩
                    have hK : WK w1 B0 b R C (opM s.f t) (opM s.g t) s.h false := WK.asS (h := s.h) hK (opM_eq HG.out.ok.f t htR) (opM_eq HG.out.ok.g t htR)
                    (have hV_1 : HV3 w w1 R C A n cap := (by (with_reducible (repeat (first | exact hV | refine HV3.b_ ?_ | refine HV3.drew ?_ | refine HV3.drewN ?_ _))))); clear hV hW; clear ma mb mc mf ml c0 c1 c2 c3 c4 c5 c6 c7 c8 c9 cf cl hvl; (have hV := hV_1); clear hV_1
                    obtain ⟨A1, n1, cap1, A2, n2, cap2, A3, n3, cap3, hW⟩ := hK
                    go_wp2_with fail
                    go_roundg (gk - 1)
                    case measure => omega
                    case rel => exact ⟨t + 1, by go_num, by omega, by omega, by (with_reducible (repeat (first | exact hV | refine HV3.b_ ?_ | refine HV3.drew ?_ | refine HV3.drewN ?_ _))), .inl ⟨s.wr (s.row.neg t), HG2.out, HO.out, by show WK _ B0 b R C (opM s.f t) (opM s.g t) s.h false; ((with_reducible refine WB.wk (A := A1) (n := n1) (cap := cap1) (A2 := A2) (n2 := n2) (cap2 := cap2) (A3 := A3) (n3 := n3) (cap3 := cap3) ?_); (with_reducible (repeat (first | exact hW | refine WB.b_ ?_ | refine WB.drew ?_ | refine WB.drewN ?_ _ | refine WB.alloc ?_ _))))⟩⟩
                  · rw [sfN_pos hz0] at hout
                    have HO := Lib.hid hout
                    clear hout
                    generalize hz : s.f t t = z at *
                    have HZ := Lib.hid hz
                    clear hz
                    go_wp2_with fail
                    refine (impl_at_tb R C t t A1 n1 cap1 s.f z HZ.out _ (B := B0) (by have hm := hW.m; (with_reducible (repeat (first | exact hm | refine OR.drew ?_ | refine OR.drewN ?_ _ | refine OR.alloc ?_ _ | refine OR.b_ ?_ | refine OR.l_ ?_)))) (by omega) (by omega) (by omega) (by omega)).mono ?_
                    rintro e w1 ⟨rfl, hb1⟩
                    (have hV_1 : HV3 w w1 R C A n cap := (by (with_reducible (repeat (first | exact hV | refine HV3.b_ ?_ | refine HV3.drew ?_ | refine HV3.drewN ?_ _))))); (have hW_1 : WB w1 B0 b R C s.f s.g s.h false A1 n1 cap1 A2 n2 cap2 A3 n3 cap3 := (by (with_reducible (repeat (first | exact hW | refine WB.b_ ?_ | refine WB.drew ?_ | refine WB.drewN ?_ _ | refine WB.alloc ?_ _))))); clear hV hW hb1; clear ma mb mc mf ml c0 c1 c2 c3 c4 c5 c6 c7 c8 c9 cf cl hvl; (have hV := hV_1); (have hW := hW_1); clear hV_1 hW_1; obtain ⟨ma, mb, mc, mf, ml⟩ := hV.m.mx; obtain ⟨c0, c1, c2, c3, c4, c5, c6, c7, c8, c9, cf, cl⟩ := hW.cells; have hvl := hV.lt
                    go_wp2_with fail
                    go_roundg (gk - 1)
                    case measure => omega
                    case rel => exact ⟨t + 1, by go_num, by omega, by omega, by (with_reducible (repeat (first | exact hV | refine HV3.b_ ?_ | refine HV3.drew ?_ | refine HV3.drewN ?_ _))), .inl ⟨s, HG.out, HO.out, by ((with_reducible refine WB.wk (A := A1) (n := n1) (cap := cap1) (A2 := A2) (n2 := n2) (cap2 := cap2) (A3 := A3) (n3 := n3) (cap3 := cap3) ?_); (with_reducible (repeat (first | exact hW | refine WB.b_ ?_ | refine WB.drew ?_ | refine WB.drewN ?_ _ | refine WB.alloc ?_ _))))⟩⟩
                · have HXn := Lib.hid hXn
                  clear hXn
                  obtain ⟨A1, n1, cap1, A2, n2, cap2, A3, n3, cap3, hW⟩ := hK
                  obtain ⟨ma, mb, mc, mf, ml⟩ := hV.m.mx; obtain ⟨c0, c1, c2, c3, c4, c5, c6, c7, c8, c9, cf, cl⟩ := hW.cells; have hvl := hV.lt
                  go_wp2_with fail
                  go_roundg (gk - 1)
                  case measure => omega
                  case rel => exact ⟨t + 1, by go_num, by omega, by omega, by (with_reducible (repeat (first | exact hV | refine HV3.b_ ?_ | refine HV3.drew ?_ | refine HV3.drewN ?_ _))), .inr ⟨HXn.out, f, g, h, by ((with_reducible refine WB.wk (A := A1) (n := n1) (cap := cap1) (A2 := A2) (n2 := n2) (cap2 := cap2) (A3 := A3) (n3 := n3) (cap3 := cap3) ?_); (with_reducible (repeat (first | exact hW | refine WB.b_ ?_ | refine WB.drew ?_ | refine WB.drewN ?_ _ | refine WB.alloc ?_ _))))⟩⟩
          · have htE : min R C - t = 0 := by omega
            rw [htE, sfOut_zero] at hout
            have HO := Lib.hid hout
            clear hout htE
            rw [decide_eq_false htl] at htst
            subst htst
            go_wp2_with fail
            go_meet
            case rel => exact ⟨by (with_reducible (repeat (first | exact hV | refine HV3.b_ ?_ | refine HV3.drew ?_ | refine HV3.drewN ?_ _))), .inl ⟨s, HO.out.symm, by ((with_reducible refine WB.wk (A := A1) (n := n1) (cap := cap1) (A2 := A2) (n2 := n2) (cap2 := cap2) (A3 := A3) (n3 := n3) (cap3 := cap3) ?_); (with_reducible (repeat (first | exact hW | refine WB.b_ ?_ | refine WB.drew ?_ | refine WB.drewN ?_ _ | refine WB.alloc ?_ _))))⟩⟩
        · obtain ⟨A1, n1, cap1, A2, n2, cap2, A3, n3, cap3, hW⟩ := hK
          obtain ⟨ma, mb, mc, mf, ml⟩ := hV.m.mx; obtain ⟨c0, c1, c2, c3, c4, c5, c6, c7, c8, c9, cf, cl⟩ := hW.cells; have hvl := hV.lt
          have HXn := Lib.hid hXn
          clear hXn
          rcases Nat.lt_or_ge C R with hRC | hRC
          · by_cases htc : t < C
            · go_wp2_with fail
              go_meet
              case rel => exact ⟨by (with_reducible (repeat (first | exact hV | refine HV3.b_ ?_ | refine HV3.drew ?_ | refine HV3.drewN ?_ _))), .inr ⟨HXn.out, f, g, h, by ((with_reducible refine WB.wk (A := A1) (n := n1) (cap := cap1) (A2 := A2) (n2 := n2) (cap2 := cap2) (A3 := A3) (n3 := n3) (cap3 := cap3) ?_); (with_reducible (repeat (first | exact hW | refine WB.b_ ?_ | refine WB.drew ?_ | refine WB.drewN ?_ _ | refine WB.alloc ?_ _))))⟩⟩
            · go_wp2_with fail
              go_meet
              case rel => exact ⟨by (with_reducible (repeat (first | exact hV | refine HV3.b_ ?_ | refine HV3.drew ?_ | refine HV3.drewN ?_ _))), .inr ⟨HXn.out, f, g, h, by ((with_reducible refine WB.wk (A := A1) (n := n1) (cap := cap1) (A2 := A2) (n2 := n2) (cap2 := cap2) (A3 := A3) (n3 := n3) (cap3 := cap3) ?_); (with_reducible (repeat (first | exact hW | refine WB.b_ ?_ | refine WB.drew ?_ | refine WB.drewN ?_ _ | refine WB.alloc ?_ _))))⟩⟩
          · by_cases htc : t < R
            · go_wp2_with fail
              go_meet
              case rel => exact ⟨by (with_reducible (repeat (first | exact hV | refine HV3.b_ ?_ | refine HV3.drew ?_ | refine HV3.drewN ?_ _))), .inr ⟨HXn.out, f, g, h, by ((with_reducible refine WB.wk (A := A1) (n := n1) (cap := cap1) (A2 := A2) (n2 := n2) (cap2 := cap2) (A3 := A3) (n3 := n3) (cap3 := cap3) ?_); (with_reducible (repeat (first | exact hW | refine WB.b_ ?_ | refine WB.drew ?_ | refine WB.drewN ?_ _ | refine WB.alloc ?_ _))))⟩⟩
            · go_wp2_with fail
              go_meet
              case rel => exact ⟨by (with_reducible (repeat (first | exact hV | refine HV3.b_ ?_ | refine HV3.drew ?_ | refine HV3.drewN ?_ _))), .inr ⟨HXn.out, f, g, h, by ((with_reducible refine WB.wk (A := A1) (n := n1) (cap := cap1) (A2 := A2) (n2 := n2) (cap2 := cap2) (A3 := A3) (n3 := n3) (cap3 := cap3) ?_); (with_reducible (repeat (first | exact hW | refine WB.b_ ?_ | refine WB.drew ?_ | refine WB.drewN ?_ _ | refine WB.alloc ?_ _))))⟩⟩
    case rest =>
      clear hV2 hK2
      obtain ⟨hV, hrel⟩ := hcut
      rcases hrel with ⟨s, hX, hK⟩ | ⟨hXn, f, g, h, hK⟩
      · obtain ⟨A1, n1, cap1, A2, n2, cap2, A3, n3, cap3, hW⟩ := hK
        have HXs := Lib.hid hX
        clear hX HX HG0
        obtain ⟨ma, mb, mc, mf, ml⟩ := hV.m.mx; obtain ⟨c0, c1, c2, c3, c4, c5, c6, c7, c8, c9, cf, cl⟩ := hW.cells; have hvl := hV.lt
        have hm1 := hW.m
        have hm2 := hW.l
        have hm3 := hW.r
        have hap := Lib.hid hW.ml
        have hap2 := Lib.hid hW.mr
        have hap3 := Lib.hid hW.lr
        have hvr1 := B3.of hV.r1
        have hvr2 := B3.of hV.r2
        have hvr3 := B3.of hV.r3
        have hbw := hV.b
        have hbB := hW.hb
        obtain ⟨r0a, r0b, r0c, r0f, r0l⟩ := hV.r1.mx
        obtain ⟨r1a, r1b, r1c, r1f, r1l⟩ := hV.r2.mx
        obtain ⟨r2a, r2b, r2c, r2f, r2l⟩ := hV.r3.mx
        have ne0 : ¬ b = w.heap.size + 1 := by omega
        have nf0 : ¬ w.heap.size + 1 = b := by omega
        have ne1 : ¬ b = w.heap.size + 1 + 1 := by omega
        have nf1 : ¬ w.heap.size + 1 + 1 = b := by omega
        have ne2 : ¬ b = w.heap.size + 1 + 1 + 1 := by omega
        have nf2 : ¬ w.heap.size + 1 + 1 + 1 = b := by omega
        go_wp2_with fail
        ((refine wp_region_held_drew (S := (fun w' => w'.cell? ⟨b, 0, none⟩ = some (.int .i64 R) ∧ w'.cell? ⟨b, 1, none⟩ = some (.int .i64 C) ∧ w'.cell? ⟨b, 2, none⟩ = some (.slice A1 n1 cap1) ∧ w'.cell? ⟨b, 3, none⟩ = some (.int .i64 R) ∧ w'.cell? ⟨b, 4, none⟩ = some (.int .i64 R) ∧ w'.cell? ⟨b, 5, none⟩ = some (.slice A2 n2 cap2) ∧ w'.cell? ⟨b, 6, none⟩ = some (.int .i64 C) ∧ w'.cell? ⟨b, 7, none⟩ = some (.int .i64 C) ∧ w'.cell? ⟨b, 8, none⟩ = some (.slice A3 n3 cap3))) (by kernel_rfl) ?_ (fun hHeld => ?_)); ((focus ((try dsimp only); (go_keep)))); ((refine tk_ (i := 0) (v := ?_) (y := Or.inl ⟨by rfl, ?_⟩) (h := ?_); rotate_left; (focus (((intro w hSw; (try dsimp only at hSw); go_simp) <;> (try with_reducible rfl)); done)); (try simp only [Act.put, p1_, p2_, p3_]))); ((refine tk_ (i := 1) (v := ?_) (y := Or.inl ⟨by rfl, ?_⟩) (h := ?_); rotate_left; (focus (((intro w hSw; (try dsimp only at hSw); go_simp) <;> (try with_reducible rfl)); done)); (try simp only [Act.put, p1_, p2_, p3_]))); ((refine tk_ (i := 2) (v := ?_) (y := Or.inl ⟨by rfl, ?_⟩) (h := ?_); rotate_left; (focus (((intro w hSw; (try dsimp only at hSw); go_simp) <;> (try with_reducible rfl)); done)); (try simp only [Act.put, p1_, p2_, p3_]))); ((refine tk_ (i := 3) (v := ?_) (y := Or.inl ⟨by rfl, ?_⟩) (h := ?_); rotate_left; (focus (((intro w hSw; (try dsimp only at hSw); go_simp) <;> (try with_reducible rfl)); done)); (try simp only [Act.put, p1_, p2_, p3_]))); ((refine tk_ (i := 4) (v := ?_) (y := Or.inl ⟨by rfl, ?_⟩) (h := ?_); rotate_left; (focus (((intro w hSw; (try dsimp only at hSw); go_simp) <;> (try with_reducible rfl)); done)); (try simp only [Act.put, p1_, p2_, p3_]))); ((refine tk_ (i := 5) (v := ?_) (y := Or.inl ⟨by rfl, ?_⟩) (h := ?_); rotate_left; (focus (((intro w hSw; (try dsimp only at hSw); go_simp) <;> (try with_reducible rfl)); done)); (try simp only [Act.put, p1_, p2_, p3_]))); ((refine tk_ (i := 6) (v := ?_) (y := Or.inl ⟨by rfl, ?_⟩) (h := ?_); rotate_left; (focus (((intro w hSw; (try dsimp only at hSw); go_simp) <;> (try with_reducible rfl)); done)); (try simp only [Act.put, p1_, p2_, p3_]))); ((refine tk_ (i := 7) (v := ?_) (y := Or.inl ⟨by rfl, ?_⟩) (h := ?_); rotate_left; (focus (((intro w hSw; (try dsimp only at hSw); go_simp) <;> (try with_reducible rfl)); done)); (try simp only [Act.put, p1_, p2_, p3_]))); ((refine tk_ (i := 8) (v := ?_) (y := Or.inl ⟨by rfl, ?_⟩) (h := ?_); rotate_left; (focus (((intro w hSw; (try dsimp only at hSw); go_simp) <;> (try with_reducible rfl)); done)); (try simp only [Act.put, p1_, p2_, p3_]))); ((refine tk_ (i := 9) (v := ?_) (y := Or.inl ⟨by rfl, ?_⟩) (h := ?_); rotate_left; (focus (((intro w hSw; (try dsimp only at hSw); go_simp) <;> (try with_reducible rfl)); done)); (try simp only [Act.put, p1_, p2_, p3_]))); ((refine tk_ (i := 10) (v := ?_) (y := Or.inl ⟨by rfl, ?_⟩) (h := ?_); rotate_left; (focus (((intro w hSw; (try dsimp only at hSw); go_simp) <;> (try with_reducible rfl)); done)); (try simp only [Act.put, p1_, p2_, p3_]))); ((refine tk_ (i := 11) (v := ?_) (y := Or.inl ⟨by rfl, ?_⟩) (h := ?_); rotate_left; (focus (((intro w hSw; (try dsimp only at hSw); go_simp) <;> (try with_reducible rfl)); done)); (try simp only [Act.put, p1_, p2_, p3_]))); ((refine wpAnyH_ready (rs := [12]) (by kernel_rfl) (by simp) ?_; refine AllReadyH.cons (by simp only [e1_, e2_, e3_]; try rfl) (fun K hK => ?_) AllReadyH.nil; go_simp; (try go_wp2_with fail); refine hK.out _ _ ?_ (fun hHeld => ?_); (focus ((try dsimp only); (go_keep))); clear hK K; (try simp only [Act.put, p1_, p2_, p3_]))); ((refine wpAnyH_ready (rs := [13]) (by kernel_rfl) (by simp) ?_; refine AllReadyH.cons (by simp only [e1_, e2_, e3_]; try rfl) (fun K hK => ?_) AllReadyH.nil; go_simp; (try go_wp2_with fail); refine hK.out _ _ ?_ (fun hHeld => ?_); (focus ((try dsimp only); (go_keep))); clear hK K; (try simp only [Act.put, p1_, p2_, p3_]))); ((refine wpAnyH_ready (rs := [14]) (by kernel_rfl) (by simp) ?_; refine AllReadyH.cons (by simp only [e1_, e2_, e3_]; try rfl) (fun K hK => ?_) AllReadyH.nil; go_simp; (try go_wp2_with fail); refine hK.out _ _ ?_ (fun hHeld => ?_); (focus ((try dsimp only); (go_keep))); clear hK K; (try simp only [Act.put, p1_, p2_, p3_]))); ((refine tk_ (i := 15) (v := ?_) (y := Or.inl ⟨by rfl, ?_⟩) (h := ?_); rotate_left; (focus (((intro w hSw; (try dsimp only at hSw); go_simp) <;> (try with_reducible rfl)); done)); (try simp only [Act.put, p1_, p2_, p3_]))); (refine wpAnyH_done (by kernel_rfl) ?_ _))
        go_wp2_with fail
        refine ret_M3 (r := R) (c := C) (A := A1) (n := n1) (cap := cap1) (r' := R) (c' := R) (A' := A2) (n' := n2) (cap' := cap2) (r'' := C) (c'' := C) (A'' := A3) (n'' := n3) (cap'' := cap3) Try.results56 rfl rfl rfl (Kb hvr1) (Kb hvr2) (Kb hvr3) rfl ?_
        exact M3R.some_ HXs.out (OR.mono (B := B0) (Ko hm1) (by omega)) (OR.mono (B := B0) (Ko hm2) (by omega)) (OR.mono (B := B0) (Ko hm3) (by omega)) hap.out hap2.out hap3.out Kw
      · obtain ⟨A1, n1, cap1, A2, n2, cap2, A3, n3, cap3, hW⟩ := hK
        have HXs := Lib.hid hXn
        clear hXn HX HG0
        obtain ⟨ma, mb, mc, mf, ml⟩ := hV.m.mx; obtain ⟨c0, c1, c2, c3, c4, c5, c6, c7, c8, c9, cf, cl⟩ := hW.cells; have hvl := hV.lt
        have hvr1 := hV.r1
        have hvr2 := hV.r2
        have hvr3 := hV.r3
        have hbw := hV.b
        obtain ⟨r0a, r0b, r0c, r0f, r0l⟩ := hV.r1.mx
        obtain ⟨r1a, r1b, r1c, r1f, r1l⟩ := hV.r2.mx
        obtain ⟨r2a, r2b, r2c, r2f, r2l⟩ := hV.r3.mx
        go_wp2_with fail
        refine ret_M3 (r := 0) (c := 0) (A := none) (n := 0) (cap := 0) (r' := 0) (c' := 0) (A' := none) (n' := 0) (cap' := 0) (r'' := 0) (c'' := 0) (A'' := none) (n'' := 0) (cap'' := 0) Try.results56 rfl rfl rfl (Kb hvr1) (Kb hvr2) (Kb hvr3) rfl ?_
        exact M3R.none_ HXs.out Kw
end Go.Proofs.Ytacjonkehcamgaa

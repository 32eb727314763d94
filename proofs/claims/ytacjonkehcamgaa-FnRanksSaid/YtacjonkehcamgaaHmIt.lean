/-
  DERIVED. HermiteForm of the program.
-/
import Derived.Test.YtacjonkehcamgaaV3
import Derived.Test.YtacjonkehcamgaaV4
import Derived.Deep.CutBlock
import Derived.Deep.LoopGhost
namespace Go.Proofs.Ytacjonkehcamgaa
open Go.RowKit
set_option linter.unusedVariables false
set_option linter.unusedSimpArgs false
/-- The call's own variables: its argument and its two results. -/
structure HV (w wr : World) (r c : Int) (A : Option Addr) (n cap : Nat) : Prop where
  m : BM wr w.heap.size r c A n cap
  r1 : BM wr (w.heap.size + 1) 0 0 none 0 0
  r2 : BM wr (w.heap.size + 1 + 1) 0 0 none 0 0
  b : Below w.heap.size w wr
section
variable {w wr w' : World} {r c : Int} {A : Option Addr} {n cap : Nat}
theorem HV.lt (h : HV w wr r c A n cap) : w.heap.size + 1 + 1 < wr.heap.size := h.r2.lt
theorem HV.below {D : Nat} (h : HV w wr r c A n cap) (hD : Below D wr w') (hs : w.heap.size + 1 + 1 + 1 ≤ D) : HV w w' r c A n cap :=
  ⟨h.m.below hD (by omega), h.r1.below hD (by omega), h.r2.below hD (by omega), h.b.trans (hD.mono (by omega))⟩
theorem HV.drew (h : HV w wr r c A n cap) : HV w wr.drew r c A n cap := ⟨h.m.drew, h.r1.drew, h.r2.drew, h.b.drew⟩
theorem HV.drewN (h : HV w wr r c A n cap) (q : Nat) : HV w (wr.drewN q) r c A n cap := ⟨h.m.drewN q, h.r1.drewN q, h.r2.drewN q, below_drewN h.b q⟩
end
theorem WK.drewN {w : World} {B b R C : Nat} {f g h : Fn2} {bd : Bool} (k : WK w B b R C f g h bd) (q : Nat) : WK (w.drewN q) B b R C f g h bd := let ⟨_, _, _, _, _, _, _, _, _, k⟩ := k; (k.drewN q).wk
theorem WK.as {w : World} {B b R C : Nat} {f g f' g' h : Fn2} {bd : Bool} (k : WK w B b R C f g h bd) (hf : tb R C f = tb R C f') (hg : tb R R g = tb R R g') : WK w B b R C f' g' h bd := by
  obtain ⟨A, n, cap, A2, n2, cap2, A3, n3, cap3, k⟩ := k
  exact ⟨A, n, cap, A2, n2, cap2, A3, n3, cap3, k.blk, k.hb, k.m.as hf, k.l.as hg, k.r, k.ml, k.mr, k.lr, k.mb, k.lb, k.rb⟩
/-- A number beyond the limit came up. -/
def BadW (X : Option (HS × Nat)) (w : World) (B b R C : Nat) : Prop := X = none ∧ ∃ f g, WK w B b R C f g idF true
set_option maxRecDepth 100000 in
set_option maxHeartbeats 8000000 in
theorem impl_HermiteForm (r c : Int) (A : Option Addr) (n cap : Nat) (xs : List Int) (w : World) {B : Nat} (h : RI w B A n xs) (hB : B ≤ w.heap.size) (hn : n ≤ 1048576) :
    Calls Try.prog 50 #[.agg #[.int .i64 r, .int .i64 c, .slice A n cap]] w (M2R (hmM r c xs) (hmU r c xs) (hmX r c xs).isSome w) := by
  unfold hmM hmU
  have hlen := h.len
  have H2 := Lib.hid (h.more hB)
  clear h
  rcases hm : isMat r c xs with _ | _
  · have HM := Lib.hid hm
    have HX := Lib.hid (hmX_no hm)
    clear hm
    generalize hmX r c xs = X at *
    go_enter Try.func50, Try.ntmps50
    go_wp2_with fail
    refine (impl_IsMatrix r c A n cap xs _ (C := w.heap.size) (Kr H2.out) Ks hn).mono ?_
    rw [HM.out]
    rintro e w1 ⟨rfl, hb1⟩
    have hV : HV w w1 r c A n cap := ⟨Ka, Ka, Ka, Kw⟩
    obtain ⟨r0a, r0b, r0c, r0f, r0l⟩ := hV.r1.mx
    obtain ⟨r1a, r1b, r1c, r1f, r1l⟩ := hV.r2.mx
    obtain ⟨ma, mb, mc, mf, ml⟩ := hV.m.mx
    have hvr1 := hV.r1
    have hvr2 := hV.r2
    have hbw := hV.b
    go_wp2_with fail
    refine ret_M2 (r := 0) (c := 0) (A := none) (n := 0) (cap := 0) (r' := 0) (c' := 0) (A' := none) (n' := 0) (cap' := 0) Try.results50 rfl rfl (Kb hvr1) (Kb hvr2) rfl ?_
    exact M2R.none_ HX.out Kw
  · have M := isMat_iff.1 hm
    obtain ⟨R, rfl⟩ := nat_of M.r0
    obtain ⟨C, rfl⟩ := nat_of M.c0
    have hR : R ≤ 24 := by have := M.r1; omega
    have hC : C ≤ 24 := by have := M.c1; omega
    have hlx : xs.length = R * C := by have := M.len; rw [← Int.natCast_mul] at this; omega
    have HG0 := Lib.hid (start_gd (R := R) (C := C) M.num)
    have HX := Lib.hid (hmX_yes hm)
    have HT := Lib.hid (tb_of hlx)
    have HM := Lib.hid hm
    clear M hm hlx
    generalize hmX (R : Int) (C : Int) xs = X at *
    go_enter Try.func50, Try.ntmps50
    go_wp2_with fail
    refine (impl_IsMatrix R C A n cap xs _ (C := w.heap.size) (Kr H2.out) Ks hn).mono ?_
    rw [HM.out]
    rintro e w1 ⟨rfl, hb1⟩
    have hV : HV w w1 R C A n cap := ⟨Ka, Ka, Ka, Kw⟩
    have hri : RI w1 w.heap.size A n xs := Kr H2.out
    clear hb1
    obtain ⟨ma, mb, mc, mf, ml⟩ := hV.m.mx
    go_wp2_with fail
    refine (impl_newWork R C A n cap _ _ (B := w.heap.size) (HT.out ▸ hri) (Nat.le_of_lt ml) hR hC).mono ?_
    rintro e w2 ⟨b, rfl, hK, hb2⟩
    have hlow := hV.lt
    have hV2 : HV w w2 R C A n cap := hV.below hb2 hlow
    have hK2 := Lib.hid hK
    generalize hB0 : w1.heap.size = B0 at *
    have hlow : w.heap.size + 1 + 1 + 1 ≤ B0 := hlow
    clear hB0 hb2 hV hri ma mb mc mf ml hK
    go_upto_block 0 with fail
    go_cut [] from 24 (fun wc => HV w wc R C A n cap ∧ ((∃ s t, X = some (s, t) ∧ WK wc B0 b R C s.f s.g idF false) ∨ BadW X wc B0 b R C))
    case first => as_aux_lemma =>
      go_wp2_with fail
      go_loopg [6, 7] (C + 2) (fun k vt vj wr => ∃ (j t : Nat), vj = .int .i64 j ∧ vt = .int .i64 t ∧ j ≤ C ∧ t ≤ R ∧ C - j < k ∧ HV w wr R C A n cap ∧ ((∃ s, GD R C s ∧ hmOut R C (C - j) j t s = X ∧ WK wr B0 b R C s.f s.g idF false) ∨ BadW X wr B0 b R C))
      case atStart => exact ⟨0, 0, rfl, rfl, Nat.zero_le _, Nat.zero_le _, by omega, hV2, .inl ⟨_, HG0.out, HX.out.symm, hK2.out⟩⟩
      case round => as_aux_lemma =>
        clear hV2 hK2 HG0 HX
        obtain ⟨j, t, rfl, rfl, hj, ht, hk, hV, hrel⟩ := hrel
        rcases hrel with ⟨s, hG0, hout, hK⟩ | ⟨hXn, f, g, hK⟩
        · obtain ⟨A1, n1, cap1, A2, n2, cap2, A3, n3, cap3, hW⟩ := hK
          have HG := Lib.hid hG0
          clear hG0
          obtain ⟨ma, mb, mc, mf, ml⟩ := hV.m.mx; obtain ⟨c0, c1, c2, c3, c4, c5, c6, c7, c8, c9, cf, cl⟩ := hW.cells; have hvl := hV.lt
          by_cases hjC : j < C
          · by_cases htR : t < R
            · have hm1 : C - j = C - (j + 1) + 1 := by omega
              rw [hm1] at hout
              have HJ : Hid (∀ p : Nat, lst R s.f j t = (p : Nat) → hmGo R C (C - (j + 1)) j t (hmIn R C j t s p) = X) := Lib.hid (fun p e => by rw [← hout, hmOut_go htR (by omega), e, Int.toNat_natCast])
              have HS : Hid (lst R s.f j t < 0 → hmOut R C (C - (j + 1)) (j + 1) t s = X) := Lib.hid (fun e => by rw [← hout, hmOut_skip htR e])
              have hcall : Hid (∀ w', WK w' B0 b R C s.f s.g idF false → Calls Try.prog 145 #[.pointer (some ⟨b, 0, none⟩), .int .i64 t, .int .i64 j] w' (BV (.int .i64 (lst R s.f j t)) w')) := Lib.hid (fun w' hk => impl_leastIn B0 b R C t j s.f s.g idF false w' hk ht hjC HG.out.ok.f hC hR)
              have hcs := lst_cases R s.f j t ht
              clear hout hm1
              rcases hcs with ⟨e, -⟩ | ⟨p, e, h1, h2, h3⟩
              · have HS2 := Lib.hid (HS.out (by omega))
                rw [e] at hcall
                clear e HS HJ
                go_wp2_with fail
                refine (hcall.out _ (by (first | ((with_reducible refine WB.wk (A := A1) (n := n1) (cap := cap1) (A2 := A2) (n2 := n2) (cap2 := cap2) (A3 := A3) (n3 := n3) (cap3 := cap3) ?_); (with_reducible (repeat (first | exact hW | refine WB.b_ ?_ | refine WB.drew ?_ | refine WB.drewN ?_ _ | refine WB.alloc ?_ _))))))).mono ?_
                rintro e w1 ⟨rfl, hb1⟩
                (have hV_1 : HV w w1 R C A n cap := (by (with_reducible (repeat (first | exact hV | refine HV.below ?_ (by assumption) Ks | refine HV.drew ?_ | refine HV.drewN ?_ _))))); (have hW_1 : WB w1 B0 b R C s.f s.g idF false A1 n1 cap1 A2 n2 cap2 A3 n3 cap3 := (by (with_reducible (repeat (first | exact hW | refine WB.b_ ?_ | refine WB.drew ?_ | refine WB.drewN ?_ _ | refine WB.alloc ?_ _))))); clear hV hW hb1; clear ma mb mc mf ml c0 c1 c2 c3 c4 c5 c6 c7 c8 c9 cf cl hvl; (have hV := hV_1); (have hW := hW_1); clear hV_1 hW_1; obtain ⟨ma, mb, mc, mf, ml⟩ := hV.m.mx; obtain ⟨c0, c1, c2, c3, c4, c5, c6, c7, c8, c9, cf, cl⟩ := hW.cells; have hvl := hV.lt
                go_wp2_with fail
                go_roundg (gk - 1)
                case measure => omega
                case rel => exact ⟨j + 1, t, by go_num, rfl, by omega, by omega, by omega, hV, .inl ⟨s, HG.out, HS2.out, hW.wk⟩⟩
              · have HJ2 := Lib.hid (HJ.out p e)
                rw [e] at hcall
                have HP := Lib.hid h3
                clear e HS HJ h3
                go_wp2_with fail
                refine (hcall.out _ (by (first | ((with_reducible refine WB.wk (A := A1) (n := n1) (cap := cap1) (A2 := A2) (n2 := n2) (cap2 := cap2) (A3 := A3) (n3 := n3) (cap3 := cap3) ?_); (with_reducible (repeat (first | exact hW | refine WB.b_ ?_ | refine WB.drew ?_ | refine WB.drewN ?_ _ | refine WB.alloc ?_ _))))))).mono ?_
                rintro e w1 ⟨rfl, hb1⟩
                (have hV_1 : HV w w1 R C A n cap := (by (with_reducible (repeat (first | exact hV | refine HV.below ?_ (by assumption) Ks | refine HV.drew ?_ | refine HV.drewN ?_ _))))); (have hW_1 : WB w1 B0 b R C s.f s.g idF false A1 n1 cap1 A2 n2 cap2 A3 n3 cap3 := (by (with_reducible (repeat (first | exact hW | refine WB.b_ ?_ | refine WB.drew ?_ | refine WB.drewN ?_ _ | refine WB.alloc ?_ _))))); clear hV hW hb1; clear ma mb mc mf ml c0 c1 c2 c3 c4 c5 c6 c7 c8 c9 cf cl hvl; (have hV := hV_1); (have hW := hW_1); clear hV_1 hW_1; obtain ⟨ma, mb, mc, mf, ml⟩ := hV.m.mx; obtain ⟨c0, c1, c2, c3, c4, c5, c6, c7, c8, c9, cf, cl⟩ := hW.cells; have hvl := hV.lt
                clear hcall
                go_upto_block 2 with fail
                go_cut [8] from 24 to 185 (fun vp wc => HV w wc R C A n cap ∧ ((∃ (s : HS) (p : Nat), vp = .int .i64 p ∧ GD R C s ∧ p < R ∧ s.f p j ≠ 0 ∧ hmGo R C (C - (j + 1)) j t (some (s, p)) = X ∧ WK wc B0 b R C s.f s.g idF false) ∨ BadW X wc B0 b R C))
                case first => as_aux_lemma =>
                  go_wp2_with fail
                  go_loopg [8] (hmMs R j t s p + 2) (fun k vp wr => HV w wr R C A n cap ∧ ((∃ (s : HS) (p : Nat), vp = .int .i64 p ∧ GD R C s ∧ t ≤ p ∧ p < R ∧ s.f p j ≠ 0 ∧ hmGo R C (C - (j + 1)) j t (hmIn R C j t s p) = X ∧ hmMs R j t s p < k ∧ WK wr B0 b R C s.f s.g idF false) ∨ BadW X wr B0 b R C))
                  case atStart => exact ⟨by (with_reducible (repeat (first | exact hV | refine HV.below ?_ (by assumption) Ks | refine HV.drew ?_ | refine HV.drewN ?_ _))), .inl ⟨s, p, rfl, HG.out, h1, h2, HP.out, HJ2.out, by omega, by (first | ((with_reducible refine WB.wk (A := A1) (n := n1) (cap := cap1) (A2 := A2) (n2 := n2) (cap2 := cap2) (A3 := A3) (n3 := n3) (cap3 := cap3) ?_); (with_reducible (repeat (first | exact hW | refine WB.b_ ?_ | refine WB.drew ?_ | refine WB.drewN ?_ _ | refine WB.alloc ?_ _)))))⟩⟩
                  case round => as_aux_lemma =>
                    clear ma mb mc mf ml c0 c1 c2 c3 c4 c5 c6 c7 c8 c9 cf cl hvl
                    clear hV hW HG HP HJ2 h1 h2
                    obtain ⟨hV, hrel⟩ := hrel
                    rcases hrel with ⟨s, p, rfl, hG0, h1, h2, h3, hgo, hk2, hK⟩ | ⟨hXn, f, g, hK⟩
                    · obtain ⟨A1, n1, cap1, A2, n2, cap2, A3, n3, cap3, hW⟩ := hK
                      have HG := Lib.hid hG0
                      have HP := Lib.hid h3
                      have HK := Lib.hid hk2
                      have HGO := Lib.hid hgo
                      clear hG0 h3 hk2 hgo
                      obtain ⟨ma, mb, mc, mf, ml⟩ := hV.m.mx; obtain ⟨c0, c1, c2, c3, c4, c5, c6, c7, c8, c9, cf, cl⟩ := hW.cells; have hvl := hV.lt
                      have hcall : Hid (∀ w', WK w' B0 b R C s.f s.g idF false → Calls Try.prog 146 #[.pointer (some ⟨b, 0, none⟩), .int .i64 t, .int .i64 p, .int .i64 j] w' (BV (.bool (oth R s.f j t p)) w')) := Lib.hid (fun w' hk => impl_others B0 b R C t p j s.f s.g idF false w' hk ht hjC h2 hC hR)
                      rcases ho : oth R s.f j t p with _ | _
                      · rw [ho] at hcall
                        have HD : Hid (hmGo R C (C - (j + 1)) j t (some (s, p)) = X) := Lib.hid (by rw [← hmIn_done (C := C) ho]; exact HGO.out)
                        clear ho HGO
                        go_wp2_with fail
                        refine (hcall.out _ (by (first | ((with_reducible refine WB.wk (A := A1) (n := n1) (cap := cap1) (A2 := A2) (n2 := n2) (cap2 := cap2) (A3 := A3) (n3 := n3) (cap3 := cap3) ?_); (with_reducible (repeat (first | exact hW | refine WB.b_ ?_ | refine WB.drew ?_ | refine WB.drewN ?_ _ | refine WB.alloc ?_ _))))))).mono ?_
                        rintro e w1 ⟨rfl, hb1⟩
                        (have hV_1 : HV w w1 R C A n cap := (by (with_reducible (repeat (first | exact hV | refine HV.below ?_ (by assumption) Ks | refine HV.drew ?_ | refine HV.drewN ?_ _))))); (have hW_1 : WB w1 B0 b R C s.f s.g idF false A1 n1 cap1 A2 n2 cap2 A3 n3 cap3 := (by (with_reducible (repeat (first | exact hW | refine WB.b_ ?_ | refine WB.drew ?_ | refine WB.drewN ?_ _ | refine WB.alloc ?_ _))))); clear hV hW hb1; clear ma mb mc mf ml c0 c1 c2 c3 c4 c5 c6 c7 c8 c9 cf cl hvl; (have hV := hV_1); (have hW := hW_1); clear hV_1 hW_1; obtain ⟨ma, mb, mc, mf, ml⟩ := hV.m.mx; obtain ⟨c0, c1, c2, c3, c4, c5, c6, c7, c8, c9, cf, cl⟩ := hW.cells; have hvl := hV.lt
                        clear hcall
                        go_wp2_with fail
                        go_meet
                        case rel => exact ⟨by (with_reducible (repeat (first | exact hV | refine HV.below ?_ (by assumption) Ks | refine HV.drew ?_ | refine HV.drewN ?_ _))), .inl ⟨s, p, rfl, HG.out, h2, HP.out, HD.out, by (first | ((with_reducible refine WB.wk (A := A1) (n := n1) (cap := cap1) (A2 := A2) (n2 := n2) (cap2 := cap2) (A3 := A3) (n3 := n3) (cap3 := cap3) ?_); (with_reducible (repeat (first | exact hW | refine WB.b_ ?_ | refine WB.drew ?_ | refine WB.drewN ?_ _ | refine WB.alloc ?_ _)))))⟩⟩
                      · rw [ho] at hcall
                        have HO := Lib.hid ho
                        clear ho
                        go_wp2_with fail
                        refine (hcall.out _ (by (first | ((with_reducible refine WB.wk (A := A1) (n := n1) (cap := cap1) (A2 := A2) (n2 := n2) (cap2 := cap2) (A3 := A3) (n3 := n3) (cap3 := cap3) ?_); (with_reducible (repeat (first | exact hW | refine WB.b_ ?_ | refine WB.drew ?_ | refine WB.drewN ?_ _ | refine WB.alloc ?_ _))))))).mono ?_
                        rintro e w1 ⟨rfl, hb1⟩
                        (have hV_1 : HV w w1 R C A n cap := (by (with_reducible (repeat (first | exact hV | refine HV.below ?_ (by assumption) Ks | refine HV.drew ?_ | refine HV.drewN ?_ _))))); (have hW_1 : WB w1 B0 b R C s.f s.g idF false A1 n1 cap1 A2 n2 cap2 A3 n3 cap3 := (by (with_reducible (repeat (first | exact hW | refine WB.b_ ?_ | refine WB.drew ?_ | refine WB.drewN ?_ _ | refine WB.alloc ?_ _))))); clear hV hW hb1; clear ma mb mc mf ml c0 c1 c2 c3 c4 c5 c6 c7 c8 c9 cf cl hvl; (have hV := hV_1); (have hW := hW_1); clear hV_1 hW_1; obtain ⟨ma, mb, mc, mf, ml⟩ := hV.m.mx; obtain ⟨c0, c1, c2, c3, c4, c5, c6, c7, c8, c9, cf, cl⟩ := hW.cells; have hvl := hV.lt
                        clear hcall
                        go_upto_block 4 with fail
                        go_cut [] from 49 to 121 (fun wc => HV w wc R C A n cap ∧ ((∃ q, q = swS j p t s (R - t) ∧ q.OK R C ∧ WK wc B0 b R C q.f q.g idF false) ∨ (¬ (swS j p t s (R - t)).OK R C ∧ ∃ f g, WK wc B0 b R C f g idF true)))
                        case first => as_aux_lemma =>
                          go_wp2_with fail
                          go_loopg [9] (R + 1) (fun k vi wr => ∃ (i : Nat), vi = .int .i64 i ∧ t ≤ i ∧ i ≤ R ∧ R - i < k ∧ HV w wr R C A n cap ∧ ((∃ q, q = swS j p t s (i - t) ∧ q.OK R C ∧ WK wr B0 b R C q.f q.g idF false) ∨ (¬ (swS j p t s (R - t)).OK R C ∧ ∃ f g, WK wr B0 b R C f g idF true)))
                          case atStart => exact ⟨t, rfl, Nat.le_refl _, ht, by omega, by (with_reducible (repeat (first | exact hV | refine HV.below ?_ (by assumption) Ks | refine HV.drew ?_ | refine HV.drewN ?_ _))), .inl ⟨s, by rw [Nat.sub_self]; rfl, HG.out.ok, by (first | ((with_reducible refine WB.wk (A := A1) (n := n1) (cap := cap1) (A2 := A2) (n2 := n2) (cap2 := cap2) (A3 := A3) (n3 := n3) (cap3 := cap3) ?_); (with_reducible (repeat (first | exact hW | refine WB.b_ ?_ | refine WB.drew ?_ | refine WB.drewN ?_ _ | refine WB.alloc ?_ _)))))⟩⟩
                          case round => as_aux_lemma =>
                            clear ma mb mc mf ml c0 c1 c2 c3 c4 c5 c6 c7 c8 c9 cf cl hvl
                            clear hV hW
                            obtain ⟨i, rfl, hti, hiR, hk3, hV, hrel⟩ := hrel
                            rcases hrel with ⟨q, hq, hQ0, hK⟩ | ⟨hno, f, g, hK⟩
                            · obtain ⟨A1, n1, cap1, A2, n2, cap2, A3, n3, cap3, hW⟩ := hK
                              have HQ := Lib.hid hq
                              have HQO := Lib.hid hQ0
                              clear hq hQ0
                              obtain ⟨ma, mb, mc, mf, ml⟩ := hV.m.mx; obtain ⟨c0, c1, c2, c3, c4, c5, c6, c7, c8, c9, cf, cl⟩ := hW.cells; have hvl := hV.lt
                              by_cases hlt : i < R
                              · have hsub : i + 1 - t = (i - t) + 1 := by omega
                                have hst : t + (i - t) = i := by omega
                                by_cases hip : i = p
                                · have HS : Hid (q = swS j p t s (i + 1 - t)) := Lib.hid (by rw [hsub, sw_skip (.inl (by omega))]; exact HQ.out)
                                  have hbne : ((i : Int) != (p : Int)) = false := by simp [hip]
                                  clear hip hsub hst
                                  go_wp2_with fail
                                  go_roundg (gk - 1)
                                  case measure => omega
                                  case rel => exact ⟨i + 1, by go_num, by omega, by omega, by omega, by (with_reducible (repeat (first | exact hV | refine HV.below ?_ (by assumption) Ks | refine HV.drew ?_ | refine HV.drewN ?_ _))), .inl ⟨q, HS.out, HQO.out, by (first | ((with_reducible refine WB.wk (A := A1) (n := n1) (cap := cap1) (A2 := A2) (n2 := n2) (cap2 := cap2) (A3 := A3) (n3 := n3) (cap3 := cap3) ?_); (with_reducible (repeat (first | exact hW | refine WB.b_ ?_ | refine WB.drew ?_ | refine WB.drewN ?_ _ | refine WB.alloc ?_ _)))))⟩⟩
                                · have hbne : ((i : Int) != (p : Int)) = true := by simp; omega
                                  have HIP := Lib.hid hip
                                  clear hip
                                  have hqi : q.f i j = s.f i j := by rw [HQ.out, swS_late j _ (by omega)]
                                  have hqp : q.f p j = s.f p j := by rw [HQ.out, swS_p]
                                  by_cases hz : s.f i j = 0
                                  · have HS : Hid (q = swS j p t s (i + 1 - t)) := Lib.hid (by rw [hsub, sw_skip (.inr (by rw [hst]; exact hz))]; exact HQ.out)
                                    have HZ : Hid (q.f i j = 0) := Lib.hid (by rw [hqi, hz])
                                    clear hz hqi hqp hsub hst
                                    go_wp2_with fail
                                    refine (impl_at_tb R C i j A1 n1 cap1 q.f 0 HZ.out _ (B := B0) (by have hm := hW.m; (with_reducible (repeat (first | exact hm | refine OR.drew ?_ | refine OR.drewN ?_ _ | refine OR.alloc ?_ _ | refine OR.b_ ?_ | refine OR.l_ ?_)))) (by omega) (by omega) (by omega) (by omega)).mono ?_
                                    rintro e w1 ⟨rfl, hb1⟩
                                    (have hV_1 : HV w w1 R C A n cap := (by (with_reducible (repeat (first | exact hV | refine HV.below ?_ (by assumption) Ks | refine HV.drew ?_ | refine HV.drewN ?_ _))))); (have hW_1 : WB w1 B0 b R C q.f q.g idF false A1 n1 cap1 A2 n2 cap2 A3 n3 cap3 := (by (with_reducible (repeat (first | exact hW | refine WB.b_ ?_ | refine WB.drew ?_ | refine WB.drewN ?_ _ | refine WB.alloc ?_ _))))); clear hV hW hb1; clear ma mb mc mf ml c0 c1 c2 c3 c4 c5 c6 c7 c8 c9 cf cl hvl; (have hV := hV_1); (have hW := hW_1); clear hV_1 hW_1; obtain ⟨ma, mb, mc, mf, ml⟩ := hV.m.mx; obtain ⟨c0, c1, c2, c3, c4, c5, c6, c7, c8, c9, cf, cl⟩ := hW.cells; have hvl := hV.lt
                                    go_wp2_with fail
                                    go_roundg (gk - 1)
                                    case measure => omega
                                    case rel => exact ⟨i + 1, by go_num, by omega, by omega, by omega, by (with_reducible (repeat (first | exact hV | refine HV.below ?_ (by assumption) Ks | refine HV.drew ?_ | refine HV.drewN ?_ _))), .inl ⟨q, HS.out, HQO.out, by (first | ((with_reducible refine WB.wk (A := A1) (n := n1) (cap := cap1) (A2 := A2) (n2 := n2) (cap2 := cap2) (A3 := A3) (n3 := n3) (cap3 := cap3) ?_); (with_reducible (repeat (first | exact hW | refine WB.b_ ?_ | refine WB.drew ?_ | refine WB.drewN ?_ _ | refine WB.alloc ?_ _)))))⟩⟩
                                  · have hzn : Num (s.f i j) := HG.out.ok.f i j hlt hjC
                                    have hdn : Num (s.f p j) := HG.out.ok.f p j h2 hjC
                                    have HST : Hid (swS j p t s (i + 1 - t) = q.add i p (-(s.f i j / s.f p j))) := Lib.hid (by rw [hsub, sw_add (by rw [hst]; exact HIP.out) (by rw [hst]; exact hz), hst, ← HQ.out])
                                    have hqn := (ediv_bd hzn HP.out).neg
                                    have HDV : Hid (∀ w', Calls Try.prog 147 #[.int .i64 (s.f i j), .int .i64 (s.f p j)] w' (IIE (s.f i j / s.f p j) (s.f i j % s.f p j) true w')) := Lib.hid (fun w' => impl_DivideFloor (s.f i j) (s.f p j) w' hzn hdn HP.out)
                                    have HBAD : Hid (¬ okA R C q.f q.g i p (-(s.f i j / s.f p j)) → ¬ (swS j p t s (R - t)).OK R C) := Lib.hid (fun hn hk => hn (by
                                      have h5 : (swS j p t s (i + 1 - t)).OK R C := swS_back' HG.out.nb (i + 1 - t) (R - t - (i + 1 - t)) (by rw [show i + 1 - t + (R - t - (i + 1 - t)) = R - t by omega]; exact hk)
                                      rw [HST.out] at h5
                                      exact ⟨h5.f, h5.g⟩))
                                    have hnz : (s.f i j != 0) = true := by simpa using hz
                                    have HQI := Lib.hid hqi
                                    have HQP := Lib.hid hqp
                                    clear hz hqi hqp hsub hst hzn hdn
                                    generalize s.f i j / s.f p j = y at *
                                    generalize s.f i j % s.f p j = y2 at *
                                    generalize s.f i j = z at *
                                    generalize hd1 : s.f p j = d at HQP HDV
                                    clear hd1
                                    obtain ⟨hq1, hq2⟩ := hqn
                                    go_wp2_with fail
                                    refine (impl_at_tb R C i j A1 n1 cap1 q.f z HQI.out _ (B := B0) (by have hm := hW.m; (with_reducible (repeat (first | exact hm | refine OR.drew ?_ | refine OR.drewN ?_ _ | refine OR.alloc ?_ _ | refine OR.b_ ?_ | refine OR.l_ ?_)))) (by omega) (by omega) (by omega) (by omega)).mono ?_
                                    rintro e w1 ⟨rfl, hb1⟩
                                    (have hV_1 : HV w w1 R C A n cap := (by (with_reducible (repeat (first | exact hV | refine HV.below ?_ (by assumption) Ks | refine HV.drew ?_ | refine HV.drewN ?_ _))))); (have hW_1 : WB w1 B0 b R C q.f q.g idF false A1 n1 cap1 A2 n2 cap2 A3 n3 cap3 := (by (with_reducible (repeat (first | exact hW | refine WB.b_ ?_ | refine WB.drew ?_ | refine WB.drewN ?_ _ | refine WB.alloc ?_ _))))); clear hV hW hb1; clear ma mb mc mf ml c0 c1 c2 c3 c4 c5 c6 c7 c8 c9 cf cl hvl; (have hV := hV_1); (have hW := hW_1); clear hV_1 hW_1; obtain ⟨ma, mb, mc, mf, ml⟩ := hV.m.mx; obtain ⟨c0, c1, c2, c3, c4, c5, c6, c7, c8, c9, cf, cl⟩ := hW.cells; have hvl := hV.lt
                                    go_wp2_with fail
                                    ((refine wp_region_held_drew (S := (fun w' => w'.cell? ⟨b, 0, none⟩ = some (.int .i64 R) ∧ w'.cell? ⟨b, 1, none⟩ = some (.int .i64 C) ∧ w'.cell? ⟨b, 2, none⟩ = some (.slice A1 n1 cap1))) (by kernel_rfl) ?_ (fun hHeld => ?_)); ((focus ((try dsimp only); (go_keep)))); ((refine tk_ (i := 0) (v := ?_) (y := Or.inl ⟨by rfl, ?_⟩) (h := ?_); rotate_left; (focus (((intro w hSw; (try dsimp only at hSw); go_simp) <;> (try with_reducible rfl)); done)); (try simp only [Act.put, p1_, p2_, p3_]))); ((refine tk_ (i := 1) (v := ?_) (y := Or.inl ⟨by rfl, ?_⟩) (h := ?_); rotate_left; (focus (((intro w hSw; (try dsimp only at hSw); go_simp) <;> (try with_reducible rfl)); done)); (try simp only [Act.put, p1_, p2_, p3_]))); ((refine tk_ (i := 2) (v := ?_) (y := Or.inl ⟨by rfl, ?_⟩) (h := ?_); rotate_left; (focus (((intro w hSw; (try dsimp only at hSw); go_simp) <;> (try with_reducible rfl)); done)); (try simp only [Act.put, p1_, p2_, p3_]))); ((refine tk_ (i := 3) (v := ?_) (y := Or.inl ⟨by rfl, ?_⟩) (h := ?_); rotate_left; (focus (((intro w hSw; (try dsimp only at hSw); go_simp) <;> (try with_reducible rfl)); done)); (try simp only [Act.put, p1_, p2_, p3_]))); ((refine tk_ (i := 4) (v := ?_) (y := Or.inl ⟨by rfl, ?_⟩) (h := ?_); rotate_left; (focus (((intro w hSw; (try dsimp only at hSw); go_simp) <;> (try with_reducible rfl)); done)); (try simp only [Act.put, p1_, p2_, p3_]))); ((refine tk_ (i := 5) (v := ?_) (y := Or.inl ⟨by rfl, ?_⟩) (h := ?_); rotate_left; (focus (((intro w hSw; (try dsimp only at hSw); go_simp) <;> (try with_reducible rfl)); done)); (try simp only [Act.put, p1_, p2_, p3_]))); ((refine tk_ (i := 7) (v := ?_) (y := Or.inl ⟨by rfl, ?_⟩) (h := ?_); rotate_left; (focus (((intro w hSw; (try dsimp only at hSw); go_simp) <;> (try with_reducible rfl)); done)); (try simp only [Act.put, p1_, p2_, p3_]))); ((refine tk_ (i := 8) (v := ?_) (y := Or.inl ⟨by rfl, ?_⟩) (h := ?_); rotate_left; (focus (((intro w hSw; (try dsimp only at hSw); go_simp) <;> (try with_reducible rfl)); done)); (try simp only [Act.put, p1_, p2_, p3_]))); ((refine tk_ (i := 9) (v := ?_) (y := Or.inl ⟨by rfl, ?_⟩) (h := ?_); rotate_left; (focus (((intro w hSw; (try dsimp only at hSw); go_simp) <;> (try with_reducible rfl)); done)); (try simp only [Act.put, p1_, p2_, p3_]))); ((refine tk_ (i := 10) (v := ?_) (y := Or.inl ⟨by rfl, ?_⟩) (h := ?_); rotate_left; (focus (((intro w hSw; (try dsimp only at hSw); go_simp) <;> (try with_reducible rfl)); done)); (try simp only [Act.put, p1_, p2_, p3_]))); ((refine tk_ (i := 11) (v := ?_) (y := Or.inl ⟨by rfl, ?_⟩) (h := ?_); rotate_left; (focus (((intro w hSw; (try dsimp only at hSw); go_simp) <;> (try with_reducible rfl)); done)); (try simp only [Act.put, p1_, p2_, p3_]))); ((refine tk_ (i := 12) (v := ?_) (y := Or.inl ⟨by rfl, ?_⟩) (h := ?_); rotate_left; (focus (((intro w hSw; (try dsimp only at hSw); go_simp) <;> (try with_reducible rfl)); done)); (try simp only [Act.put, p1_, p2_, p3_]))); ((refine wpAnyH_ready (rs := [6]) (by kernel_rfl) (by simp) ?_; refine AllReadyH.cons (by simp only [e1_, e2_, e3_]; try rfl) (fun K hK => ?_) AllReadyH.nil; go_simp; (go_at_call 117; refine (impl_at_tb R C i j A1 n1 cap1 q.f z HQI.out _ (B := B0) (by have hm := hW.m; (with_reducible (repeat (first | exact hm | refine OR.drew ?_ | refine OR.drewN ?_ _ | refine OR.alloc ?_ _ | refine OR.b_ ?_ | refine OR.l_ ?_)))) (by omega) (by omega) (by omega) (by omega)).mono ?_; rintro e w1 ⟨rfl, hb1⟩; (have hV_1 : HV w w1 R C A n cap := (by (with_reducible (repeat (first | exact hV | refine HV.below ?_ (by assumption) Ks | refine HV.drew ?_ | refine HV.drewN ?_ _))))); (have hW_1 : WB w1 B0 b R C q.f q.g idF false A1 n1 cap1 A2 n2 cap2 A3 n3 cap3 := (by (with_reducible (repeat (first | exact hW | refine WB.b_ ?_ | refine WB.drew ?_ | refine WB.drewN ?_ _ | refine WB.alloc ?_ _))))); clear hV hW hb1; clear ma mb mc mf ml c0 c1 c2 c3 c4 c5 c6 c7 c8 c9 cf cl hvl; (have hV := hV_1); (have hW := hW_1); clear hV_1 hW_1; obtain ⟨ma, mb, mc, mf, ml⟩ := hV.m.mx; obtain ⟨c0, c1, c2, c3, c4, c5, c6, c7, c8, c9, cf, cl⟩ := hW.cells; have hvl := hV.lt); (try go_wp2_with fail); refine hK.out _ _ ?_ (fun hHeld => ?_); (focus ((try dsimp only); (go_keep))); clear hK K; (try simp only [Act.put, p1_, p2_, p3_]))); ((refine wpAnyH_ready (rs := [13]) (by kernel_rfl) (by simp) ?_; refine AllReadyH.cons (by simp only [e1_, e2_, e3_]; try rfl) (fun K hK => ?_) AllReadyH.nil; go_simp; (go_at_call 117; refine (impl_at_tb R C p j A1 n1 cap1 q.f d HQP.out _ (B := B0) (by have hm := hW.m; (with_reducible (repeat (first | exact hm | refine OR.drew ?_ | refine OR.drewN ?_ _ | refine OR.alloc ?_ _ | refine OR.b_ ?_ | refine OR.l_ ?_)))) (by omega) (by omega) (by omega) (by omega)).mono ?_; rintro e w1 ⟨rfl, hb1⟩; (have hV_1 : HV w w1 R C A n cap := (by (with_reducible (repeat (first | exact hV | refine HV.below ?_ (by assumption) Ks | refine HV.drew ?_ | refine HV.drewN ?_ _))))); (have hW_1 : WB w1 B0 b R C q.f q.g idF false A1 n1 cap1 A2 n2 cap2 A3 n3 cap3 := (by (with_reducible (repeat (first | exact hW | refine WB.b_ ?_ | refine WB.drew ?_ | refine WB.drewN ?_ _ | refine WB.alloc ?_ _))))); clear hV hW hb1; clear ma mb mc mf ml c0 c1 c2 c3 c4 c5 c6 c7 c8 c9 cf cl hvl; (have hV := hV_1); (have hW := hW_1); clear hV_1 hW_1; obtain ⟨ma, mb, mc, mf, ml⟩ := hV.m.mx; obtain ⟨c0, c1, c2, c3, c4, c5, c6, c7, c8, c9, cf, cl⟩ := hW.cells; have hvl := hV.lt); (try go_wp2_with fail); refine hK.out _ _ ?_ (fun hHeld => ?_); (focus ((try dsimp only); (go_keep))); clear hK K; (try simp only [Act.put, p1_, p2_, p3_]))); ((refine wpAnyH_ready (rs := [14]) (by kernel_rfl) (by simp) ?_; refine AllReadyH.cons (by simp only [e1_, e2_, e3_]; try rfl) (fun K hK => ?_) AllReadyH.nil; go_simp; (go_at_call 147; refine (HDV.out _).mono ?_; rintro e w1 ⟨rfl, rfl⟩); (try go_wp2_with fail); refine hK.out _ _ ?_ (fun hHeld => ?_); (focus ((try dsimp only); (go_keep))); clear hK K; (try simp only [Act.put, p1_, p2_, p3_]))); ((refine tk_ (i := 15) (v := ?_) (y := Or.inl ⟨by rfl, ?_⟩) (h := ?_); rotate_left; (focus (((intro w hSw; (try dsimp only at hSw); go_simp) <;> (try with_reducible rfl)); done)); (try simp only [Act.put, p1_, p2_, p3_]))); ((refine tk_ (i := 16) (v := ?_) (y := Or.inl ⟨by rfl, ?_⟩) (h := ?_); rotate_left; (focus (((intro w hSw; (try dsimp only at hSw); go_simp) <;> (try with_reducible rfl)); done)); (try simp only [Act.put, p1_, p2_, p3_]))); ((refine tk_ (i := 17) (v := ?_) (y := Or.inl ⟨by rfl, ?_⟩) (h := ?_); rotate_left; (focus (((intro w hSw; (try dsimp only at hSw); go_simp) <;> (try with_reducible rfl)); done)); (try simp only [Act.put, p1_, p2_, p3_]))); ((refine tk_ (i := 18) (v := ?_) (y := Or.inl ⟨by rfl, ?_⟩) (h := ?_); rotate_left; (focus (((intro w hSw; (try dsimp only at hSw); go_simp) <;> (try with_reducible rfl)); done)); (try simp only [Act.put, p1_, p2_, p3_]))); ((refine tk_ (i := 19) (v := ?_) (y := Or.inl ⟨by rfl, ?_⟩) (h := ?_); rotate_left; (focus (((intro w hSw; (try dsimp only at hSw); go_simp) <;> (try with_reducible rfl)); done)); (try simp only [Act.put, p1_, p2_, p3_]))); ((refine tk_ (i := 20) (v := ?_) (y := Or.inl ⟨by rfl, ?_⟩) (h := ?_); rotate_left; (focus (((intro w hSw; (try dsimp only at hSw); go_simp) <;> (try with_reducible rfl)); done)); (try simp only [Act.put, p1_, p2_, p3_]))); ((refine tk_ (i := 21) (v := ?_) (y := Or.inl ⟨by rfl, ?_⟩) (h := ?_); rotate_left; (focus (((intro w hSw; (try dsimp only at hSw); go_simp) <;> (try with_reducible rfl)); done)); (try simp only [Act.put, p1_, p2_, p3_]))); (refine wpAnyH_done (by kernel_rfl) ?_ _))
                                    go_wp2_with fail
                                    refine (impl_add B0 b R C i p q.f q.g idF (-y) _ (by (first | ((with_reducible refine WB.wk (A := A1) (n := n1) (cap := cap1) (A2 := A2) (n2 := n2) (cap2 := cap2) (A3 := A3) (n3 := n3) (cap3 := cap3) ?_); (with_reducible (repeat (first | exact hW | refine WB.b_ ?_ | refine WB.drew ?_ | refine WB.drewN ?_ _ | refine WB.alloc ?_ _)))))) hlt h2 HIP.out ⟨hq1, hq2⟩ HQO.out.f HQO.out.g (by omega) hC hR).mono ?_
                                    rintro e w1 ⟨rfl, hb1, hres⟩
                                    (have hV_1 : HV w w1 R C A n cap := (by (with_reducible (repeat (first | exact hV | refine HV.below ?_ (by assumption) Ks | refine HV.drew ?_ | refine HV.drewN ?_ _))))); clear hV hW; clear ma mb mc mf ml c0 c1 c2 c3 c4 c5 c6 c7 c8 c9 cf cl hvl; (have hV := hV_1); clear hV_1
                                    rcases hres with ⟨hok, hK⟩ | ⟨hno, f, g, hK⟩
                                    · have HOK := Lib.hid hok
                                      have hK : WK w1 B0 b R C (q.add i p (-y)).f (q.add i p (-y)).g idF false := hK
                                      obtain ⟨A1, n1, cap1, A2, n2, cap2, A3, n3, cap3, hW⟩ := hK
                                      clear hok
                                      go_wp2_with fail
                                      go_roundg (gk - 1)
                                      case measure => omega
                                      case rel => exact ⟨i + 1, by go_num, by omega, by omega, by omega, by (with_reducible (repeat (first | exact hV | refine HV.below ?_ (by assumption) Ks | refine HV.drew ?_ | refine HV.drewN ?_ _))), .inl ⟨q.add i p (-y), HST.out.symm, ⟨HOK.out.1, HOK.out.2⟩, by (first | ((with_reducible refine WB.wk (A := A1) (n := n1) (cap := cap1) (A2 := A2) (n2 := n2) (cap2 := cap2) (A3 := A3) (n3 := n3) (cap3 := cap3) ?_); (with_reducible (repeat (first | exact hW | refine WB.b_ ?_ | refine WB.drew ?_ | refine WB.drewN ?_ _ | refine WB.alloc ?_ _)))))⟩⟩
                                    · have HNO := Lib.hid (HBAD.out hno)
                                      clear hno
                                      obtain ⟨A1, n1, cap1, A2, n2, cap2, A3, n3, cap3, hW⟩ := hK
                                      go_wp2_with fail
                                      go_roundg (gk - 1)
                                      case measure => omega
                                      case rel => exact ⟨i + 1, by go_num, by omega, by omega, by omega, by (with_reducible (repeat (first | exact hV | refine HV.below ?_ (by assumption) Ks | refine HV.drew ?_ | refine HV.drewN ?_ _))), .inr ⟨HNO.out, f, g, by (first | ((with_reducible refine WB.wk (A := A1) (n := n1) (cap := cap1) (A2 := A2) (n2 := n2) (cap2 := cap2) (A3 := A3) (n3 := n3) (cap3 := cap3) ?_); (with_reducible (repeat (first | exact hW | refine WB.b_ ?_ | refine WB.drew ?_ | refine WB.drewN ?_ _ | refine WB.alloc ?_ _)))))⟩⟩
                              · have hiR2 : i = R := by omega
                                rw [hiR2] at HQ
                                clear hiR2
                                go_wp2_with fail
                                go_meet
                                case rel => exact ⟨by (with_reducible (repeat (first | exact hV | refine HV.below ?_ (by assumption) Ks | refine HV.drew ?_ | refine HV.drewN ?_ _))), .inl ⟨q, HQ.out, HQO.out, by (first | ((with_reducible refine WB.wk (A := A1) (n := n1) (cap := cap1) (A2 := A2) (n2 := n2) (cap2 := cap2) (A3 := A3) (n3 := n3) (cap3 := cap3) ?_); (with_reducible (repeat (first | exact hW | refine WB.b_ ?_ | refine WB.drew ?_ | refine WB.drewN ?_ _ | refine WB.alloc ?_ _)))))⟩⟩
                            · have HNO := Lib.hid hno
                              clear hno
                              obtain ⟨A1, n1, cap1, A2, n2, cap2, A3, n3, cap3, hW⟩ := hK
                              obtain ⟨ma, mb, mc, mf, ml⟩ := hV.m.mx; obtain ⟨c0, c1, c2, c3, c4, c5, c6, c7, c8, c9, cf, cl⟩ := hW.cells; have hvl := hV.lt
                              by_cases hlt : i < R
                              · go_wp2_with fail
                                go_meet
                                case rel => exact ⟨by (with_reducible (repeat (first | exact hV | refine HV.below ?_ (by assumption) Ks | refine HV.drew ?_ | refine HV.drewN ?_ _))), .inr ⟨HNO.out, f, g, by (first | ((with_reducible refine WB.wk (A := A1) (n := n1) (cap := cap1) (A2 := A2) (n2 := n2) (cap2 := cap2) (A3 := A3) (n3 := n3) (cap3 := cap3) ?_); (with_reducible (repeat (first | exact hW | refine WB.b_ ?_ | refine WB.drew ?_ | refine WB.drewN ?_ _ | refine WB.alloc ?_ _)))))⟩⟩
                              · go_wp2_with fail
                                go_meet
                                case rel => exact ⟨by (with_reducible (repeat (first | exact hV | refine HV.below ?_ (by assumption) Ks | refine HV.drew ?_ | refine HV.drewN ?_ _))), .inr ⟨HNO.out, f, g, by (first | ((with_reducible refine WB.wk (A := A1) (n := n1) (cap := cap1) (A2 := A2) (n2 := n2) (cap2 := cap2) (A3 := A3) (n3 := n3) (cap3 := cap3) ?_); (with_reducible (repeat (first | exact hW | refine WB.b_ ?_ | refine WB.drew ?_ | refine WB.drewN ?_ _ | refine WB.alloc ?_ _)))))⟩⟩
                        case rest => as_aux_lemma =>
                          clear ma mb mc mf ml c0 c1 c2 c3 c4 c5 c6 c7 c8 c9 cf cl hvl
                          clear hV hW
                          obtain ⟨hV, hrel⟩ := hcut
                          rcases hrel with ⟨q, hq, hQ0, hK⟩ | ⟨hno, f, g, hK⟩
                          · obtain ⟨A1, n1, cap1, A2, n2, cap2, A3, n3, cap3, hW⟩ := hK
                            have hoks : (swS j p t s (R - t)).OK R C := hq ▸ hQ0
                            have hnx := hmIn_next (C := C) HG.out.nb hjC h2 h1 HP.out HO.out (sw_yes HG.out.nb hoks)
                            have hlt := hmMs_lt HG.out.nb hjC h2 h1 HP.out HO.out hoks
                            rw [← hq] at hnx hlt
                            have HGD : Hid (GD R C q) := Lib.hid ⟨hQ0, hq ▸ swS_nb HG.out.nb _⟩
                            have hqp : q.f p j = s.f p j := by rw [hq, swS_p]
                            have hcall2 : Hid (∀ w', WK w' B0 b R C q.f q.g idF false → Calls Try.prog 145 #[.pointer (some ⟨b, 0, none⟩), .int .i64 t, .int .i64 j] w' (BV (.int .i64 (lst R q.f j t)) w')) := Lib.hid (fun w' hk => impl_leastIn B0 b R C t j q.f q.g idF false w' hk ht hjC hQ0.f hC hR)
                            rcases lst_cases R q.f j t ht with ⟨e, hz⟩ | ⟨p2, e, k1, k2, k3⟩
                            · exact absurd (hz p h1 h2) (by rw [hqp]; exact HP.out)
                            · rw [e] at hcall2 hnx hlt
                              rw [Int.toNat_natCast] at hnx hlt
                              have HN : Hid (hmGo R C (C - (j + 1)) j t (hmIn R C j t q p2) = X) := Lib.hid (by rw [← hnx]; exact HGO.out)
                              have HL := Lib.hid hlt
                              have HK3 := Lib.hid k3
                              clear hnx hlt hqp hoks hq hQ0 e k3 HGO HO
                              obtain ⟨ma, mb, mc, mf, ml⟩ := hV.m.mx; obtain ⟨c0, c1, c2, c3, c4, c5, c6, c7, c8, c9, cf, cl⟩ := hW.cells; have hvl := hV.lt
                              go_wp2_with fail
                              refine (hcall2.out _ (by (first | ((with_reducible refine WB.wk (A := A1) (n := n1) (cap := cap1) (A2 := A2) (n2 := n2) (cap2 := cap2) (A3 := A3) (n3 := n3) (cap3 := cap3) ?_); (with_reducible (repeat (first | exact hW | refine WB.b_ ?_ | refine WB.drew ?_ | refine WB.drewN ?_ _ | refine WB.alloc ?_ _))))))).mono ?_
                              rintro e w1 ⟨rfl, hb1⟩
                              (have hV_1 : HV w w1 R C A n cap := (by (with_reducible (repeat (first | exact hV | refine HV.below ?_ (by assumption) Ks | refine HV.drew ?_ | refine HV.drewN ?_ _))))); (have hW_1 : WB w1 B0 b R C q.f q.g idF false A1 n1 cap1 A2 n2 cap2 A3 n3 cap3 := (by (with_reducible (repeat (first | exact hW | refine WB.b_ ?_ | refine WB.drew ?_ | refine WB.drewN ?_ _ | refine WB.alloc ?_ _))))); clear hV hW hb1; clear ma mb mc mf ml c0 c1 c2 c3 c4 c5 c6 c7 c8 c9 cf cl hvl; (have hV := hV_1); (have hW := hW_1); clear hV_1 hW_1; obtain ⟨ma, mb, mc, mf, ml⟩ := hV.m.mx; obtain ⟨c0, c1, c2, c3, c4, c5, c6, c7, c8, c9, cf, cl⟩ := hW.cells; have hvl := hV.lt
                              go_wp2_with fail
                              go_roundg (gk - 1)
                              case measure => have := HK.out; omega
                              case rel => exact ⟨by (with_reducible (repeat (first | exact hV | refine HV.below ?_ (by assumption) Ks | refine HV.drew ?_ | refine HV.drewN ?_ _))), .inl ⟨q, p2, rfl, HGD.out, k1, k2, HK3.out, HN.out, by have := HK.out; have := HL.out; omega, by (first | ((with_reducible refine WB.wk (A := A1) (n := n1) (cap := cap1) (A2 := A2) (n2 := n2) (cap2 := cap2) (A3 := A3) (n3 := n3) (cap3 := cap3) ?_); (with_reducible (repeat (first | exact hW | refine WB.b_ ?_ | refine WB.drew ?_ | refine WB.drewN ?_ _ | refine WB.alloc ?_ _)))))⟩⟩
                          · have HX0 : Hid (X = none) := Lib.hid (by rw [← HGO.out, hmIn_bad HO.out (sw_no HG.out.nb (Nat.le_refl _) hno)]; rfl)
                            clear hno HGO HO
                            obtain ⟨A1, n1, cap1, A2, n2, cap2, A3, n3, cap3, hW⟩ := hK
                            obtain ⟨ma, mb, mc, mf, ml⟩ := hV.m.mx; obtain ⟨c0, c1, c2, c3, c4, c5, c6, c7, c8, c9, cf, cl⟩ := hW.cells; have hvl := hV.lt
                            go_wp2_with fail
                            go_roundg (gk - 1)
                            case measure => have := HK.out; omega
                            case rel => exact ⟨by (with_reducible (repeat (first | exact hV | refine HV.below ?_ (by assumption) Ks | refine HV.drew ?_ | refine HV.drewN ?_ _))), .inr ⟨HX0.out, f, g, by (first | ((with_reducible refine WB.wk (A := A1) (n := n1) (cap := cap1) (A2 := A2) (n2 := n2) (cap2 := cap2) (A3 := A3) (n3 := n3) (cap3 := cap3) ?_); (with_reducible (repeat (first | exact hW | refine WB.b_ ?_ | refine WB.drew ?_ | refine WB.drewN ?_ _ | refine WB.alloc ?_ _)))))⟩⟩
                    · have HXn := Lib.hid hXn
                      clear hXn
                      obtain ⟨A1, n1, cap1, A2, n2, cap2, A3, n3, cap3, hW⟩ := hK
                      obtain ⟨ma, mb, mc, mf, ml⟩ := hV.m.mx; obtain ⟨c0, c1, c2, c3, c4, c5, c6, c7, c8, c9, cf, cl⟩ := hW.cells; have hvl := hV.lt
                      go_wp2_with fail
                      go_meet
                      case rel => exact ⟨by (with_reducible (repeat (first | exact hV | refine HV.below ?_ (by assumption) Ks | refine HV.drew ?_ | refine HV.drewN ?_ _))), .inr ⟨HXn.out, f, g, by (first | ((with_reducible refine WB.wk (A := A1) (n := n1) (cap := cap1) (A2 := A2) (n2 := n2) (cap2 := cap2) (A3 := A3) (n3 := n3) (cap3 := cap3) ?_); (with_reducible (repeat (first | exact hW | refine WB.b_ ?_ | refine WB.drew ?_ | refine WB.drewN ?_ _ | refine WB.alloc ?_ _)))))⟩⟩
                case rest => as_aux_lemma =>
                  clear ma mb mc mf ml c0 c1 c2 c3 c4 c5 c6 c7 c8 c9 cf cl hvl
                  clear hV hW HG HP HJ2 h1 h2
                  obtain ⟨hV, hrel⟩ := hcut
                  rcases hrel with ⟨s, p, rfl, hG0, h2, h3, hgo, hK⟩ | ⟨hXn, f, g, hK⟩
                  · obtain ⟨A1, n1, cap1, A2, n2, cap2, A3, n3, cap3, hW⟩ := hK
                    have HG := Lib.hid hG0
                    have HP := Lib.hid h3
                    have HGO := Lib.hid hgo
                    clear hG0 h3 hgo
                    obtain ⟨ma, mb, mc, mf, ml⟩ := hV.m.mx; obtain ⟨c0, c1, c2, c3, c4, c5, c6, c7, c8, c9, cf, cl⟩ := hW.cells; have hvl := hV.lt
                    go_upto_if 128 with fail
                    go_cut [] from 24 to 185 (fun wc => HV w wc R C A n cap ∧ ∃ q, q = hmS1 t p s ∧ WK wc B0 b R C q.f q.g idF false)
                    case first => as_aux_lemma =>
                      by_cases hpt : p = t
                      · have hbne : ((p : Int) != (t : Int)) = false := by simp [hpt]
                        have HE : Hid (s = hmS1 t p s) := Lib.hid (by unfold hmS1; rw [if_pos hpt])
                        clear hpt
                        go_wp2_with fail
                        go_meet
                        case rel => exact ⟨by (with_reducible (repeat (first | exact hV | refine HV.below ?_ (by assumption) Ks | refine HV.drew ?_ | refine HV.drewN ?_ _))), s, HE.out, by (first | ((with_reducible refine WB.wk (A := A1) (n := n1) (cap := cap1) (A2 := A2) (n2 := n2) (cap2 := cap2) (A3 := A3) (n3 := n3) (cap3 := cap3) ?_); (with_reducible (repeat (first | exact hW | refine WB.b_ ?_ | refine WB.drew ?_ | refine WB.drewN ?_ _ | refine WB.alloc ?_ _)))))⟩
                      · have hbne : ((p : Int) != (t : Int)) = true := by simp; omega
                        have HE : Hid (s.swap p t = hmS1 t p s) := Lib.hid (by unfold hmS1; rw [if_neg hpt])
                        have HPT := Lib.hid hpt
                        clear hpt
                        go_wp2_with fail
                        refine (impl_rows_swap B0 b R C p t s.f s.g idF _ (by (first | ((with_reducible refine WB.wk (A := A1) (n := n1) (cap := cap1) (A2 := A2) (n2 := n2) (cap2 := cap2) (A3 := A3) (n3 := n3) (cap3 := cap3) ?_); (with_reducible (repeat (first | exact hW | refine WB.b_ ?_ | refine WB.drew ?_ | refine WB.drewN ?_ _ | refine WB.alloc ?_ _)))))) h2 htR HPT.out (by omega) hC hR).mono ?_
                        rintro e w1 ⟨rfl, hb1, hK⟩
                        have hK : WK w1 B0 b R C (s.swap p t).f (s.swap p t).g idF false := hK
                        (have hV_1 : HV w w1 R C A n cap := (by (with_reducible (repeat (first | exact hV | refine HV.below ?_ (by assumption) Ks | refine HV.drew ?_ | refine HV.drewN ?_ _))))); clear hV hW; clear ma mb mc mf ml c0 c1 c2 c3 c4 c5 c6 c7 c8 c9 cf cl hvl; (have hV := hV_1); clear hV_1
                        obtain ⟨A1, n1, cap1, A2, n2, cap2, A3, n3, cap3, hW⟩ := hK
                        go_wp2_with fail
                        go_meet
                        case rel => exact ⟨by (with_reducible (repeat (first | exact hV | refine HV.below ?_ (by assumption) Ks | refine HV.drew ?_ | refine HV.drewN ?_ _))), s.swap p t, HE.out, by (first | ((with_reducible refine WB.wk (A := A1) (n := n1) (cap := cap1) (A2 := A2) (n2 := n2) (cap2 := cap2) (A3 := A3) (n3 := n3) (cap3 := cap3) ?_); (with_reducible (repeat (first | exact hW | refine WB.b_ ?_ | refine WB.drew ?_ | refine WB.drewN ?_ _ | refine WB.alloc ?_ _)))))⟩
                    case rest => as_aux_lemma =>
                      clear ma mb mc mf ml c0 c1 c2 c3 c4 c5 c6 c7 c8 c9 cf cl hvl
                      clear hV hW
                      obtain ⟨hV, s1, hs1, hK⟩ := hcut
                      obtain ⟨A1, n1, cap1, A2, n2, cap2, A3, n3, cap3, hW⟩ := hK
                      have hg1 : GD R C s1 := hs1 ▸ HG.out.s1 h2 htR
                      have hpv : s1.f t j ≠ 0 := by rw [hs1, hmS1_piv]; exact HP.out
                      have hzn := hg1.ok.f t j htR hjC
                      have HS1 := Lib.hid hs1
                      have HG1 := Lib.hid hg1
                      have HPV := Lib.hid hpv
                      have HZN := Lib.hid hzn
                      clear hs1 hg1 hpv
                      generalize hz : s1.f t j = z at hzn
                      have HZ := Lib.hid hz
                      clear hz
                      obtain ⟨ma, mb, mc, mf, ml⟩ := hV.m.mx; obtain ⟨c0, c1, c2, c3, c4, c5, c6, c7, c8, c9, cf, cl⟩ := hW.cells; have hvl := hV.lt
                      go_wp2_with fail
                      refine (impl_at_tb R C t j A1 n1 cap1 s1.f z HZ.out _ (B := B0) (by have hm := hW.m; (with_reducible (repeat (first | exact hm | refine OR.drew ?_ | refine OR.drewN ?_ _ | refine OR.alloc ?_ _ | refine OR.b_ ?_ | refine OR.l_ ?_)))) (by omega) (by omega) (by omega) (by omega)).mono ?_
                      rintro e w1 ⟨rfl, hb1⟩
                      (have hV_1 : HV w w1 R C A n cap := (by (with_reducible (repeat (first | exact hV | refine HV.below ?_ (by assumption) Ks | refine HV.drew ?_ | refine HV.drewN ?_ _))))); (have hW_1 : WB w1 B0 b R C s1.f s1.g idF false A1 n1 cap1 A2 n2 cap2 A3 n3 cap3 := (by (with_reducible (repeat (first | exact hW | refine WB.b_ ?_ | refine WB.drew ?_ | refine WB.drewN ?_ _ | refine WB.alloc ?_ _))))); clear hV hW hb1; clear ma mb mc mf ml c0 c1 c2 c3 c4 c5 c6 c7 c8 c9 cf cl hvl; (have hV := hV_1); (have hW := hW_1); clear hV_1 hW_1; obtain ⟨ma, mb, mc, mf, ml⟩ := hV.m.mx; obtain ⟨c0, c1, c2, c3, c4, c5, c6, c7, c8, c9, cf, cl⟩ := hW.cells; have hvl := hV.lt
                      go_upto_if 141 with fail
                      go_cut [] from 24 to 185 (fun wc => HV w wc R C A n cap ∧ ∃ q, q = hmS2 j t s1 ∧ WK wc B0 b R C q.f q.g idF false)
                      case first => as_aux_lemma =>
                        by_cases hz0 : z < 0
                        · have HE : Hid (s1.neg t = hmS2 j t s1) := Lib.hid (by unfold hmS2; rw [if_pos (by rw [HZ.out]; exact hz0)])
                          go_wp2_with fail
                          refine (impl_rows_neg B0 b R C t s1.f s1.g idF _ (by (first | ((with_reducible refine WB.wk (A := A1) (n := n1) (cap := cap1) (A2 := A2) (n2 := n2) (cap2 := cap2) (A3 := A3) (n3 := n3) (cap3 := cap3) ?_); (with_reducible (repeat (first | exact hW | refine WB.b_ ?_ | refine WB.drew ?_ | refine WB.drewN ?_ _ | refine WB.alloc ?_ _)))))) htR HG1.out.ok.f HG1.out.ok.g (by omega) hC hR).mono ?_
                          rintro e w1 ⟨rfl, hb1, hK⟩
                          have hK : WK w1 B0 b R C (s1.neg t).f (s1.neg t).g idF false := hK.as (opM_eq HG1.out.ok.f t htR) (opM_eq HG1.out.ok.g t htR)
                          (have hV_1 : HV w w1 R C A n cap := (by (with_reducible (repeat (first | exact hV | refine HV.below ?_ (by assumption) Ks | refine HV.drew ?_ | refine HV.drewN ?_ _))))); clear hV hW; clear ma mb mc mf ml c0 c1 c2 c3 c4 c5 c6 c7 c8 c9 cf cl hvl; (have hV := hV_1); clear hV_1
                          obtain ⟨A1, n1, cap1, A2, n2, cap2, A3, n3, cap3, hW⟩ := hK
                          go_wp2_with fail
                          go_meet
                          case rel => exact ⟨by (with_reducible (repeat (first | exact hV | refine HV.below ?_ (by assumption) Ks | refine HV.drew ?_ | refine HV.drewN ?_ _))), s1.neg t, HE.out, by (first | ((with_reducible refine WB.wk (A := A1) (n := n1) (cap := cap1) (A2 := A2) (n2 := n2) (cap2 := cap2) (A3 := A3) (n3 := n3) (cap3 := cap3) ?_); (with_reducible (repeat (first | exact hW | refine WB.b_ ?_ | refine WB.drew ?_ | refine WB.drewN ?_ _ | refine WB.alloc ?_ _)))))⟩
                        · have HE : Hid (s1 = hmS2 j t s1) := Lib.hid (by unfold hmS2; rw [if_neg (by rw [HZ.out]; exact hz0)])
                          go_wp2_with fail
                          go_meet
                          case rel => exact ⟨by (with_reducible (repeat (first | exact hV | refine HV.below ?_ (by assumption) Ks | refine HV.drew ?_ | refine HV.drewN ?_ _))), s1, HE.out, by (first | ((with_reducible refine WB.wk (A := A1) (n := n1) (cap := cap1) (A2 := A2) (n2 := n2) (cap2 := cap2) (A3 := A3) (n3 := n3) (cap3 := cap3) ?_); (with_reducible (repeat (first | exact hW | refine WB.b_ ?_ | refine WB.drew ?_ | refine WB.drewN ?_ _ | refine WB.alloc ?_ _)))))⟩
                      case rest => as_aux_lemma =>
                        clear ma mb mc mf ml c0 c1 c2 c3 c4 c5 c6 c7 c8 c9 cf cl hvl
                        clear hV hW
                        obtain ⟨hV, s2, hs2, hK⟩ := hcut
                        obtain ⟨A1, n1, cap1, A2, n2, cap2, A3, n3, cap3, hW⟩ := hK
                        have hg2 : GD R C s2 := hs2 ▸ HG1.out.s2 htR
                        have hp2 : s2.f t j ≠ 0 := by rw [hs2]; exact hmS2_piv HZN.out HPV.out
                        have HFG : Hid (GD R C (hmS2 j t (hmS1 t p s))) := Lib.hid (by rw [← HS1.out, ← hs2]; exact hg2)
                        have HFE : Hid (s2 = hmS2 j t (hmS1 t p s)) := Lib.hid (by rw [← HS1.out]; exact hs2)
                        have HG2 := Lib.hid hg2
                        have HP2 := Lib.hid hp2
                        clear hs2 hg2 hp2 HZN HPV HZ hzn HS1 HG1
                        obtain ⟨ma, mb, mc, mf, ml⟩ := hV.m.mx; obtain ⟨c0, c1, c2, c3, c4, c5, c6, c7, c8, c9, cf, cl⟩ := hW.cells; have hvl := hV.lt
                        go_upto_block 6 with fail
                        go_cut [] from 24 to 185 (fun wc => HV w wc R C A n cap ∧ ((∃ q, q = abS j t s2 t ∧ q.OK R C ∧ WK wc B0 b R C q.f q.g idF false) ∨ (¬ (abS j t s2 t).OK R C ∧ ∃ f g, WK wc B0 b R C f g idF true)))
                        case first => as_aux_lemma =>
                          go_wp2_with fail
                          go_loopg [13] (t + 1) (fun k vi wr => ∃ (i : Nat), vi = .int .i64 i ∧ i ≤ t ∧ t - i < k ∧ HV w wr R C A n cap ∧ ((∃ q, q = abS j t s2 i ∧ q.OK R C ∧ WK wr B0 b R C q.f q.g idF false) ∨ (¬ (abS j t s2 t).OK R C ∧ ∃ f g, WK wr B0 b R C f g idF true)))
                          case atStart => exact ⟨0, rfl, Nat.zero_le _, by omega, by (with_reducible (repeat (first | exact hV | refine HV.below ?_ (by assumption) Ks | refine HV.drew ?_ | refine HV.drewN ?_ _))), .inl ⟨s2, rfl, HG2.out.ok, by (first | ((with_reducible refine WB.wk (A := A1) (n := n1) (cap := cap1) (A2 := A2) (n2 := n2) (cap2 := cap2) (A3 := A3) (n3 := n3) (cap3 := cap3) ?_); (with_reducible (repeat (first | exact hW | refine WB.b_ ?_ | refine WB.drew ?_ | refine WB.drewN ?_ _ | refine WB.alloc ?_ _)))))⟩⟩
                          case round => as_aux_lemma =>
                            clear ma mb mc mf ml c0 c1 c2 c3 c4 c5 c6 c7 c8 c9 cf cl hvl
                            clear hV hW
                            obtain ⟨i, rfl, hit, hk3, hV, hrel⟩ := hrel
                            rcases hrel with ⟨q, hq, hQ0, hK⟩ | ⟨hno, f, g, hK⟩
                            · obtain ⟨A1, n1, cap1, A2, n2, cap2, A3, n3, cap3, hW⟩ := hK
                              have HQ := Lib.hid hq
                              have HQO := Lib.hid hQ0
                              clear hq hQ0
                              obtain ⟨ma, mb, mc, mf, ml⟩ := hV.m.mx; obtain ⟨c0, c1, c2, c3, c4, c5, c6, c7, c8, c9, cf, cl⟩ := hW.cells; have hvl := hV.lt
                              by_cases hlt : i < t
                              · have hzn : Num (s2.f i j) := HG2.out.ok.f i j (by omega) hjC
                                have hdn : Num (s2.f t j) := HG2.out.ok.f t j htR hjC
                                have hqi : q.f i j = s2.f i j := by rw [HQ.out, abS_late j _ (Nat.le_refl _)]
                                have hqp : q.f t j = s2.f t j := by rw [HQ.out, abS_late j _ (by omega)]
                                have HST : Hid (abS j t s2 (i + 1) = q.add i t (-(s2.f i j / s2.f t j))) := Lib.hid (by rw [ab_add hlt, ← HQ.out])
                                have hqn := (ediv_bd hzn HP2.out).neg
                                have HDV : Hid (∀ w', Calls Try.prog 147 #[.int .i64 (s2.f i j), .int .i64 (s2.f t j)] w' (IIE (s2.f i j / s2.f t j) (s2.f i j % s2.f t j) true w')) := Lib.hid (fun w' => impl_DivideFloor (s2.f i j) (s2.f t j) w' hzn hdn HP2.out)
                                have HBAD : Hid (¬ okA R C q.f q.g i t (-(s2.f i j / s2.f t j)) → ¬ (abS j t s2 t).OK R C) := Lib.hid (fun hn hk => hn (by
                                  have h5 : (abS j t s2 (i + 1)).OK R C := abS_back' HG2.out.nb (i + 1) (t - (i + 1)) (by rw [show i + 1 + (t - (i + 1)) = t by omega]; exact hk)
                                  rw [HST.out] at h5
                                  exact ⟨h5.f, h5.g⟩))
                                have HQI := Lib.hid hqi
                                have HQP := Lib.hid hqp
                                clear hqi hqp hzn hdn
                                generalize s2.f i j / s2.f t j = y at *
                                generalize s2.f i j % s2.f t j = y2 at *
                                generalize s2.f i j = z at *
                                generalize hd1 : s2.f t j = d at HQP HDV
                                clear hd1
                                obtain ⟨hq1, hq2⟩ := hqn
                                go_wp2_with fail
                                ((refine wp_region_held_drew (S := (fun w' => w'.cell? ⟨b, 0, none⟩ = some (.int .i64 R) ∧ w'.cell? ⟨b, 1, none⟩ = some (.int .i64 C) ∧ w'.cell? ⟨b, 2, none⟩ = some (.slice A1 n1 cap1))) (by kernel_rfl) ?_ (fun hHeld => ?_)); ((focus ((try dsimp only); (go_keep)))); ((refine tk_ (i := 0) (v := ?_) (y := Or.inl ⟨by rfl, ?_⟩) (h := ?_); rotate_left; (focus (((intro w hSw; (try dsimp only at hSw); go_simp) <;> (try with_reducible rfl)); done)); (try simp only [Act.put, p1_, p2_, p3_]))); ((refine tk_ (i := 1) (v := ?_) (y := Or.inl ⟨by rfl, ?_⟩) (h := ?_); rotate_left; (focus (((intro w hSw; (try dsimp only at hSw); go_simp) <;> (try with_reducible rfl)); done)); (try simp only [Act.put, p1_, p2_, p3_]))); ((refine tk_ (i := 2) (v := ?_) (y := Or.inl ⟨by rfl, ?_⟩) (h := ?_); rotate_left; (focus (((intro w hSw; (try dsimp only at hSw); go_simp) <;> (try with_reducible rfl)); done)); (try simp only [Act.put, p1_, p2_, p3_]))); ((refine tk_ (i := 3) (v := ?_) (y := Or.inl ⟨by rfl, ?_⟩) (h := ?_); rotate_left; (focus (((intro w hSw; (try dsimp only at hSw); go_simp) <;> (try with_reducible rfl)); done)); (try simp only [Act.put, p1_, p2_, p3_]))); ((refine tk_ (i := 4) (v := ?_) (y := Or.inl ⟨by rfl, ?_⟩) (h := ?_); rotate_left; (focus (((intro w hSw; (try dsimp only at hSw); go_simp) <;> (try with_reducible rfl)); done)); (try simp only [Act.put, p1_, p2_, p3_]))); ((refine tk_ (i := 5) (v := ?_) (y := Or.inl ⟨by rfl, ?_⟩) (h := ?_); rotate_left; (focus (((intro w hSw; (try dsimp only at hSw); go_simp) <;> (try with_reducible rfl)); done)); (try simp only [Act.put, p1_, p2_, p3_]))); ((refine tk_ (i := 7) (v := ?_) (y := Or.inl ⟨by rfl, ?_⟩) (h := ?_); rotate_left; (focus (((intro w hSw; (try dsimp only at hSw); go_simp) <;> (try with_reducible rfl)); done)); (try simp only [Act.put, p1_, p2_, p3_]))); ((refine tk_ (i := 8) (v := ?_) (y := Or.inl ⟨by rfl, ?_⟩) (h := ?_); rotate_left; (focus (((intro w hSw; (try dsimp only at hSw); go_simp) <;> (try with_reducible rfl)); done)); (try simp only [Act.put, p1_, p2_, p3_]))); ((refine tk_ (i := 9) (v := ?_) (y := Or.inl ⟨by rfl, ?_⟩) (h := ?_); rotate_left; (focus (((intro w hSw; (try dsimp only at hSw); go_simp) <;> (try with_reducible rfl)); done)); (try simp only [Act.put, p1_, p2_, p3_]))); ((refine tk_ (i := 10) (v := ?_) (y := Or.inl ⟨by rfl, ?_⟩) (h := ?_); rotate_left; (focus (((intro w hSw; (try dsimp only at hSw); go_simp) <;> (try with_reducible rfl)); done)); (try simp only [Act.put, p1_, p2_, p3_]))); ((refine tk_ (i := 11) (v := ?_) (y := Or.inl ⟨by rfl, ?_⟩) (h := ?_); rotate_left; (focus (((intro w hSw; (try dsimp only at hSw); go_simp) <;> (try with_reducible rfl)); done)); (try simp only [Act.put, p1_, p2_, p3_]))); ((refine tk_ (i := 12) (v := ?_) (y := Or.inl ⟨by rfl, ?_⟩) (h := ?_); rotate_left; (focus (((intro w hSw; (try dsimp only at hSw); go_simp) <;> (try with_reducible rfl)); done)); (try simp only [Act.put, p1_, p2_, p3_]))); ((refine wpAnyH_ready (rs := [6]) (by kernel_rfl) (by simp) ?_; refine AllReadyH.cons (by simp only [e1_, e2_, e3_]; try rfl) (fun K hK => ?_) AllReadyH.nil; go_simp; (go_at_call 117; refine (impl_at_tb R C i j A1 n1 cap1 q.f z HQI.out _ (B := B0) (by have hm := hW.m; (with_reducible (repeat (first | exact hm | refine OR.drew ?_ | refine OR.drewN ?_ _ | refine OR.alloc ?_ _ | refine OR.b_ ?_ | refine OR.l_ ?_)))) (by omega) (by omega) (by omega) (by omega)).mono ?_; rintro e w1 ⟨rfl, hb1⟩; (have hV_1 : HV w w1 R C A n cap := (by (with_reducible (repeat (first | exact hV | refine HV.below ?_ (by assumption) Ks | refine HV.drew ?_ | refine HV.drewN ?_ _))))); (have hW_1 : WB w1 B0 b R C q.f q.g idF false A1 n1 cap1 A2 n2 cap2 A3 n3 cap3 := (by (with_reducible (repeat (first | exact hW | refine WB.b_ ?_ | refine WB.drew ?_ | refine WB.drewN ?_ _ | refine WB.alloc ?_ _))))); clear hV hW hb1; clear ma mb mc mf ml c0 c1 c2 c3 c4 c5 c6 c7 c8 c9 cf cl hvl; (have hV := hV_1); (have hW := hW_1); clear hV_1 hW_1; obtain ⟨ma, mb, mc, mf, ml⟩ := hV.m.mx; obtain ⟨c0, c1, c2, c3, c4, c5, c6, c7, c8, c9, cf, cl⟩ := hW.cells; have hvl := hV.lt); (try go_wp2_with fail); refine hK.out _ _ ?_ (fun hHeld => ?_); (focus ((try dsimp only); (go_keep))); clear hK K; (try simp only [Act.put, p1_, p2_, p3_]))); ((refine wpAnyH_ready (rs := [13]) (by kernel_rfl) (by simp) ?_; refine AllReadyH.cons (by simp only [e1_, e2_, e3_]; try rfl) (fun K hK => ?_) AllReadyH.nil; go_simp; (go_at_call 117; refine (impl_at_tb R C t j A1 n1 cap1 q.f d HQP.out _ (B := B0) (by have hm := hW.m; (with_reducible (repeat (first | exact hm | refine OR.drew ?_ | refine OR.drewN ?_ _ | refine OR.alloc ?_ _ | refine OR.b_ ?_ | refine OR.l_ ?_)))) (by omega) (by omega) (by omega) (by omega)).mono ?_; rintro e w1 ⟨rfl, hb1⟩; (have hV_1 : HV w w1 R C A n cap := (by (with_reducible (repeat (first | exact hV | refine HV.below ?_ (by assumption) Ks | refine HV.drew ?_ | refine HV.drewN ?_ _))))); (have hW_1 : WB w1 B0 b R C q.f q.g idF false A1 n1 cap1 A2 n2 cap2 A3 n3 cap3 := (by (with_reducible (repeat (first | exact hW | refine WB.b_ ?_ | refine WB.drew ?_ | refine WB.drewN ?_ _ | refine WB.alloc ?_ _))))); clear hV hW hb1; clear ma mb mc mf ml c0 c1 c2 c3 c4 c5 c6 c7 c8 c9 cf cl hvl; (have hV := hV_1); (have hW := hW_1); clear hV_1 hW_1; obtain ⟨ma, mb, mc, mf, ml⟩ := hV.m.mx; obtain ⟨c0, c1, c2, c3, c4, c5, c6, c7, c8, c9, cf, cl⟩ := hW.cells; have hvl := hV.lt); (try go_wp2_with fail); refine hK.out _ _ ?_ (fun hHeld => ?_); (focus ((try dsimp only); (go_keep))); clear hK K; (try simp only [Act.put, p1_, p2_, p3_]))); ((refine wpAnyH_ready (rs := [14]) (by kernel_rfl) (by simp) ?_; refine AllReadyH.cons (by simp only [e1_, e2_, e3_]; try rfl) (fun K hK => ?_) AllReadyH.nil; go_simp; (go_at_call 147; refine (HDV.out _).mono ?_; rintro e w1 ⟨rfl, rfl⟩); (try go_wp2_with fail); refine hK.out _ _ ?_ (fun hHeld => ?_); (focus ((try dsimp only); (go_keep))); clear hK K; (try simp only [Act.put, p1_, p2_, p3_]))); ((refine tk_ (i := 15) (v := ?_) (y := Or.inl ⟨by rfl, ?_⟩) (h := ?_); rotate_left; (focus (((intro w hSw; (try dsimp only at hSw); go_simp) <;> (try with_reducible rfl)); done)); (try simp only [Act.put, p1_, p2_, p3_]))); ((refine tk_ (i := 16) (v := ?_) (y := Or.inl ⟨by rfl, ?_⟩) (h := ?_); rotate_left; (focus (((intro w hSw; (try dsimp only at hSw); go_simp) <;> (try with_reducible rfl)); done)); (try simp only [Act.put, p1_, p2_, p3_]))); ((refine tk_ (i := 17) (v := ?_) (y := Or.inl ⟨by rfl, ?_⟩) (h := ?_); rotate_left; (focus (((intro w hSw; (try dsimp only at hSw); go_simp) <;> (try with_reducible rfl)); done)); (try simp only [Act.put, p1_, p2_, p3_]))); ((refine tk_ (i := 18) (v := ?_) (y := Or.inl ⟨by rfl, ?_⟩) (h := ?_); rotate_left; (focus (((intro w hSw; (try dsimp only at hSw); go_simp) <;> (try with_reducible rfl)); done)); (try simp only [Act.put, p1_, p2_, p3_]))); ((refine tk_ (i := 19) (v := ?_) (y := Or.inl ⟨by rfl, ?_⟩) (h := ?_); rotate_left; (focus (((intro w hSw; (try dsimp only at hSw); go_simp) <;> (try with_reducible rfl)); done)); (try simp only [Act.put, p1_, p2_, p3_]))); ((refine tk_ (i := 20) (v := ?_) (y := Or.inl ⟨by rfl, ?_⟩) (h := ?_); rotate_left; (focus (((intro w hSw; (try dsimp only at hSw); go_simp) <;> (try with_reducible rfl)); done)); (try simp only [Act.put, p1_, p2_, p3_]))); ((refine tk_ (i := 21) (v := ?_) (y := Or.inl ⟨by rfl, ?_⟩) (h := ?_); rotate_left; (focus (((intro w hSw; (try dsimp only at hSw); go_simp) <;> (try with_reducible rfl)); done)); (try simp only [Act.put, p1_, p2_, p3_]))); (refine wpAnyH_done (by kernel_rfl) ?_ _))
                                go_wp2_with fail
                                refine (impl_add B0 b R C i t q.f q.g idF (-y) _ (by (first | ((with_reducible refine WB.wk (A := A1) (n := n1) (cap := cap1) (A2 := A2) (n2 := n2) (cap2 := cap2) (A3 := A3) (n3 := n3) (cap3 := cap3) ?_); (with_reducible (repeat (first | exact hW | refine WB.b_ ?_ | refine WB.drew ?_ | refine WB.drewN ?_ _ | refine WB.alloc ?_ _)))))) (by omega) htR (by omega) ⟨hq1, hq2⟩ HQO.out.f HQO.out.g (by omega) hC hR).mono ?_
                                rintro e w1 ⟨rfl, hb1, hres⟩
                                (have hV_1 : HV w w1 R C A n cap := (by (with_reducible (repeat (first | exact hV | refine HV.below ?_ (by assumption) Ks | refine HV.drew ?_ | refine HV.drewN ?_ _))))); clear hV hW; clear ma mb mc mf ml c0 c1 c2 c3 c4 c5 c6 c7 c8 c9 cf cl hvl; (have hV := hV_1); clear hV_1
                                rcases hres with ⟨hok, hK⟩ | ⟨hno, f, g, hK⟩
                                · have HOK := Lib.hid hok
                                  have hK : WK w1 B0 b R C (q.add i t (-y)).f (q.add i t (-y)).g idF false := hK
                                  obtain ⟨A1, n1, cap1, A2, n2, cap2, A3, n3, cap3, hW⟩ := hK
                                  clear hok
                                  go_wp2_with fail
                                  go_roundg (gk - 1)
                                  case measure => omega
                                  case rel => exact ⟨i + 1, by go_num, by omega, by omega, by (with_reducible (repeat (first | exact hV | refine HV.below ?_ (by assumption) Ks | refine HV.drew ?_ | refine HV.drewN ?_ _))), .inl ⟨q.add i t (-y), HST.out.symm, ⟨HOK.out.1, HOK.out.2⟩, by (first | ((with_reducible refine WB.wk (A := A1) (n := n1) (cap := cap1) (A2 := A2) (n2 := n2) (cap2 := cap2) (A3 := A3) (n3 := n3) (cap3 := cap3) ?_); (with_reducible (repeat (first | exact hW | refine WB.b_ ?_ | refine WB.drew ?_ | refine WB.drewN ?_ _ | refine WB.alloc ?_ _)))))⟩⟩
                                · have HNO := Lib.hid (HBAD.out hno)
                                  clear hno
                                  obtain ⟨A1, n1, cap1, A2, n2, cap2, A3, n3, cap3, hW⟩ := hK
                                  go_wp2_with fail
                                  go_roundg (gk - 1)
                                  case measure => omega
                                  case rel => exact ⟨i + 1, by go_num, by omega, by omega, by (with_reducible (repeat (first | exact hV | refine HV.below ?_ (by assumption) Ks | refine HV.drew ?_ | refine HV.drewN ?_ _))), .inr ⟨HNO.out, f, g, by (first | ((with_reducible refine WB.wk (A := A1) (n := n1) (cap := cap1) (A2 := A2) (n2 := n2) (cap2 := cap2) (A3 := A3) (n3 := n3) (cap3 := cap3) ?_); (with_reducible (repeat (first | exact hW | refine WB.b_ ?_ | refine WB.drew ?_ | refine WB.drewN ?_ _ | refine WB.alloc ?_ _)))))⟩⟩
                              · have hit2 : i = t := by omega
                                rw [hit2] at HQ
                                clear hit2
                                go_wp2_with fail
                                go_meet
                                case rel => exact ⟨by (with_reducible (repeat (first | exact hV | refine HV.below ?_ (by assumption) Ks | refine HV.drew ?_ | refine HV.drewN ?_ _))), .inl ⟨q, HQ.out, HQO.out, by (first | ((with_reducible refine WB.wk (A := A1) (n := n1) (cap := cap1) (A2 := A2) (n2 := n2) (cap2 := cap2) (A3 := A3) (n3 := n3) (cap3 := cap3) ?_); (with_reducible (repeat (first | exact hW | refine WB.b_ ?_ | refine WB.drew ?_ | refine WB.drewN ?_ _ | refine WB.alloc ?_ _)))))⟩⟩
                            · have HNO := Lib.hid hno
                              clear hno
                              obtain ⟨A1, n1, cap1, A2, n2, cap2, A3, n3, cap3, hW⟩ := hK
                              obtain ⟨ma, mb, mc, mf, ml⟩ := hV.m.mx; obtain ⟨c0, c1, c2, c3, c4, c5, c6, c7, c8, c9, cf, cl⟩ := hW.cells; have hvl := hV.lt
                              by_cases hlt : i < t
                              · go_wp2_with fail
                                go_meet
                                case rel => exact ⟨by (with_reducible (repeat (first | exact hV | refine HV.below ?_ (by assumption) Ks | refine HV.drew ?_ | refine HV.drewN ?_ _))), .inr ⟨HNO.out, f, g, by (first | ((with_reducible refine WB.wk (A := A1) (n := n1) (cap := cap1) (A2 := A2) (n2 := n2) (cap2 := cap2) (A3 := A3) (n3 := n3) (cap3 := cap3) ?_); (with_reducible (repeat (first | exact hW | refine WB.b_ ?_ | refine WB.drew ?_ | refine WB.drewN ?_ _ | refine WB.alloc ?_ _)))))⟩⟩
                              · go_wp2_with fail
                                go_meet
                                case rel => exact ⟨by (with_reducible (repeat (first | exact hV | refine HV.below ?_ (by assumption) Ks | refine HV.drew ?_ | refine HV.drewN ?_ _))), .inr ⟨HNO.out, f, g, by (first | ((with_reducible refine WB.wk (A := A1) (n := n1) (cap := cap1) (A2 := A2) (n2 := n2) (cap2 := cap2) (A3 := A3) (n3 := n3) (cap3 := cap3) ?_); (with_reducible (repeat (first | exact hW | refine WB.b_ ?_ | refine WB.drew ?_ | refine WB.drewN ?_ _ | refine WB.alloc ?_ _)))))⟩⟩
                        case rest => as_aux_lemma =>
                          clear ma mb mc mf ml c0 c1 c2 c3 c4 c5 c6 c7 c8 c9 cf cl hvl
                          clear hV hW
                          obtain ⟨hV, hrel⟩ := hcut
                          rcases hrel with ⟨q, hq, hQ0, hK⟩ | ⟨hno, f, g, hK⟩
                          · have HX2 : Hid (hmOut R C (C - (j + 1)) (j + 1) (t + 1) q = X) := Lib.hid (by
                              rw [← HGO.out, hmGo_next (ab_yes HFG.out (by rw [← HFE.out, ← hq]; exact hQ0)), ← HFE.out, ← hq])
                            have HGQ : Hid (GD R C q) := Lib.hid ⟨hQ0, hq ▸ abS_nb HG2.out.nb _⟩
                            clear hq hQ0 HGO HFG HFE
                            obtain ⟨A1, n1, cap1, A2, n2, cap2, A3, n3, cap3, hW⟩ := hK
                            obtain ⟨ma, mb, mc, mf, ml⟩ := hV.m.mx; obtain ⟨c0, c1, c2, c3, c4, c5, c6, c7, c8, c9, cf, cl⟩ := hW.cells; have hvl := hV.lt
                            go_wp2_with fail
                            go_roundg (gk - 1)
                            case measure => omega
                            case rel => exact ⟨j + 1, t + 1, by go_num, by go_num, by omega, by omega, by omega, by (with_reducible (repeat (first | exact hV | refine HV.below ?_ (by assumption) Ks | refine HV.drew ?_ | refine HV.drewN ?_ _))), .inl ⟨q, HGQ.out, HX2.out, by (first | ((with_reducible refine WB.wk (A := A1) (n := n1) (cap := cap1) (A2 := A2) (n2 := n2) (cap2 := cap2) (A3 := A3) (n3 := n3) (cap3 := cap3) ?_); (with_reducible (repeat (first | exact hW | refine WB.b_ ?_ | refine WB.drew ?_ | refine WB.drewN ?_ _ | refine WB.alloc ?_ _)))))⟩⟩
                          · have HX0 : Hid (X = none) := Lib.hid (by rw [← HGO.out, hmGo_bad (ab_no HFG.out (Nat.le_refl _) (by rw [← HFE.out]; exact hno))])
                            clear hno HGO HFG HFE
                            obtain ⟨A1, n1, cap1, A2, n2, cap2, A3, n3, cap3, hW⟩ := hK
                            obtain ⟨ma, mb, mc, mf, ml⟩ := hV.m.mx; obtain ⟨c0, c1, c2, c3, c4, c5, c6, c7, c8, c9, cf, cl⟩ := hW.cells; have hvl := hV.lt
                            go_wp2_with fail
                            go_roundg (gk - 1)
                            case measure => omega
                            case rel => exact ⟨j + 1, t + 1, by go_num, by go_num, by omega, by omega, by omega, by (with_reducible (repeat (first | exact hV | refine HV.below ?_ (by assumption) Ks | refine HV.drew ?_ | refine HV.drewN ?_ _))), .inr ⟨HX0.out, f, g, by (first | ((with_reducible refine WB.wk (A := A1) (n := n1) (cap := cap1) (A2 := A2) (n2 := n2) (cap2 := cap2) (A3 := A3) (n3 := n3) (cap3 := cap3) ?_); (with_reducible (repeat (first | exact hW | refine WB.b_ ?_ | refine WB.drew ?_ | refine WB.drewN ?_ _ | refine WB.alloc ?_ _)))))⟩⟩
                  · have HXn := Lib.hid hXn
                    clear hXn
                    obtain ⟨A1, n1, cap1, A2, n2, cap2, A3, n3, cap3, hW⟩ := hK
                    obtain ⟨ma, mb, mc, mf, ml⟩ := hV.m.mx; obtain ⟨c0, c1, c2, c3, c4, c5, c6, c7, c8, c9, cf, cl⟩ := hW.cells; have hvl := hV.lt
                    go_wp2_with fail
                    go_meet
                    case rel => exact ⟨by (with_reducible (repeat (first | exact hV | refine HV.below ?_ (by assumption) Ks | refine HV.drew ?_ | refine HV.drewN ?_ _))), .inr ⟨HXn.out, f, g, by (first | ((with_reducible refine WB.wk (A := A1) (n := n1) (cap := cap1) (A2 := A2) (n2 := n2) (cap2 := cap2) (A3 := A3) (n3 := n3) (cap3 := cap3) ?_); (with_reducible (repeat (first | exact hW | refine WB.b_ ?_ | refine WB.drew ?_ | refine WB.drewN ?_ _ | refine WB.alloc ?_ _)))))⟩⟩
            · obtain rfl : t = R := by omega
              rw [hmOut_full (by omega)] at hout
              have HO := Lib.hid hout
              clear hout
              go_wp2_with fail
              go_meet
              case rel => exact ⟨by (with_reducible (repeat (first | exact hV | refine HV.below ?_ (by assumption) Ks | refine HV.drew ?_ | refine HV.drewN ?_ _))), .inl ⟨s, t, HO.out.symm, by (first | ((with_reducible refine WB.wk (A := A1) (n := n1) (cap := cap1) (A2 := A2) (n2 := n2) (cap2 := cap2) (A3 := A3) (n3 := n3) (cap3 := cap3) ?_); (with_reducible (repeat (first | exact hW | refine WB.b_ ?_ | refine WB.drew ?_ | refine WB.drewN ?_ _ | refine WB.alloc ?_ _)))))⟩⟩
          · obtain rfl : j = C := by omega
            rw [Nat.sub_self, hmOut_zero] at hout
            have HO := Lib.hid hout
            clear hout
            go_wp2_with fail
            go_meet
            case rel => exact ⟨by (with_reducible (repeat (first | exact hV | refine HV.below ?_ (by assumption) Ks | refine HV.drew ?_ | refine HV.drewN ?_ _))), .inl ⟨s, t, HO.out.symm, by (first | ((with_reducible refine WB.wk (A := A1) (n := n1) (cap := cap1) (A2 := A2) (n2 := n2) (cap2 := cap2) (A3 := A3) (n3 := n3) (cap3 := cap3) ?_); (with_reducible (repeat (first | exact hW | refine WB.b_ ?_ | refine WB.drew ?_ | refine WB.drewN ?_ _ | refine WB.alloc ?_ _)))))⟩⟩
        · obtain ⟨A1, n1, cap1, A2, n2, cap2, A3, n3, cap3, hW⟩ := hK
          obtain ⟨ma, mb, mc, mf, ml⟩ := hV.m.mx; obtain ⟨c0, c1, c2, c3, c4, c5, c6, c7, c8, c9, cf, cl⟩ := hW.cells; have hvl := hV.lt
          have HXn := Lib.hid hXn
          clear hXn
          by_cases hjC : j < C
          · by_cases htR : t < R
            · go_wp2_with fail
              go_meet
              case rel => exact ⟨by (with_reducible (repeat (first | exact hV | refine HV.below ?_ (by assumption) Ks | refine HV.drew ?_ | refine HV.drewN ?_ _))), .inr ⟨HXn.out, f, g, by (first | ((with_reducible refine WB.wk (A := A1) (n := n1) (cap := cap1) (A2 := A2) (n2 := n2) (cap2 := cap2) (A3 := A3) (n3 := n3) (cap3 := cap3) ?_); (with_reducible (repeat (first | exact hW | refine WB.b_ ?_ | refine WB.drew ?_ | refine WB.drewN ?_ _ | refine WB.alloc ?_ _)))))⟩⟩
            · go_wp2_with fail
              go_meet
              case rel => exact ⟨by (with_reducible (repeat (first | exact hV | refine HV.below ?_ (by assumption) Ks | refine HV.drew ?_ | refine HV.drewN ?_ _))), .inr ⟨HXn.out, f, g, by (first | ((with_reducible refine WB.wk (A := A1) (n := n1) (cap := cap1) (A2 := A2) (n2 := n2) (cap2 := cap2) (A3 := A3) (n3 := n3) (cap3 := cap3) ?_); (with_reducible (repeat (first | exact hW | refine WB.b_ ?_ | refine WB.drew ?_ | refine WB.drewN ?_ _ | refine WB.alloc ?_ _)))))⟩⟩
          · go_wp2_with fail
            go_meet
            case rel => exact ⟨by (with_reducible (repeat (first | exact hV | refine HV.below ?_ (by assumption) Ks | refine HV.drew ?_ | refine HV.drewN ?_ _))), .inr ⟨HXn.out, f, g, by (first | ((with_reducible refine WB.wk (A := A1) (n := n1) (cap := cap1) (A2 := A2) (n2 := n2) (cap2 := cap2) (A3 := A3) (n3 := n3) (cap3 := cap3) ?_); (with_reducible (repeat (first | exact hW | refine WB.b_ ?_ | refine WB.drew ?_ | refine WB.drewN ?_ _ | refine WB.alloc ?_ _)))))⟩⟩
    case rest => as_aux_lemma =>
      clear hV2 hK2
      obtain ⟨hV, hrel⟩ := hcut
      rcases hrel with ⟨s, t, hX, hK⟩ | ⟨hXn, f, g, hK⟩
      · obtain ⟨A1, n1, cap1, A2, n2, cap2, A3, n3, cap3, hW⟩ := hK
        have HXs := Lib.hid hX
        clear hX HX HG0
        obtain ⟨ma, mb, mc, mf, ml⟩ := hV.m.mx; obtain ⟨c0, c1, c2, c3, c4, c5, c6, c7, c8, c9, cf, cl⟩ := hW.cells; have hvl := hV.lt
        have hm1 := hW.m
        have hm2 := hW.l
        have hap := Lib.hid hW.ml
        have hvr1 := B3.of hV.r1
        have hvr2 := B3.of hV.r2
        have hbw := hV.b
        have hbB := hW.hb
        obtain ⟨r0a, r0b, r0c, r0f, r0l⟩ := hV.r1.mx
        obtain ⟨r1a, r1b, r1c, r1f, r1l⟩ := hV.r2.mx
        go_wp2_with fail
        go_region
        go_wp2_with fail
        refine ret_M2 (r := R) (c := C) (A := A1) (n := n1) (cap := cap1) (r' := R) (c' := R) (A' := A2) (n' := n2) (cap' := cap2) Try.results50 rfl rfl (Kb hvr1) (Kb hvr2) rfl ?_
        exact M2R.some_ HXs.out (OR.mono (B := B0) (Ko hm1) (by omega)) (OR.mono (B := B0) (Ko hm2) (by omega)) hap.out Kw
      · obtain ⟨A1, n1, cap1, A2, n2, cap2, A3, n3, cap3, hW⟩ := hK
        have HXs := Lib.hid hXn
        clear hXn HX HG0
        obtain ⟨ma, mb, mc, mf, ml⟩ := hV.m.mx; obtain ⟨c0, c1, c2, c3, c4, c5, c6, c7, c8, c9, cf, cl⟩ := hW.cells; have hvl := hV.lt
        have hvr1 := hV.r1
        have hvr2 := hV.r2
        have hbw := hV.b
        obtain ⟨r0a, r0b, r0c, r0f, r0l⟩ := hV.r1.mx
        obtain ⟨r1a, r1b, r1c, r1f, r1l⟩ := hV.r2.mx
        go_wp2_with fail
        refine ret_M2 (r := 0) (c := 0) (A := none) (n := 0) (cap := 0) (r' := 0) (c' := 0) (A' := none) (n' := 0) (cap' := 0) Try.results50 rfl rfl (Kb hvr1) (Kb hvr2) rfl ?_
        exact M2R.none_ HXs.out Kw
end Go.Proofs.Ytacjonkehcamgaa

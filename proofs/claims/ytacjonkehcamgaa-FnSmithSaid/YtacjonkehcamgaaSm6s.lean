/-
  DERIVED. l13Smith of the reference.
-/
import Derived.Test.YtacjonkehcamgaaSm5s
namespace Go.Proofs.Ytacjonkehcamgaa
open Go.RowKit
set_option linter.unusedVariables false
set_option linter.unusedSimpArgs false
/-- What l13Smith answers. -/
def SmR (sv sv2 sv3 : Value) (B R C : Nat) (X : Option SS) (w : World) (e : Ending) (w' : World) : Prop :=
  e = .returned (.bool X.isSome) ∧ (∃ f g h, OR w' B sv (tb R C f) ∧ OR w' B sv2 (tb R R g) ∧ OR w' B sv3 (tb C C h) ∧ ∀ s, X = some s → f = s.f ∧ g = s.g ∧ h = s.h) ∧ Below B w w' ∧ ∀ k, k < w.heap.size → some k ≠ sv.ownBlock → some k ≠ sv2.ownBlock → some k ≠ sv3.ownBlock → w'.heap[k]? = w.heap[k]?
section
variable {w wr w' : World} {B R C n cap n2 cap2 n3 cap3 : Nat} {A A2 A3 : Option Addr} {f g h : Fn2} {X : Option SS}
theorem SW3.no (h0 : SW3 w wr B R C A n cap A2 n2 cap2 A3 n3 cap3 f g h) (hX : X = none) : SmR (.slice A n cap) (.slice A2 n2 cap2) (.slice A3 n3 cap3) B R C X w (.returned (.bool false)) wr := by
  subst hX
  exact ⟨rfl, ⟨f, g, h, h0.om, h0.ol, h0.ov, fun s e => by cases e⟩, h0.b, h0.k⟩
theorem SW3.yes {s : SS} (h0 : SW3 w wr B R C A n cap A2 n2 cap2 A3 n3 cap3 s.f s.g s.h) (hX : X = some s) : SmR (.slice A n cap) (.slice A2 n2 cap2) (.slice A3 n3 cap3) B R C X w (.returned (.bool true)) wr := by
  subst hX
  exact ⟨rfl, ⟨s.f, s.g, s.h, h0.om, h0.ol, h0.ov, fun s' e => by cases e; exact ⟨rfl, rfl, rfl⟩⟩, h0.b, h0.k⟩
end
theorem sfN_neg' {t : Nat} {s : SS} (h : s.f t t < 0) : sfN t s = s.wr (s.row.neg t) := by unfold sfN; rw [if_pos h]
theorem sfN_pos' {t : Nat} {s : SS} (h : ¬ s.f t t < 0) : sfN t s = s := by unfold sfN; rw [if_neg h]
set_option maxRecDepth 100000 in
set_option maxHeartbeats 8000000 in
theorem spec_l13Smith (R C : Nat) (A : Option Addr) (n cap : Nat) (A2 : Option Addr) (n2 cap2 : Nat) (A3 : Option Addr) (n3 cap3 : Nat) (s0 : SS) (w : World) {B : Nat} (h1 : OR w B (.slice A n cap) (tb R C s0.f)) (h2 : OR w B (.slice A2 n2 cap2) (tb R R s0.g)) (h3 : OR w B (.slice A3 n3 cap3) (tb C C s0.h))
    (hap : Apart (.slice A n cap) (.slice A2 n2 cap2)) (hap2 : Apart (.slice A n cap) (.slice A3 n3 cap3)) (hap3 : Apart (.slice A2 n2 cap2) (.slice A3 n3 cap3)) (hBs : B ≤ w.heap.size) (hg : SGD R C s0) (hC : C ≤ 24) (hR : R ≤ 24) :
    Calls Try.prog 157 #[.agg #[.int .i64 R, .int .i64 C, .slice A n cap], .agg #[.int .i64 R, .int .i64 R, .slice A2 n2 cap2], .agg #[.int .i64 C, .int .i64 C, .slice A3 n3 cap3]] w
      (SmR (.slice A n cap) (.slice A2 n2 cap2) (.slice A3 n3 cap3) B R C (sfOut R C (min R C) 0 s0) w) := by
  have HOA : Hid (Own (.slice A n cap) B w.heap.size) := Lib.hid h1.own
  have HOB : Hid (Own (.slice A2 n2 cap2) B w.heap.size) := Lib.hid h2.own
  have HOC : Hid (Own (.slice A3 n3 cap3) B w.heap.size) := Lib.hid h3.own
  have HAP := Lib.hid hap
  have HAP2 := Lib.hid hap2
  have HAP3 := Lib.hid hap3
  have HG0 := Lib.hid hg
  generalize hx : sfOut R C (min R C) 0 s0 = X
  have HX := Lib.hid hx
  clear hx hap hap2 hap3 hg
  go_enter Try.func157, Try.ntmps157
  go_wp2_with fail
  go_loopg [7] (R + C + 2) (fun k vt wr => ∃ (s : SS) (t : Nat), vt = .int .i64 t ∧ t ≤ min R C ∧ min R C - t < k ∧ SGD R C s ∧ sfOut R C (min R C - t) t s = X ∧ SW3 w wr B R C A n cap A2 n2 cap2 A3 n3 cap3 s.f s.g s.h)
  case atStart => exact ⟨s0, 0, rfl, Nat.zero_le _, by omega, HG0.out, HX.out, ⟨Ka, Ka, Ka, Ko h1, Ko h2, Ko h3, Below.mono (B := w.heap.size) Kw hBs, fun k hk _ _ _ => Below.block (B := w.heap.size) Kw k hk⟩⟩
  case round => as_aux_lemma =>
    clear h1 h2 h3 HG0 HX
    obtain ⟨s, t, rfl, htm, hk, hG0, hout, hS⟩ := hrel
    have HG := Lib.hid hG0
    clear hG0
    obtain ⟨ma, mb, mc, mf, ml⟩ := hS.m.mx; obtain ⟨la, lb, lc, lf, ll⟩ := hS.l.mx; obtain ⟨ra, rb, rc, rf, rl⟩ := hS.r.mx; have hsl := hS.lt
    have HOUT := Lib.hid hout
    clear hout
    go_upto_region 2 with fail
    go_cut [17] from 11 to 80 (fun v wc => ∃ tb : Bool, v = .bool tb ∧ (tb = decide (t < min R C)) ∧ SW3 w wc B R C A n cap A2 n2 cap2 A3 n3 cap3 s.f s.g s.h)
    case first =>
      rcases Nat.lt_or_ge C R with hRC | hRC
      · go_wp2_with fail
        go_meet
        case rel => exact ⟨_, rfl, (by rw [Bool.eq_iff_iff]; (try simp only [decide_eq_true_eq]); omega), by (with_reducible (repeat (first | exact hS | refine SW3.below ?_ (by assumption) Ks hBs | refine SW3.drew ?_ | refine SW3.drewN ?_ _ | refine SW3.alloc ?_ hBs _)))⟩
      · go_wp2_with fail
        go_meet
        case rel => exact ⟨_, rfl, (by rw [Bool.eq_iff_iff]; (try simp only [decide_eq_true_eq]); omega), by (with_reducible (repeat (first | exact hS | refine SW3.below ?_ (by assumption) Ks hBs | refine SW3.drew ?_ | refine SW3.drewN ?_ _ | refine SW3.alloc ?_ hBs _)))⟩
    clear ma mb mc mf ml la lb lc lf ll ra rb rc rf rl hsl
    clear hS
    obtain ⟨tst, rfl, htst, hS⟩ := hcut
    have hout := HOUT.out
    clear HOUT
    obtain ⟨ma, mb, mc, mf, ml⟩ := hS.m.mx; obtain ⟨la, lb, lc, lf, ll⟩ := hS.l.mx; obtain ⟨ra, rb, rc, rf, rl⟩ := hS.r.mx; have hsl := hS.lt
    by_cases htl : t < min R C
    · rw [decide_eq_true htl] at htst
      subst htst
      obtain ⟨htR, htC⟩ : t < R ∧ t < C := by omega
      have HOUT := Lib.hid hout
      clear hout
      obtain ⟨go, hgo⟩ : ∃ x, x = gk := ⟨_, rfl⟩
      have HGO := Lib.hid hgo
      clear hgo
      go_upto_block 2 with fail
      go_cut [] from 11 to 80 (fun wc => ∃ s, SGD R C s ∧ sfOut R C (min R C - (t + 1)) (t + 1) (sfN t s) = X ∧ SW3 w wc B R C A n cap A2 n2 cap2 A3 n3 cap3 s.f s.g s.h)
      case first => as_aux_lemma =>
        go_wp2_with fail
        go_loopg [8] (sfMs R C t s + 2) (fun k vd wr => ∃ (s : SS) (dn : Bool), vd = .bool dn ∧ SGD R C s ∧ ((dn = false ∧ sfOut R C (min R C - t) t s = X ∧ sfMs R C t s < k) ∨ (dn = true ∧ sfOut R C (min R C - (t + 1)) (t + 1) (sfN t s) = X)) ∧ SW3 w wr B R C A n cap A2 n2 cap2 A3 n3 cap3 s.f s.g s.h)
        case atStart => exact ⟨s, false, rfl, HG.out, .inl ⟨rfl, HOUT.out, by omega⟩, by (with_reducible (repeat (first | exact hS | refine SW3.below ?_ (by assumption) Ks hBs | refine SW3.drew ?_ | refine SW3.drewN ?_ _ | refine SW3.alloc ?_ hBs _)))⟩
        case round => as_aux_lemma =>
          clear hS HG HOUT
          clear ma mb mc mf ml la lb lc lf ll ra rb rc rf rl hsl
          obtain ⟨s, dn, rfl, hG0, hcs, hS⟩ := hrel
          obtain ⟨ma, mb, mc, mf, ml⟩ := hS.m.mx; obtain ⟨la, lb, lc, lf, ll⟩ := hS.l.mx; obtain ⟨ra, rb, rc, rf, rl⟩ := hS.r.mx; have hsl := hS.lt
          rcases hcs with ⟨rfl, hout, hlt⟩ | ⟨rfl, hout⟩
          · have hm1 : min R C - t = min R C - (t + 1) + 1 := by omega
            have hcall : Hid (∀ w', OR w' B (.slice A n cap) (tb R C s.f) → Calls Try.prog 216 #[.agg #[.int .i64 R, .int .i64 C, .slice A n cap], .int .i64 t] w' (P2 (ls2 R C s.f t) w')) := Lib.hid (fun w' hk => spec_l13Least R C t A n cap s.f w' hk (Nat.le_of_lt htR) (Nat.le_of_lt htC) hG0.ok.f hC hR)
            rcases ls2_cases R C s.f t with ⟨e, _⟩ | ⟨p, q, e, ⟨a1, a2, a3, a4⟩, h3, h4, h5⟩
            · have HXS : Hid (X = some s) := Lib.hid (by rw [← hout, hm1, sfOut_stop (by rw [e]; decide)])
              rw [e] at hcall
              clear e hout hm1 hG0
              go_wp2_with fail
              refine (hcall.out _ (by have hm := hS.om; (with_reducible (repeat (first | exact hm | refine OR.drew ?_ | refine OR.drewN ?_ _ | refine OR.alloc ?_ _ | refine OR.b_ ?_ | refine OR.l_ ?_))))).mono ?_
              rintro e w1 ⟨rfl, hb1⟩
              (have hS_1 : SW3 w w1 B R C A n cap A2 n2 cap2 A3 n3 cap3 (s.f) (s.g) (s.h) := (by (with_reducible (repeat (first | exact hS | refine SW3.below ?_ (by assumption) Ks hBs | refine SW3.drew ?_ | refine SW3.drewN ?_ _ | refine SW3.alloc ?_ hBs _))))); clear hS hb1; clear ma mb mc mf ml la lb lc lf ll ra rb rc rf rl hsl; (have hS := hS_1); clear hS_1; obtain ⟨ma, mb, mc, mf, ml⟩ := hS.m.mx; obtain ⟨la, lb, lc, lf, ll⟩ := hS.l.mx; obtain ⟨ra, rb, rc, rf, rl⟩ := hS.r.mx; have hsl := hS.lt
              clear hcall
              go_wp2_with fail
              go_ret
              exact SW3.yes (by (with_reducible (repeat (first | exact hS | refine SW3.below ?_ (by assumption) Ks hBs | refine SW3.drew ?_ | refine SW3.drewN ?_ _ | refine SW3.alloc ?_ hBs _)))) HXS.out
            · have hnn : ¬ (ls2 R C s.f t).1 < 0 := by rw [e]; dsimp only; omega
              have hgo0 : sfGo R C (min R C - (t + 1)) t (sfIn R C t s) = X := by rw [← hout, hm1, sfOut_go hnn]
              have HYES : Hid ((rnd R C t s).1.OK R C → (rnd R C t s).2 = true → SGD R C (rnd R C t s).1 ∧ sfOut R C (min R C - (t + 1)) (t + 1) (sfN t (rnd R C t s).1) = X) := Lib.hid (fun hk hd => by
                have hg := rnd_gd hG0 e a2 a4 htR htC hk
                exact ⟨hg, by rw [← hgo0, sfIn_done ((SS.ok_iff hg.nb).2 hk) hd]; rfl⟩)
              have HNXT : Hid ((rnd R C t s).1.OK R C → (rnd R C t s).2 = false → SGD R C (rnd R C t s).1 ∧ sfOut R C (min R C - t) t (rnd R C t s).1 = X ∧ sfMs R C t (rnd R C t s).1 < gk - 1) := Lib.hid (fun hk hd => by
                have hg := rnd_gd hG0 e a2 a4 htR htC hk
                obtain ⟨k1, k2⟩ := rnd_lt hG0 htR htC e a2 a4 h3 (h5 htR htC) hk hd
                obtain ⟨p2, q2, e2, _⟩ := ls2_some (R := R) (C := C) (Nat.le_refl t) htR (Nat.le_refl t) htC k2
                refine ⟨hg, ?_, by omega⟩
                rw [hm1, sfOut_go (by rw [e2]; dsimp only; omega), ← hgo0, sfIn_next ((SS.ok_iff hg.nb).2 hk) hd k1])
              have HNB : Hid ((rnd R C t s).1.NBS) := Lib.hid (by
                have hA : SGD R C (sfA R C t s) := by
                  unfold sfA
                  rw [e]
                  exact (hG0.a1 a2 htR).a2 a4 htC
                exact sfD_nb (sfC_nb (sfB_nb hA.nb)))
              have HNO : Hid (¬ (rnd R C t s).1.OK R C → X = none) := Lib.hid (fun hk => by rw [← hgo0, sfIn_bad (SS.ok_no HNB.out hk)]; rfl)
              have hkp : 0 < gk := by omega
              have HRN := Lib.hid (rnd_of e)
              have HG0 := Lib.hid hG0
              have HPQ := Lib.hid h3
              rw [e] at hcall
              clear hG0 hnn hgo0 hlt e a1 a3 h3 h4 h5 hout hm1
              generalize rnd R C t s = Y at *
              go_wp2_with fail
              refine (hcall.out _ (by have hm := hS.om; (with_reducible (repeat (first | exact hm | refine OR.drew ?_ | refine OR.drewN ?_ _ | refine OR.alloc ?_ _ | refine OR.b_ ?_ | refine OR.l_ ?_))))).mono ?_
              rintro e w1 ⟨rfl, hb1⟩
              (have hS_1 : SW3 w w1 B R C A n cap A2 n2 cap2 A3 n3 cap3 (s.f) (s.g) (s.h) := (by (with_reducible (repeat (first | exact hS | refine SW3.below ?_ (by assumption) Ks hBs | refine SW3.drew ?_ | refine SW3.drewN ?_ _ | refine SW3.alloc ?_ hBs _))))); clear hS hb1; clear ma mb mc mf ml la lb lc lf ll ra rb rc rf rl hsl; (have hS := hS_1); clear hS_1; obtain ⟨ma, mb, mc, mf, ml⟩ := hS.m.mx; obtain ⟨la, lb, lc, lf, ll⟩ := hS.l.mx; obtain ⟨ra, rb, rc, rf, rl⟩ := hS.r.mx; have hsl := hS.lt
              clear hcall
              go_upto_if 32 with fail
              go_cut [] from 20 to 69 (fun wc => ∃ s1, s1 = sfA1 t p s ∧ SW3 w wc B R C A n cap A2 n2 cap2 A3 n3 cap3 s1.f s1.g s1.h)
              case first => as_aux_lemma =>
                by_cases hpt : p = t
                · have hbne : ((p : Int) != (t : Int)) = false := by simp [hpt]
                  have HE : Hid (s = sfA1 t p s) := Lib.hid (by unfold sfA1; rw [if_pos hpt])
                  clear hpt
                  go_wp2_with fail
                  go_meet
                  case rel => exact ⟨s, HE.out, by (with_reducible (repeat (first | exact hS | refine SW3.below ?_ (by assumption) Ks hBs | refine SW3.drew ?_ | refine SW3.drewN ?_ _ | refine SW3.alloc ?_ hBs _)))⟩
                · have hbne : ((p : Int) != (t : Int)) = true := by simp; omega
                  have HE : Hid (s.wr (s.row.swap p t) = sfA1 t p s) := Lib.hid (by unfold sfA1; rw [if_neg hpt])
                  have HPT := Lib.hid hpt
                  clear hpt
                  go_wp2_with fail
                  refine (spec_l12Ops_swap R C p t A n cap A2 n2 cap2 s.f s.g _ (B := B) (by have hm := hS.om; (with_reducible (repeat (first | exact hm | refine OR.drew ?_ | refine OR.drewN ?_ _ | refine OR.alloc ?_ _ | refine OR.b_ ?_ | refine OR.l_ ?_)))) (by have hm := hS.ol; (with_reducible (repeat (first | exact hm | refine OR.drew ?_ | refine OR.drewN ?_ _ | refine OR.alloc ?_ _ | refine OR.b_ ?_ | refine OR.l_ ?_)))) HAP.out Ks a2 htR HPT.out (by omega) hC hR).mono ?_
                  rintro e w1 hw2
                  have hS_1 : SW3 w w1 B R C A n cap A2 n2 cap2 A3 n3 cap3 (swF s.f p t) (swF s.g p t) s.h := by
                    refine SW3.by_ (wr := _) (f := s.f) (g := s.g) (h := s.h) (by (with_reducible (repeat (first | exact hS | refine SW3.below ?_ (by assumption) Ks hBs | refine SW3.drew ?_ | refine SW3.drewN ?_ _ | refine SW3.alloc ?_ hBs _)))) HOA.out HOB.out HOC.out (W3.ofOps (by (with_reducible (repeat (first | exact hS | refine SW3.below ?_ (by assumption) Ks hBs | refine SW3.drew ?_ | refine SW3.drewN ?_ _ | refine SW3.alloc ?_ hBs _)))) HAP2.out HAP3.out hw2)
                  obtain ⟨rfl, -⟩ := hw2
                  clear hS; clear ma mb mc mf ml la lb lc lf ll ra rb rc rf rl hsl; (have hS := hS_1); clear hS_1; obtain ⟨ma, mb, mc, mf, ml⟩ := hS.m.mx; obtain ⟨la, lb, lc, lf, ll⟩ := hS.l.mx; obtain ⟨ra, rb, rc, rf, rl⟩ := hS.r.mx; have hsl := hS.lt
                  go_wp2_with fail
                  go_meet
                  case rel => exact ⟨s.wr (s.row.swap p t), HE.out, by show SW3 w _ B R C A n cap A2 n2 cap2 A3 n3 cap3 (swF s.f p t) (swF s.g p t) s.h; (with_reducible (repeat (first | exact hS | refine SW3.below ?_ (by assumption) Ks hBs | refine SW3.drew ?_ | refine SW3.drewN ?_ _ | refine SW3.alloc ?_ hBs _)))⟩
              case rest => as_aux_lemma =>
                clear ma mb mc mf ml la lb lc lf ll ra rb rc rf rl hsl
                clear hS
                obtain ⟨s1, hs1, hS⟩ := hcut
                have HG1 : Hid (SGD R C s1) := Lib.hid (by rw [hs1]; exact HG0.out.a1 a2 htR)
                have HR1 : Hid (Y = sfD R C t (sfC C t (sfB R t (sfA2 t q s1)))) := Lib.hid (by rw [hs1]; exact HRN.out)
                have HV1 : Hid ((sfA2 t q s1).f t t ≠ 0) := Lib.hid (by rw [hs1, sfA_piv]; exact HPQ.out)
                clear hs1 HG0 HRN HPQ
                obtain ⟨ma, mb, mc, mf, ml⟩ := hS.m.mx; obtain ⟨la, lb, lc, lf, ll⟩ := hS.l.mx; obtain ⟨ra, rb, rc, rf, rl⟩ := hS.r.mx; have hsl := hS.lt
                go_upto_if 41 with fail
                go_cut [] from 20 to 69 (fun wc => ∃ s2, s2 = sfA2 t q s1 ∧ SW3 w wc B R C A n cap A2 n2 cap2 A3 n3 cap3 s2.f s2.g s2.h)
                case first => as_aux_lemma =>
                  by_cases hpt : q = t
                  · have hbne : ((q : Int) != (t : Int)) = false := by simp [hpt]
                    have HE : Hid (s1 = sfA2 t q s1) := Lib.hid (by unfold sfA2; rw [if_pos hpt])
                    clear hpt
                    go_wp2_with fail
                    go_meet
                    case rel => exact ⟨s1, HE.out, by (with_reducible (repeat (first | exact hS | refine SW3.below ?_ (by assumption) Ks hBs | refine SW3.drew ?_ | refine SW3.drewN ?_ _ | refine SW3.alloc ?_ hBs _)))⟩
                  · have hbne : ((q : Int) != (t : Int)) = true := by simp; omega
                    have HE : Hid (s1.wc (s1.col.swap q t) = sfA2 t q s1) := Lib.hid (by unfold sfA2; rw [if_neg hpt])
                    have HPT := Lib.hid hpt
                    clear hpt
                    go_wp2_with fail
                    refine (spec_l13Col_swap R C q t 0 A n cap s1.f _ (B := B) (by have hm := hS.om; (with_reducible (repeat (first | exact hm | refine OR.drew ?_ | refine OR.drewN ?_ _ | refine OR.alloc ?_ _ | refine OR.b_ ?_ | refine OR.l_ ?_)))) a4 htC HPT.out (by omega) hC hR).mono ?_
                    rintro e w1 hw2
                    have hS_1 : SW3 w w1 B R C A n cap A2 n2 cap2 A3 n3 cap3 (tp (swF (tp s1.f) q t)) s1.g s1.h := by
                      refine SW3.by_ (wr := _) (f := s1.f) (g := s1.g) (h := s1.h) (by (with_reducible (repeat (first | exact hS | refine SW3.below ?_ (by assumption) Ks hBs | refine SW3.drew ?_ | refine SW3.drewN ?_ _ | refine SW3.alloc ?_ hBs _)))) HOA.out HOB.out HOC.out (W3.ofM (by (with_reducible (repeat (first | exact hS | refine SW3.below ?_ (by assumption) Ks hBs | refine SW3.drew ?_ | refine SW3.drewN ?_ _ | refine SW3.alloc ?_ hBs _)))) Ks HAP.out HAP2.out hw2)
                    obtain ⟨rfl, -⟩ := hw2
                    clear hS; clear ma mb mc mf ml la lb lc lf ll ra rb rc rf rl hsl; (have hS := hS_1); clear hS_1; obtain ⟨ma, mb, mc, mf, ml⟩ := hS.m.mx; obtain ⟨la, lb, lc, lf, ll⟩ := hS.l.mx; obtain ⟨ra, rb, rc, rf, rl⟩ := hS.r.mx; have hsl := hS.lt
                    go_wp2_with fail
                    refine (spec_l13Col_swap C C q t 0 A3 n3 cap3 s1.h _ (B := B) (by have hm := hS.ov; (with_reducible (repeat (first | exact hm | refine OR.drew ?_ | refine OR.drewN ?_ _ | refine OR.alloc ?_ _ | refine OR.b_ ?_ | refine OR.l_ ?_)))) a4 htC HPT.out (by omega) hC hC).mono ?_
                    rintro e w1 hw2
                    have hS_1 : SW3 w w1 B R C A n cap A2 n2 cap2 A3 n3 cap3 (tp (swF (tp s1.f) q t)) s1.g (tp (swF (tp s1.h) q t)) := by
                      refine SW3.by_ (wr := _) (f := tp (swF (tp s1.f) q t)) (g := s1.g) (h := s1.h) (by (with_reducible (repeat (first | exact hS | refine SW3.below ?_ (by assumption) Ks hBs | refine SW3.drew ?_ | refine SW3.drewN ?_ _ | refine SW3.alloc ?_ hBs _)))) HOA.out HOB.out HOC.out (W3.ofR (by (with_reducible (repeat (first | exact hS | refine SW3.below ?_ (by assumption) Ks hBs | refine SW3.drew ?_ | refine SW3.drewN ?_ _ | refine SW3.alloc ?_ hBs _)))) Ks HAP2.out HAP3.out hw2)
                    obtain ⟨rfl, -⟩ := hw2
                    clear hS; clear ma mb mc mf ml la lb lc lf ll ra rb rc rf rl hsl; (have hS := hS_1); clear hS_1; obtain ⟨ma, mb, mc, mf, ml⟩ := hS.m.mx; obtain ⟨la, lb, lc, lf, ll⟩ := hS.l.mx; obtain ⟨ra, rb, rc, rf, rl⟩ := hS.r.mx; have hsl := hS.lt
                    go_wp2_with fail
                    go_meet
                    case rel => exact ⟨s1.wc (s1.col.swap q t), HE.out, by show SW3 w _ B R C A n cap A2 n2 cap2 A3 n3 cap3 (tp (swF (tp s1.f) q t)) s1.g (tp (swF (tp s1.h) q t)); (with_reducible (repeat (first | exact hS | refine SW3.below ?_ (by assumption) Ks hBs | refine SW3.drew ?_ | refine SW3.drewN ?_ _ | refine SW3.alloc ?_ hBs _)))⟩
                case rest => as_aux_lemma =>
                  clear ma mb mc mf ml la lb lc lf ll ra rb rc rf rl hsl
                  clear hS
                  obtain ⟨s2, hs2, hS⟩ := hcut
                  have HG2 : Hid (SGD R C s2) := Lib.hid (by rw [hs2]; exact HG1.out.a2 a4 htC)
                  have HR2 : Hid (Y = sfD R C t (sfC C t (sfB R t s2))) := Lib.hid (by rw [hs2]; exact HR1.out)
                  have HP2 : Hid (s2.f t t ≠ 0) := Lib.hid (by rw [hs2]; exact HV1.out)
                  clear hs2 HG1 HR1 HV1
                  obtain ⟨ma, mb, mc, mf, ml⟩ := hS.m.mx; obtain ⟨la, lb, lc, lf, ll⟩ := hS.l.mx; obtain ⟨ra, rb, rc, rf, rl⟩ := hS.r.mx; have hsl := hS.lt
                  go_wp2_with fail
                  refine (spec_l13Round R C t A n cap A2 n2 cap2 A3 n3 cap3 s2 _ (B := B) (by have hm := hS.om; (with_reducible (repeat (first | exact hm | refine OR.drew ?_ | refine OR.drewN ?_ _ | refine OR.alloc ?_ _ | refine OR.b_ ?_ | refine OR.l_ ?_)))) (by have hm := hS.ol; (with_reducible (repeat (first | exact hm | refine OR.drew ?_ | refine OR.drewN ?_ _ | refine OR.alloc ?_ _ | refine OR.b_ ?_ | refine OR.l_ ?_)))) (by have hm := hS.ov; (with_reducible (repeat (first | exact hm | refine OR.drew ?_ | refine OR.drewN ?_ _ | refine OR.alloc ?_ _ | refine OR.b_ ?_ | refine OR.l_ ?_)))) HAP.out HAP2.out HAP3.out Ks HG2.out htR htC HP2.out hC hR).mono ?_
                  rw [← HR2.out]
                  rintro e w1 hw2
                  have hS_1 : SW3 w w1 B R C A n cap A2 n2 cap2 A3 n3 cap3 Y.1.f Y.1.g Y.1.h := by
                    refine SW3.by_ (wr := _) (f := s2.f) (g := s2.g) (h := s2.h) (by (with_reducible (repeat (first | exact hS | refine SW3.below ?_ (by assumption) Ks hBs | refine SW3.drew ?_ | refine SW3.drewN ?_ _ | refine SW3.alloc ?_ hBs _)))) HOA.out HOB.out HOC.out hw2
                  obtain ⟨rfl, -⟩ := hw2
                  clear hS; clear ma mb mc mf ml la lb lc lf ll ra rb rc rf rl hsl; (have hS := hS_1); clear hS_1; obtain ⟨ma, mb, mc, mf, ml⟩ := hS.m.mx; obtain ⟨la, lb, lc, lf, ll⟩ := hS.l.mx; obtain ⟨ra, rb, rc, rf, rl⟩ := hS.r.mx; have hsl := hS.lt
                  rcases hoks : Y.1.ok R C with _ | _
                  · have HXN : Hid (X = none) := Lib.hid (HNO.out (fun h => by rw [(SS.ok_iff HNB.out).2 h] at hoks; cases hoks))
                    unfold SS.ok at hoks
                    rcases ha1 : (tb R C Y.1.f).all noBad with _ | _
                    · have HA1 := Lib.hid ha1
                      clear ha1 hoks HYES HNXT HNO HNB
                      go_wp2_with fail
                      refine (spec_l1Bads A n cap _ _ (OR.reads (B := B) (by have hm := hS.om; (with_reducible (repeat (first | exact hm | refine OR.drew ?_ | refine OR.drewN ?_ _ | refine OR.alloc ?_ _ | refine OR.b_ ?_ | refine OR.l_ ?_))))) (by have := OR.lenEq hS.om; rw [tb_len] at this; have := Nat.mul_le_mul hR hC; omega)).mono ?_; rw [HA1.out]; rintro e w1 ⟨rfl, rfl⟩
                      go_wp2_with fail
                      go_ret
                      exact SW3.no (by (with_reducible (repeat (first | exact hS | refine SW3.below ?_ (by assumption) Ks hBs | refine SW3.drew ?_ | refine SW3.drewN ?_ _ | refine SW3.alloc ?_ hBs _)))) HXN.out
                    · have HA1 := Lib.hid ha1
                      rw [ha1, Bool.true_and] at hoks
                      rcases ha2 : (tb R R Y.1.g).all noBad with _ | _
                      · have HA2 := Lib.hid ha2
                        clear ha1 ha2 hoks HYES HNXT HNO HNB
                        go_wp2_with fail
                        refine (spec_l1Bads A n cap _ _ (OR.reads (B := B) (by have hm := hS.om; (with_reducible (repeat (first | exact hm | refine OR.drew ?_ | refine OR.drewN ?_ _ | refine OR.alloc ?_ _ | refine OR.b_ ?_ | refine OR.l_ ?_))))) (by have := OR.lenEq hS.om; rw [tb_len] at this; have := Nat.mul_le_mul hR hC; omega)).mono ?_; rw [HA1.out]; rintro e w1 ⟨rfl, rfl⟩
                        go_wp2_with fail
                        refine (spec_l1Bads A2 n2 cap2 _ _ (OR.reads (B := B) (by have hm := hS.ol; (with_reducible (repeat (first | exact hm | refine OR.drew ?_ | refine OR.drewN ?_ _ | refine OR.alloc ?_ _ | refine OR.b_ ?_ | refine OR.l_ ?_))))) (by have := OR.lenEq hS.ol; rw [tb_len] at this; have := Nat.mul_le_mul hR hR; omega)).mono ?_; rw [HA2.out]; rintro e w1 ⟨rfl, rfl⟩
                        go_wp2_with fail
                        go_ret
                        exact SW3.no (by (with_reducible (repeat (first | exact hS | refine SW3.below ?_ (by assumption) Ks hBs | refine SW3.drew ?_ | refine SW3.drewN ?_ _ | refine SW3.alloc ?_ hBs _)))) HXN.out
                      · have HA2 := Lib.hid ha2
                        rw [ha2, Bool.true_and] at hoks
                        have HA3 := Lib.hid hoks
                        clear ha1 ha2 hoks HYES HNXT HNO HNB
                        go_wp2_with fail
                        refine (spec_l1Bads A n cap _ _ (OR.reads (B := B) (by have hm := hS.om; (with_reducible (repeat (first | exact hm | refine OR.drew ?_ | refine OR.drewN ?_ _ | refine OR.alloc ?_ _ | refine OR.b_ ?_ | refine OR.l_ ?_))))) (by have := OR.lenEq hS.om; rw [tb_len] at this; have := Nat.mul_le_mul hR hC; omega)).mono ?_; rw [HA1.out]; rintro e w1 ⟨rfl, rfl⟩
                        go_wp2_with fail
                        refine (spec_l1Bads A2 n2 cap2 _ _ (OR.reads (B := B) (by have hm := hS.ol; (with_reducible (repeat (first | exact hm | refine OR.drew ?_ | refine OR.drewN ?_ _ | refine OR.alloc ?_ _ | refine OR.b_ ?_ | refine OR.l_ ?_))))) (by have := OR.lenEq hS.ol; rw [tb_len] at this; have := Nat.mul_le_mul hR hR; omega)).mono ?_; rw [HA2.out]; rintro e w1 ⟨rfl, rfl⟩
                        go_wp2_with fail
                        refine (spec_l1Bads A3 n3 cap3 _ _ (OR.reads (B := B) (by have hm := hS.ov; (with_reducible (repeat (first | exact hm | refine OR.drew ?_ | refine OR.drewN ?_ _ | refine OR.alloc ?_ _ | refine OR.b_ ?_ | refine OR.l_ ?_))))) (by have := OR.lenEq hS.ov; rw [tb_len] at this; have := Nat.mul_le_mul hC hC; omega)).mono ?_; rw [HA3.out]; rintro e w1 ⟨rfl, rfl⟩
                        go_wp2_with fail
                        go_ret
                        exact SW3.no (by (with_reducible (repeat (first | exact hS | refine SW3.below ?_ (by assumption) Ks hBs | refine SW3.drew ?_ | refine SW3.drewN ?_ _ | refine SW3.alloc ?_ hBs _)))) HXN.out
                  · have hok := (SS.ok_iff HNB.out).1 hoks
                    have HREL : Hid (SGD R C Y.1 ∧ ((Y.2 = false ∧ sfOut R C (min R C - t) t Y.1 = X ∧ sfMs R C t Y.1 < gk - 1) ∨ (Y.2 = true ∧ sfOut R C (min R C - (t + 1)) (t + 1) (sfN t Y.1) = X))) := Lib.hid (by
                      rcases hy : Y.2 with _ | _
                      · obtain ⟨k1, k2, k3⟩ := HNXT.out hok hy
                        exact ⟨k1, .inl ⟨rfl, k2, k3⟩⟩
                      · obtain ⟨k1, k2⟩ := HYES.out hok hy
                        exact ⟨k1, .inr ⟨rfl, k2⟩⟩)
                    unfold SS.ok at hoks
                    rw [Bool.and_eq_true, Bool.and_eq_true] at hoks
                    have HA1 := Lib.hid hoks.1.1
                    have HA2 := Lib.hid hoks.1.2
                    have HA3 := Lib.hid hoks.2
                    clear hoks hok HYES HNXT HNO HNB
                    go_wp2_with fail
                    refine (spec_l1Bads A n cap _ _ (OR.reads (B := B) (by have hm := hS.om; (with_reducible (repeat (first | exact hm | refine OR.drew ?_ | refine OR.drewN ?_ _ | refine OR.alloc ?_ _ | refine OR.b_ ?_ | refine OR.l_ ?_))))) (by have := OR.lenEq hS.om; rw [tb_len] at this; have := Nat.mul_le_mul hR hC; omega)).mono ?_; rw [HA1.out]; rintro e w1 ⟨rfl, rfl⟩
                    go_wp2_with fail
                    refine (spec_l1Bads A2 n2 cap2 _ _ (OR.reads (B := B) (by have hm := hS.ol; (with_reducible (repeat (first | exact hm | refine OR.drew ?_ | refine OR.drewN ?_ _ | refine OR.alloc ?_ _ | refine OR.b_ ?_ | refine OR.l_ ?_))))) (by have := OR.lenEq hS.ol; rw [tb_len] at this; have := Nat.mul_le_mul hR hR; omega)).mono ?_; rw [HA2.out]; rintro e w1 ⟨rfl, rfl⟩
                    go_wp2_with fail
                    refine (spec_l1Bads A3 n3 cap3 _ _ (OR.reads (B := B) (by have hm := hS.ov; (with_reducible (repeat (first | exact hm | refine OR.drew ?_ | refine OR.drewN ?_ _ | refine OR.alloc ?_ _ | refine OR.b_ ?_ | refine OR.l_ ?_))))) (by have := OR.lenEq hS.ov; rw [tb_len] at this; have := Nat.mul_le_mul hC hC; omega)).mono ?_; rw [HA3.out]; rintro e w1 ⟨rfl, rfl⟩
                    go_wp2_with fail
                    go_roundg (gk - 1)
                    case measure => omega
                    case rel => exact ⟨Y.1, Y.2, rfl, HREL.out.1, HREL.out.2, by (with_reducible (repeat (first | exact hS | refine SW3.below ?_ (by assumption) Ks hBs | refine SW3.drew ?_ | refine SW3.drewN ?_ _ | refine SW3.alloc ?_ hBs _)))⟩
          · have HO := Lib.hid hout
            have HG0 := Lib.hid hG0
            clear hout hG0
            go_wp2_with fail
            go_meet
            case rel => exact ⟨s, HG0.out, HO.out, by (with_reducible (repeat (first | exact hS | refine SW3.below ?_ (by assumption) Ks hBs | refine SW3.drew ?_ | refine SW3.drewN ?_ _ | refine SW3.alloc ?_ hBs _)))⟩
      case rest => as_aux_lemma =>
        clear ma mb mc mf ml la lb lc lf ll ra rb rc rf rl hsl
        clear hS HG HOUT
        obtain ⟨s, hG0, hout, hS⟩ := hcut
        have HG := Lib.hid hG0
        clear hG0
        obtain ⟨ma, mb, mc, mf, ml⟩ := hS.m.mx; obtain ⟨la, lb, lc, lf, ll⟩ := hS.l.mx; obtain ⟨ra, rb, rc, rf, rl⟩ := hS.r.mx; have hsl := hS.lt
        by_cases hz0 : s.f t t < 0
        · rw [sfN_neg' hz0] at hout
          have HO := Lib.hid hout
          have HG2 : Hid (SGD R C (s.wr (s.row.neg t))) := Lib.hid (HG.out.wr (HG.out.row.neg htR))
          clear hout
          generalize hz : s.f t t = z at *
          have HZ := Lib.hid hz
          clear hz
          go_wp2_with fail
          (refine (spec_l12Cell_tb R C t t A n cap ((s.f)) z HZ.out _ (B := B) (by have hm := hS.om; (with_reducible (repeat (first | exact hm | refine OR.drew ?_ | refine OR.drewN ?_ _ | refine OR.alloc ?_ _ | refine OR.b_ ?_ | refine OR.l_ ?_)))) (by omega) (by omega) (by omega) (by omega)).mono ?_; rintro e w1 ⟨rfl, hb1⟩; (have hS_1 : SW3 w w1 B R C A n cap A2 n2 cap2 A3 n3 cap3 (((s.f))) (((s.g))) (((s.h))) := (by (with_reducible (repeat (first | exact hS | refine SW3.below ?_ (by assumption) Ks hBs | refine SW3.drew ?_ | refine SW3.drewN ?_ _ | refine SW3.alloc ?_ hBs _))))); clear hS hb1; clear ma mb mc mf ml la lb lc lf ll ra rb rc rf rl hsl; (have hS := hS_1); clear hS_1; obtain ⟨ma, mb, mc, mf, ml⟩ := hS.m.mx; obtain ⟨la, lb, lc, lf, ll⟩ := hS.l.mx; obtain ⟨ra, rb, rc, rf, rl⟩ := hS.r.mx; have hsl := hS.lt)
          go_wp2_with fail
          refine (spec_l12Ops_neg R C t A n cap A2 n2 cap2 s.f s.g _ (B := B) (by have hm := hS.om; (with_reducible (repeat (first | exact hm | refine OR.drew ?_ | refine OR.drewN ?_ _ | refine OR.alloc ?_ _ | refine OR.b_ ?_ | refine OR.l_ ?_)))) (by have hm := hS.ol; (with_reducible (repeat (first | exact hm | refine OR.drew ?_ | refine OR.drewN ?_ _ | refine OR.alloc ?_ _ | refine OR.b_ ?_ | refine OR.l_ ?_)))) HAP.out Ks htR HG.out.ok.f HG.out.ok.g (by omega) hC hR).mono ?_
          rintro e w1 hw2
          have hS_1 : SW3 w w1 B R C A n cap A2 n2 cap2 A3 n3 cap3 (opM s.f t) (opM s.g t) s.h := by
            refine SW3.by_ (wr := _) (f := s.f) (g := s.g) (h := s.h) (by (with_reducible (repeat (first | exact hS | refine SW3.below ?_ (by assumption) Ks hBs | refine SW3.drew ?_ | refine SW3.drewN ?_ _ | refine SW3.alloc ?_ hBs _)))) HOA.out HOB.out HOC.out (W3.ofOps (by (with_reducible (repeat (first | exact hS | refine SW3.below ?_ (by assumption) Ks hBs | refine SW3.drew ?_ | refine SW3.drewN ?_ _ | refine SW3.alloc ?_ hBs _)))) HAP2.out HAP3.out hw2)
          obtain ⟨rfl, -⟩ := hw2
          clear hS; clear ma mb mc mf ml la lb lc lf ll ra rb rc rf rl hsl; (have hS := hS_1); clear hS_1; obtain ⟨ma, mb, mc, mf, ml⟩ := hS.m.mx; obtain ⟨la, lb, lc, lf, ll⟩ := hS.l.mx; obtain ⟨ra, rb, rc, rf, rl⟩ := hS.r.mx; have hsl := hS.lt
          go_wp2_with fail
          go_roundg (go - 1)
          case measure => have := HGO.out; omega
          case rel => exact ⟨s.wr (s.row.neg t), t + 1, by go_num, by omega, by have := HGO.out; omega, HG2.out, HO.out, by show SW3 w _ B R C A n cap A2 n2 cap2 A3 n3 cap3 (opM s.f t) (opM s.g t) s.h; (with_reducible (repeat (first | exact hS | refine SW3.below ?_ (by assumption) Ks hBs | refine SW3.drew ?_ | refine SW3.drewN ?_ _ | refine SW3.alloc ?_ hBs _)))⟩
        · rw [sfN_pos' hz0] at hout
          have HO := Lib.hid hout
          clear hout
          generalize hz : s.f t t = z at *
          have HZ := Lib.hid hz
          clear hz
          go_wp2_with fail
          (refine (spec_l12Cell_tb R C t t A n cap ((s.f)) z HZ.out _ (B := B) (by have hm := hS.om; (with_reducible (repeat (first | exact hm | refine OR.drew ?_ | refine OR.drewN ?_ _ | refine OR.alloc ?_ _ | refine OR.b_ ?_ | refine OR.l_ ?_)))) (by omega) (by omega) (by omega) (by omega)).mono ?_; rintro e w1 ⟨rfl, hb1⟩; (have hS_1 : SW3 w w1 B R C A n cap A2 n2 cap2 A3 n3 cap3 (((s.f))) (((s.g))) (((s.h))) := (by (with_reducible (repeat (first | exact hS | refine SW3.below ?_ (by assumption) Ks hBs | refine SW3.drew ?_ | refine SW3.drewN ?_ _ | refine SW3.alloc ?_ hBs _))))); clear hS hb1; clear ma mb mc mf ml la lb lc lf ll ra rb rc rf rl hsl; (have hS := hS_1); clear hS_1; obtain ⟨ma, mb, mc, mf, ml⟩ := hS.m.mx; obtain ⟨la, lb, lc, lf, ll⟩ := hS.l.mx; obtain ⟨ra, rb, rc, rf, rl⟩ := hS.r.mx; have hsl := hS.lt)
          go_wp2_with fail
          go_roundg (go - 1)
          case measure => have := HGO.out; omega
          case rel => exact ⟨s, t + 1, by go_num, by omega, by have := HGO.out; omega, HG.out, HO.out, by (with_reducible (repeat (first | exact hS | refine SW3.below ?_ (by assumption) Ks hBs | refine SW3.drew ?_ | refine SW3.drewN ?_ _ | refine SW3.alloc ?_ hBs _)))⟩
    · rw [decide_eq_false htl] at htst
      subst htst
      have htE : min R C - t = 0 := by omega
      rw [htE, sfOut_zero] at hout
      have HO := Lib.hid hout
      clear hout htE
      go_wp2_with fail
      go_ret
      exact SW3.yes (by (with_reducible (repeat (first | exact hS | refine SW3.below ?_ (by assumption) Ks hBs | refine SW3.drew ?_ | refine SW3.drewN ?_ _ | refine SW3.alloc ?_ hBs _)))) HO.out.symm
end Go.Proofs.Ytacjonkehcamgaa

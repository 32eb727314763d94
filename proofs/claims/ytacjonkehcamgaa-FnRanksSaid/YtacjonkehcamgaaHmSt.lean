/-
  DERIVED. l12Hermite of the reference.
-/
import Derived.Test.YtacjonkehcamgaaV3
import Derived.Test.YtacjonkehcamgaaV5
import Derived.Deep.CutBlock
import Derived.Deep.LoopGhost
namespace Go.Proofs.Ytacjonkehcamgaa
open Go.RowKit
set_option linter.unusedVariables false
set_option linter.unusedSimpArgs false
/-- The call's own variables and the two matrices that it works upon. -/
structure SW (w wr : World) (B R C : Nat) (A : Option Addr) (n cap : Nat) (A2 : Option Addr) (n2 cap2 : Nat) (f g : Fn2) : Prop where
  m : BM wr w.heap.size R C A n cap
  l : BM wr (w.heap.size + 1) R R A2 n2 cap2
  om : OR wr B (.slice A n cap) (tb R C f)
  ol : OR wr B (.slice A2 n2 cap2) (tb R R g)
  b : Below B w wr
  k : ∀ k, k < w.heap.size → some k ≠ (Value.slice A n cap).ownBlock → some k ≠ (Value.slice A2 n2 cap2).ownBlock → wr.heap[k]? = w.heap[k]?
/-- What l12Hermite answers. -/
def HmR (sv sv2 : Value) (B R C : Nat) (X : Option (HS × Nat)) (w : World) (e : Ending) (w' : World) : Prop :=
  e = .returned (.bool X.isSome) ∧ (∃ f g, OR w' B sv (tb R C f) ∧ OR w' B sv2 (tb R R g) ∧ ∀ s t, X = some (s, t) → f = s.f ∧ g = s.g) ∧ Below B w w' ∧ ∀ k, k < w.heap.size → some k ≠ sv.ownBlock → some k ≠ sv2.ownBlock → w'.heap[k]? = w.heap[k]?
section
variable {w wr w' : World} {B R C n cap n2 cap2 : Nat} {A A2 : Option Addr} {f g f' g' : Fn2} {X : Option (HS × Nat)}
theorem SW.lt (h : SW w wr B R C A n cap A2 n2 cap2 f g) : w.heap.size + 1 < wr.heap.size := h.l.lt
theorem SW.below {D : Nat} (h : SW w wr B R C A n cap A2 n2 cap2 f g) (hD : Below D wr w') (hs : wr.heap.size ≤ D) (hBs : B ≤ w.heap.size) : SW w w' B R C A n cap A2 n2 cap2 f g :=
  have hl := h.lt
  ⟨h.m.below hD (by omega), h.l.below hD (by omega), h.om.below hD hs, h.ol.below hD hs, h.b.trans (hD.mono (by omega)), fun k hk e1 e2 => (hD.block k (by omega)).trans (h.k k hk e1 e2)⟩
theorem SW.drew (h : SW w wr B R C A n cap A2 n2 cap2 f g) : SW w wr.drew B R C A n cap A2 n2 cap2 f g := ⟨h.m.drew, h.l.drew, h.om.drew, h.ol.drew, h.b.drew, h.k⟩
theorem SW.drewN (h : SW w wr B R C A n cap A2 n2 cap2 f g) (q : Nat) : SW w (wr.drewN q) B R C A n cap A2 n2 cap2 f g := ⟨h.m.drewN q, h.l.drewN q, h.om.drewN q, h.ol.drewN q, below_drewN h.b q, h.k⟩
theorem SW.ops {e : Ending} (h : SW w wr B R C A n cap A2 n2 cap2 f g) (hA : Own (.slice A n cap) B w.heap.size) (hA2 : Own (.slice A2 n2 cap2) B w.heap.size)
    (hr : WW2 (.slice A n cap) (.slice A2 n2 cap2) B (tb R C f') (tb R R g') wr e w') : SW w w' B R C A n cap A2 n2 cap2 f' g' := by
  obtain ⟨-, h1, h2, h3, h4⟩ := hr
  have hl := h.lt
  have n1 : ∀ k, w.heap.size ≤ k → some k ≠ (Value.slice A n cap).ownBlock := fun k hk e => by have := hA k e.symm; omega
  have n2 : ∀ k, w.heap.size ≤ k → some k ≠ (Value.slice A2 n2 cap2).ownBlock := fun k hk e => by have := hA2 k e.symm; omega
  exact ⟨(h4 _ (by omega) (n1 _ (by omega)) (n2 _ (by omega))).trans h.m, (h4 _ (by omega) (n1 _ (by omega)) (n2 _ (by omega))).trans h.l, h1, h2, h.b.trans h3,
    fun k hk e1 e2 => (h4 k (by omega) e1 e2).trans (h.k k hk e1 e2)⟩
theorem SW.no (h : SW w wr B R C A n cap A2 n2 cap2 f g) (hX : X = none) : HmR (.slice A n cap) (.slice A2 n2 cap2) B R C X w (.returned (.bool false)) wr := by
  subst hX
  exact ⟨rfl, ⟨f, g, h.om, h.ol, fun s t e => by cases e⟩, h.b, h.k⟩
theorem SW.yes {s : HS} {t : Nat} (h : SW w wr B R C A n cap A2 n2 cap2 s.f s.g) (hX : X = some (s, t)) : HmR (.slice A n cap) (.slice A2 n2 cap2) B R C X w (.returned (.bool true)) wr := by
  subst hX
  exact ⟨rfl, ⟨s.f, s.g, h.om, h.ol, fun s' t' e => by cases e; exact ⟨rfl, rfl⟩⟩, h.b, h.k⟩
end
set_option maxRecDepth 100000 in
set_option maxHeartbeats 8000000 in
theorem spec_l12Hermite (R C : Nat) (A : Option Addr) (n cap : Nat) (A2 : Option Addr) (n2 cap2 : Nat) (s0 : HS) (w : World) {B : Nat} (h1 : OR w B (.slice A n cap) (tb R C s0.f)) (h2 : OR w B (.slice A2 n2 cap2) (tb R R s0.g)) (hap : Apart (.slice A n cap) (.slice A2 n2 cap2)) (hBs : B ≤ w.heap.size) (hg : GD R C s0) (hC : C ≤ 24) (hR : R ≤ 24) :
    Calls Try.prog 151 #[.agg #[.int .i64 R, .int .i64 C, .slice A n cap], .agg #[.int .i64 R, .int .i64 R, .slice A2 n2 cap2]] w (HmR (.slice A n cap) (.slice A2 n2 cap2) B R C (hmOut R C C 0 0 s0) w) := by
  obtain ⟨hoa, hob⟩ : Own (.slice A n cap) B w.heap.size ∧ Own (.slice A2 n2 cap2) B w.heap.size := ⟨h1.own, h2.own⟩
  have HOA := Lib.hid hoa
  have HOB := Lib.hid hob
  have HAP := Lib.hid hap
  have HG0 := Lib.hid hg
  generalize hx : hmOut R C C 0 0 s0 = X
  have HX := Lib.hid hx
  clear hx hap hoa hob hg
  go_enter Try.func151, Try.ntmps151
  go_wp2_with fail
  go_loopg [5, 6] (C + 2) (fun k vt vj wr => ∃ (s : HS) (j t : Nat), vj = .int .i64 j ∧ vt = .int .i64 t ∧ j ≤ C ∧ t ≤ R ∧ C - j < k ∧ GD R C s ∧ hmOut R C (C - j) j t s = X ∧ SW w wr B R C A n cap A2 n2 cap2 s.f s.g)
  case atStart => exact ⟨s0, 0, 0, rfl, rfl, Nat.zero_le _, Nat.zero_le _, by omega, HG0.out, HX.out, ⟨Ka, Ka, Ko h1, Ko h2, Below.mono (B := w.heap.size) Kw hBs, fun k hk _ _ => Below.block (B := w.heap.size) Kw k hk⟩⟩
  case round =>
    clear h1 h2 HG0 HX
    obtain ⟨s, j, t, rfl, rfl, hj, ht, hk, hG0, hout, hS⟩ := hrel
    have HG := Lib.hid hG0
    clear hG0
    obtain ⟨ma, mb, mc, mf, ml⟩ := hS.m.mx; obtain ⟨la, lb, lc, lf, ll⟩ := hS.l.mx; have hsl := hS.lt
    by_cases hjC : j < C
    · by_cases htR : t < R
      · have hm1 : C - j = C - (j + 1) + 1 := by omega
        rw [hm1] at hout
        have HJ : Hid (∀ p : Nat, lst R s.f j t = (p : Nat) → hmGo R C (C - (j + 1)) j t (hmIn R C j t s p) = X) := Lib.hid (fun p e => by rw [← hout, hmOut_go htR (by omega), e, Int.toNat_natCast])
        have HS : Hid (lst R s.f j t < 0 → hmOut R C (C - (j + 1)) (j + 1) t s = X) := Lib.hid (fun e => by rw [← hout, hmOut_skip htR e])
        have hcall : Hid (∀ w', OR w' B (.slice A n cap) (tb R C s.f) → Calls Try.prog 206 #[.agg #[.int .i64 R, .int .i64 C, .slice A n cap], .int .i64 t, .int .i64 j] w' (BV (.int .i64 (lst R s.f j t)) w')) := Lib.hid (fun w' hk => spec_l12Least R C t j A n cap s.f w' hk ht hjC HG.out.ok.f hC hR)
        have hcs := lst_cases R s.f j t ht
        clear hout hm1
        rcases hcs with ⟨e, -⟩ | ⟨p, e, h1, h2, h3⟩
        · have HS2 := Lib.hid (HS.out (by omega))
          rw [e] at hcall
          clear e HS HJ
          go_wp2_with fail
          refine (hcall.out _ (by have hm := hS.om; (with_reducible (repeat (first | exact hm | refine OR.drew ?_ | refine OR.drewN ?_ _ | refine OR.alloc ?_ _ | refine OR.b_ ?_ | refine OR.l_ ?_))))).mono ?_
          rintro e w1 ⟨rfl, hb1⟩
          (have hS_1 : SW w w1 B R C A n cap A2 n2 cap2 s.f s.g := (by (with_reducible (repeat (first | exact hS | refine SW.below ?_ (by assumption) Ks (by assumption) | refine SW.drew ?_ | refine SW.drewN ?_ _))))); clear hS hb1; clear ma mb mc mf ml la lb lc lf ll hsl; (have hS := hS_1); clear hS_1; obtain ⟨ma, mb, mc, mf, ml⟩ := hS.m.mx; obtain ⟨la, lb, lc, lf, ll⟩ := hS.l.mx; have hsl := hS.lt
          go_wp2_with fail
          go_roundg (gk - 1)
          case measure => omega
          case rel => exact ⟨s, j + 1, t, by go_num, rfl, by omega, by omega, by omega, HG.out, HS2.out, by (with_reducible (repeat (first | exact hS | refine SW.below ?_ (by assumption) Ks (by assumption) | refine SW.drew ?_ | refine SW.drewN ?_ _)))⟩
        · have HJ2 := Lib.hid (HJ.out p e)
          rw [e] at hcall
          have HP := Lib.hid h3
          clear e HS HJ h3
          go_wp2_with fail
          refine (hcall.out _ (by have hm := hS.om; (with_reducible (repeat (first | exact hm | refine OR.drew ?_ | refine OR.drewN ?_ _ | refine OR.alloc ?_ _ | refine OR.b_ ?_ | refine OR.l_ ?_))))).mono ?_
          rintro e w1 ⟨rfl, hb1⟩
          (have hS_1 : SW w w1 B R C A n cap A2 n2 cap2 s.f s.g := (by (with_reducible (repeat (first | exact hS | refine SW.below ?_ (by assumption) Ks (by assumption) | refine SW.drew ?_ | refine SW.drewN ?_ _))))); clear hS hb1; clear ma mb mc mf ml la lb lc lf ll hsl; (have hS := hS_1); clear hS_1; obtain ⟨ma, mb, mc, mf, ml⟩ := hS.m.mx; obtain ⟨la, lb, lc, lf, ll⟩ := hS.l.mx; have hsl := hS.lt
          clear hcall
          go_upto_block 2 with fail
          go_cut [7] from 16 to 145 (fun vp wc => ∃ (s : HS) (p : Nat), vp = .int .i64 p ∧ GD R C s ∧ p < R ∧ s.f p j ≠ 0 ∧ hmGo R C (C - (j + 1)) j t (some (s, p)) = X ∧ SW w wc B R C A n cap A2 n2 cap2 s.f s.g)
          case first =>
            go_wp2_with fail
            go_loopg [7] (hmMs R j t s p + 2) (fun k vp wr => ∃ (s : HS) (p : Nat), vp = .int .i64 p ∧ GD R C s ∧ t ≤ p ∧ p < R ∧ s.f p j ≠ 0 ∧ hmGo R C (C - (j + 1)) j t (hmIn R C j t s p) = X ∧ hmMs R j t s p < k ∧ SW w wr B R C A n cap A2 n2 cap2 s.f s.g)
            case atStart => exact ⟨s, p, rfl, HG.out, h1, h2, HP.out, HJ2.out, by omega, by (with_reducible (repeat (first | exact hS | refine SW.below ?_ (by assumption) Ks (by assumption) | refine SW.drew ?_ | refine SW.drewN ?_ _)))⟩
            case round =>
              clear ma mb mc mf ml la lb lc lf ll hsl
              clear hS HG HP HJ2 h1 h2
              obtain ⟨s, p, rfl, hG0, h1, h2, h3, hgo, hk2, hS⟩ := hrel
              have HG := Lib.hid hG0
              have HP := Lib.hid h3
              have HK := Lib.hid hk2
              have HGO := Lib.hid hgo
              clear hG0 h3 hk2 hgo
              obtain ⟨ma, mb, mc, mf, ml⟩ := hS.m.mx; obtain ⟨la, lb, lc, lf, ll⟩ := hS.l.mx; have hsl := hS.lt
              have hcall : Hid (∀ w', OR w' B (.slice A n cap) (tb R C s.f) → Calls Try.prog 207 #[.agg #[.int .i64 R, .int .i64 C, .slice A n cap], .int .i64 t, .int .i64 j, .int .i64 p] w' (BV (.bool (!oth R s.f j t p)) w')) := Lib.hid (fun w' hk => spec_l12Alone R C t j p A n cap s.f w' hk ht hjC h2 hC hR)
              rcases ho : oth R s.f j t p with _ | _
              · rw [ho] at hcall
                have HD : Hid (hmGo R C (C - (j + 1)) j t (some (s, p)) = X) := Lib.hid (by rw [← hmIn_done (C := C) ho]; exact HGO.out)
                clear ho HGO
                go_wp2_with fail
                refine (hcall.out _ (by have hm := hS.om; (with_reducible (repeat (first | exact hm | refine OR.drew ?_ | refine OR.drewN ?_ _ | refine OR.alloc ?_ _ | refine OR.b_ ?_ | refine OR.l_ ?_))))).mono ?_
                rintro e w1 ⟨rfl, hb1⟩
                (have hS_1 : SW w w1 B R C A n cap A2 n2 cap2 s.f s.g := (by (with_reducible (repeat (first | exact hS | refine SW.below ?_ (by assumption) Ks (by assumption) | refine SW.drew ?_ | refine SW.drewN ?_ _))))); clear hS hb1; clear ma mb mc mf ml la lb lc lf ll hsl; (have hS := hS_1); clear hS_1; obtain ⟨ma, mb, mc, mf, ml⟩ := hS.m.mx; obtain ⟨la, lb, lc, lf, ll⟩ := hS.l.mx; have hsl := hS.lt
                clear hcall
                go_wp2_with fail
                go_meet
                case rel => exact ⟨s, p, rfl, HG.out, h2, HP.out, HD.out, by (with_reducible (repeat (first | exact hS | refine SW.below ?_ (by assumption) Ks (by assumption) | refine SW.drew ?_ | refine SW.drewN ?_ _)))⟩
              · rw [ho] at hcall
                have HO := Lib.hid ho
                clear ho
                go_wp2_with fail
                refine (hcall.out _ (by have hm := hS.om; (with_reducible (repeat (first | exact hm | refine OR.drew ?_ | refine OR.drewN ?_ _ | refine OR.alloc ?_ _ | refine OR.b_ ?_ | refine OR.l_ ?_))))).mono ?_
                rintro e w1 ⟨rfl, hb1⟩
                (have hS_1 : SW w w1 B R C A n cap A2 n2 cap2 s.f s.g := (by (with_reducible (repeat (first | exact hS | refine SW.below ?_ (by assumption) Ks (by assumption) | refine SW.drew ?_ | refine SW.drewN ?_ _))))); clear hS hb1; clear ma mb mc mf ml la lb lc lf ll hsl; (have hS := hS_1); clear hS_1; obtain ⟨ma, mb, mc, mf, ml⟩ := hS.m.mx; obtain ⟨la, lb, lc, lf, ll⟩ := hS.l.mx; have hsl := hS.lt
                clear hcall
                go_upto_block 4 with fail
                go_cut [] from 34 to 89 (fun wc => ∃ q, q = swS j p t s (R - t) ∧ SW w wc B R C A n cap A2 n2 cap2 q.f q.g)
                case first =>
                  go_wp2_with fail
                  go_loopg [8] (R + 1) (fun k vi wr => ∃ (i : Nat) (q : HS), vi = .int .i64 i ∧ t ≤ i ∧ i ≤ R ∧ R - i < k ∧ q = swS j p t s (i - t) ∧ SW w wr B R C A n cap A2 n2 cap2 q.f q.g)
                  case atStart => exact ⟨t, s, rfl, Nat.le_refl _, ht, by omega, by rw [Nat.sub_self]; rfl, by (with_reducible (repeat (first | exact hS | refine SW.below ?_ (by assumption) Ks (by assumption) | refine SW.drew ?_ | refine SW.drewN ?_ _)))⟩
                  case round =>
                    clear ma mb mc mf ml la lb lc lf ll hsl
                    clear hS
                    obtain ⟨i, q, rfl, hti, hiR, hk3, hq, hS⟩ := hrel
                    have HQ := Lib.hid hq
                    clear hq
                    obtain ⟨ma, mb, mc, mf, ml⟩ := hS.m.mx; obtain ⟨la, lb, lc, lf, ll⟩ := hS.l.mx; have hsl := hS.lt
                    by_cases hlt : i < R
                    · have hsub : i + 1 - t = (i - t) + 1 := by omega
                      have hst : t + (i - t) = i := by omega
                      by_cases hip : i = p
                      · have HS : Hid (q = swS j p t s (i + 1 - t)) := Lib.hid (by rw [hsub, sw_skip (.inl (by omega))]; exact HQ.out)
                        have hbne : ((i : Int) != (p : Int)) = false := by simp [hip]
                        clear hip hsub hst
                        go_wp2_with fail
                        go_roundg (gk - 1)
                        case measure => omega
                        case rel => exact ⟨i + 1, q, by go_num, by omega, by omega, by omega, HS.out, by (with_reducible (repeat (first | exact hS | refine SW.below ?_ (by assumption) Ks (by assumption) | refine SW.drew ?_ | refine SW.drewN ?_ _)))⟩
                      · have hbne : ((i : Int) != (p : Int)) = true := by simp; omega
                        have HIP := Lib.hid hip
                        clear hip
                        have hqi : q.f i j = s.f i j := by rw [HQ.out, swS_late j _ (by omega)]
                        have hqp : q.f p j = s.f p j := by rw [HQ.out, swS_p]
                        by_cases hz : s.f i j = 0
                        · have HS : Hid (q = swS j p t s (i + 1 - t)) := Lib.hid (by rw [hsub, sw_skip (.inr (by rw [hst]; exact hz))]; exact HQ.out)
                          have HZ : Hid (q.f i j = 0) := Lib.hid (by rw [hqi, hz])
                          clear hz hqi hqp hsub hst
                          go_wp2_with fail
                          (refine (spec_l12Cell_tb R C i j A n cap q.f (0) HZ.out _ (B := B) (by have hm := hS.om; (with_reducible (repeat (first | exact hm | refine OR.drew ?_ | refine OR.drewN ?_ _ | refine OR.alloc ?_ _ | refine OR.b_ ?_ | refine OR.l_ ?_)))) (by omega) (by omega) (by omega) (by omega)).mono ?_; rintro e w1 ⟨rfl, hb1⟩; (have hS_1 : SW w w1 B R C A n cap A2 n2 cap2 q.f q.g := (by (with_reducible (repeat (first | exact hS | refine SW.below ?_ (by assumption) Ks (by assumption) | refine SW.drew ?_ | refine SW.drewN ?_ _))))); clear hS hb1; clear ma mb mc mf ml la lb lc lf ll hsl; (have hS := hS_1); clear hS_1; obtain ⟨ma, mb, mc, mf, ml⟩ := hS.m.mx; obtain ⟨la, lb, lc, lf, ll⟩ := hS.l.mx; have hsl := hS.lt)
                          go_wp2_with fail
                          go_roundg (gk - 1)
                          case measure => omega
                          case rel => exact ⟨i + 1, q, by go_num, by omega, by omega, by omega, HS.out, by (with_reducible (repeat (first | exact hS | refine SW.below ?_ (by assumption) Ks (by assumption) | refine SW.drew ?_ | refine SW.drewN ?_ _)))⟩
                        · have hzn : Num (s.f i j) := HG.out.ok.f i j hlt hjC
                          have hdn : Num (s.f p j) := HG.out.ok.f p j h2 hjC
                          have HST : Hid (q.add i p (-(s.f i j / s.f p j)) = swS j p t s (i + 1 - t)) := Lib.hid (by rw [hsub, sw_add (by rw [hst]; exact HIP.out) (by rw [hst]; exact hz), hst, ← HQ.out])
                          have hqn := (ediv_bd hzn HP.out).neg
                          have HDV : Hid (∀ w', Calls Try.prog 208 #[.int .i64 (s.f i j), .int .i64 (s.f p j)] w' (IIE (s.f i j / s.f p j) (s.f i j % s.f p j) true w')) := Lib.hid (fun w' => spec_DivideFloor (s.f i j) (s.f p j) w' hzn hdn HP.out)
                          have HNB : Hid (q.NBS) := Lib.hid (HQ.out ▸ swS_nb HG.out.nb _)
                          have hnz : (s.f i j != 0) = true := by simpa using hz
                          have HQI := Lib.hid hqi
                          have HQP := Lib.hid hqp
                          clear hz hqi hqp hsub hst hzn hdn
                          generalize s.f i j / s.f p j = y at *
                          generalize s.f i j % s.f p j = y2 at *
                          generalize s.f i j = z at *
                          generalize hd1 : s.f p j = d at HQP HDV
                          clear hd1
                          obtain ⟨hq1, hq2⟩ := hqn
                          go_wp2_with fail
                          (refine (spec_l12Cell_tb R C i j A n cap q.f z HQI.out _ (B := B) (by have hm := hS.om; (with_reducible (repeat (first | exact hm | refine OR.drew ?_ | refine OR.drewN ?_ _ | refine OR.alloc ?_ _ | refine OR.b_ ?_ | refine OR.l_ ?_)))) (by omega) (by omega) (by omega) (by omega)).mono ?_; rintro e w1 ⟨rfl, hb1⟩; (have hS_1 : SW w w1 B R C A n cap A2 n2 cap2 q.f q.g := (by (with_reducible (repeat (first | exact hS | refine SW.below ?_ (by assumption) Ks (by assumption) | refine SW.drew ?_ | refine SW.drewN ?_ _))))); clear hS hb1; clear ma mb mc mf ml la lb lc lf ll hsl; (have hS := hS_1); clear hS_1; obtain ⟨ma, mb, mc, mf, ml⟩ := hS.m.mx; obtain ⟨la, lb, lc, lf, ll⟩ := hS.l.mx; have hsl := hS.lt)
                          go_wp2_with fail
                          ((refine wp_region_held_drew (S := (fun w' => w'.cell? ⟨w.heap.size, 0, none⟩ = some (.int .i64 R) ∧ w'.cell? ⟨w.heap.size, 1, none⟩ = some (.int .i64 C) ∧ w'.cell? ⟨w.heap.size, 2, none⟩ = some (.slice A n cap))) (by kernel_rfl) ?_ (fun hHeld => ?_)); ((focus ((try dsimp only); (go_keep)))); ((refine tk_ (i := 0) (v := ?_) (y := Or.inl ⟨by rfl, ?_⟩) (h := ?_); rotate_left; (focus (((intro w hSw; (try dsimp only at hSw); go_simp) <;> (try with_reducible rfl)); done)); (try simp only [Act.put, p1_, p2_, p3_]))); ((refine tk_ (i := 1) (v := ?_) (y := Or.inl ⟨by rfl, ?_⟩) (h := ?_); rotate_left; (focus (((intro w hSw; (try dsimp only at hSw); go_simp) <;> (try with_reducible rfl)); done)); (try simp only [Act.put, p1_, p2_, p3_]))); ((refine tk_ (i := 2) (v := ?_) (y := Or.inl ⟨by rfl, ?_⟩) (h := ?_); rotate_left; (focus (((intro w hSw; (try dsimp only at hSw); go_simp) <;> (try with_reducible rfl)); done)); (try simp only [Act.put, p1_, p2_, p3_]))); ((refine tk_ (i := 4) (v := ?_) (y := Or.inl ⟨by rfl, ?_⟩) (h := ?_); rotate_left; (focus (((intro w hSw; (try dsimp only at hSw); go_simp) <;> (try with_reducible rfl)); done)); (try simp only [Act.put, p1_, p2_, p3_]))); ((refine tk_ (i := 5) (v := ?_) (y := Or.inl ⟨by rfl, ?_⟩) (h := ?_); rotate_left; (focus (((intro w hSw; (try dsimp only at hSw); go_simp) <;> (try with_reducible rfl)); done)); (try simp only [Act.put, p1_, p2_, p3_]))); ((refine tk_ (i := 6) (v := ?_) (y := Or.inl ⟨by rfl, ?_⟩) (h := ?_); rotate_left; (focus (((intro w hSw; (try dsimp only at hSw); go_simp) <;> (try with_reducible rfl)); done)); (try simp only [Act.put, p1_, p2_, p3_]))); ((refine wpAnyH_ready (rs := [3]) (by kernel_rfl) (by simp) ?_; refine AllReadyH.cons (by simp only [e1_, e2_, e3_]; try rfl) (fun K hK => ?_) AllReadyH.nil; go_simp; (go_at_call 108; (refine (spec_l12Cell_tb R C i j A n cap q.f z HQI.out _ (B := B) (by have hm := hS.om; (with_reducible (repeat (first | exact hm | refine OR.drew ?_ | refine OR.drewN ?_ _ | refine OR.alloc ?_ _ | refine OR.b_ ?_ | refine OR.l_ ?_)))) (by omega) (by omega) (by omega) (by omega)).mono ?_; rintro e w1 ⟨rfl, hb1⟩; (have hS_1 : SW w w1 B R C A n cap A2 n2 cap2 q.f q.g := (by (with_reducible (repeat (first | exact hS | refine SW.below ?_ (by assumption) Ks (by assumption) | refine SW.drew ?_ | refine SW.drewN ?_ _))))); clear hS hb1; clear ma mb mc mf ml la lb lc lf ll hsl; (have hS := hS_1); clear hS_1; obtain ⟨ma, mb, mc, mf, ml⟩ := hS.m.mx; obtain ⟨la, lb, lc, lf, ll⟩ := hS.l.mx; have hsl := hS.lt)); (try go_wp2_with fail); refine hK.out _ _ ?_ (fun hHeld => ?_); (focus ((try dsimp only); (go_keep))); clear hK K; (try simp only [Act.put, p1_, p2_, p3_]))); ((refine wpAnyH_ready (rs := [7]) (by kernel_rfl) (by simp) ?_; refine AllReadyH.cons (by simp only [e1_, e2_, e3_]; try rfl) (fun K hK => ?_) AllReadyH.nil; go_simp; (go_at_call 108; (refine (spec_l12Cell_tb R C p j A n cap q.f d HQP.out _ (B := B) (by have hm := hS.om; (with_reducible (repeat (first | exact hm | refine OR.drew ?_ | refine OR.drewN ?_ _ | refine OR.alloc ?_ _ | refine OR.b_ ?_ | refine OR.l_ ?_)))) (by omega) (by omega) (by omega) (by omega)).mono ?_; rintro e w1 ⟨rfl, hb1⟩; (have hS_1 : SW w w1 B R C A n cap A2 n2 cap2 q.f q.g := (by (with_reducible (repeat (first | exact hS | refine SW.below ?_ (by assumption) Ks (by assumption) | refine SW.drew ?_ | refine SW.drewN ?_ _))))); clear hS hb1; clear ma mb mc mf ml la lb lc lf ll hsl; (have hS := hS_1); clear hS_1; obtain ⟨ma, mb, mc, mf, ml⟩ := hS.m.mx; obtain ⟨la, lb, lc, lf, ll⟩ := hS.l.mx; have hsl := hS.lt)); (try go_wp2_with fail); refine hK.out _ _ ?_ (fun hHeld => ?_); (focus ((try dsimp only); (go_keep))); clear hK K; (try simp only [Act.put, p1_, p2_, p3_]))); ((refine wpAnyH_ready (rs := [8]) (by kernel_rfl) (by simp) ?_; refine AllReadyH.cons (by simp only [e1_, e2_, e3_]; try rfl) (fun K hK => ?_) AllReadyH.nil; go_simp; (go_at_call 208; refine (HDV.out _).mono ?_; rintro e w1 ⟨rfl, rfl⟩); (try go_wp2_with fail); refine hK.out _ _ ?_ (fun hHeld => ?_); (focus ((try dsimp only); (go_keep))); clear hK K; (try simp only [Act.put, p1_, p2_, p3_]))); ((refine tk_ (i := 9) (v := ?_) (y := Or.inl ⟨by rfl, ?_⟩) (h := ?_); rotate_left; (focus (((intro w hSw; (try dsimp only at hSw); go_simp) <;> (try with_reducible rfl)); done)); (try simp only [Act.put, p1_, p2_, p3_]))); ((refine tk_ (i := 10) (v := ?_) (y := Or.inl ⟨by rfl, ?_⟩) (h := ?_); rotate_left; (focus (((intro w hSw; (try dsimp only at hSw); go_simp) <;> (try with_reducible rfl)); done)); (try simp only [Act.put, p1_, p2_, p3_]))); ((refine tk_ (i := 11) (v := ?_) (y := Or.inl ⟨by rfl, ?_⟩) (h := ?_); rotate_left; (focus (((intro w hSw; (try dsimp only at hSw); go_simp) <;> (try with_reducible rfl)); done)); (try simp only [Act.put, p1_, p2_, p3_]))); ((refine tk_ (i := 12) (v := ?_) (y := Or.inl ⟨by rfl, ?_⟩) (h := ?_); rotate_left; (focus (((intro w hSw; (try dsimp only at hSw); go_simp) <;> (try with_reducible rfl)); done)); (try simp only [Act.put, p1_, p2_, p3_]))); ((refine tk_ (i := 13) (v := ?_) (y := Or.inl ⟨by rfl, ?_⟩) (h := ?_); rotate_left; (focus (((intro w hSw; (try dsimp only at hSw); go_simp) <;> (try with_reducible rfl)); done)); (try simp only [Act.put, p1_, p2_, p3_]))); ((refine tk_ (i := 14) (v := ?_) (y := Or.inl ⟨by rfl, ?_⟩) (h := ?_); rotate_left; (focus (((intro w hSw; (try dsimp only at hSw); go_simp) <;> (try with_reducible rfl)); done)); (try simp only [Act.put, p1_, p2_, p3_]))); ((refine tk_ (i := 15) (v := ?_) (y := Or.inl ⟨by rfl, ?_⟩) (h := ?_); rotate_left; (focus (((intro w hSw; (try dsimp only at hSw); go_simp) <;> (try with_reducible rfl)); done)); (try simp only [Act.put, p1_, p2_, p3_]))); (refine wpAnyH_done (by kernel_rfl) ?_ _))
                          go_wp2_with fail
                          refine (spec_l12Ops_add R C i p (-y) A n cap A2 n2 cap2 q.f q.g _ (B := B) (by have hm := hS.om; (with_reducible (repeat (first | exact hm | refine OR.drew ?_ | refine OR.drewN ?_ _ | refine OR.alloc ?_ _ | refine OR.b_ ?_ | refine OR.l_ ?_)))) (by have hm := hS.ol; (with_reducible (repeat (first | exact hm | refine OR.drew ?_ | refine OR.drewN ?_ _ | refine OR.alloc ?_ _ | refine OR.b_ ?_ | refine OR.l_ ?_)))) HAP.out Ks hlt h2 HIP.out ⟨hq1, hq2⟩ HNB.out.f HNB.out.g (by omega) hC hR).mono ?_
                          rintro e w1 ⟨rfl, hw2⟩
                          have hS_1 : SW w w1 B R C A n cap A2 n2 cap2 (q.add i p (-y)).f (q.add i p (-y)).g := SW.ops (by (with_reducible (repeat (first | exact hS | refine SW.below ?_ (by assumption) Ks (by assumption) | refine SW.drew ?_ | refine SW.drewN ?_ _)))) HOA.out HOB.out ⟨rfl, hw2⟩
                          clear hS hw2; clear ma mb mc mf ml la lb lc lf ll hsl; (have hS := hS_1); clear hS_1; obtain ⟨ma, mb, mc, mf, ml⟩ := hS.m.mx; obtain ⟨la, lb, lc, lf, ll⟩ := hS.l.mx; have hsl := hS.lt
                          go_wp2_with fail
                          go_roundg (gk - 1)
                          case measure => omega
                          case rel => exact ⟨i + 1, q.add i p (-y), by go_num, by omega, by omega, by omega, HST.out, by (with_reducible (repeat (first | exact hS | refine SW.below ?_ (by assumption) Ks (by assumption) | refine SW.drew ?_ | refine SW.drewN ?_ _)))⟩
                    · have hiR2 : i = R := by omega
                      rw [hiR2] at HQ
                      clear hiR2
                      go_wp2_with fail
                      go_meet
                      case rel => exact ⟨q, HQ.out, by (with_reducible (repeat (first | exact hS | refine SW.below ?_ (by assumption) Ks (by assumption) | refine SW.drew ?_ | refine SW.drewN ?_ _)))⟩
                case rest =>
                  clear ma mb mc mf ml la lb lc lf ll hsl
                  clear hS
                  obtain ⟨q, hq, hS⟩ := hcut
                  have hnb : q.NBS := hq ▸ swS_nb HG.out.nb _
                  rcases hoks : q.ok R C with _ | _
                  · have HX0 : Hid (X = none) := Lib.hid (by rw [← HGO.out, hmIn_bad HO.out (hq ▸ hoks)]; rfl)
                    unfold HS.ok at hoks
                    rcases ha1 : (tb R C q.f).all noBad with _ | _
                    · have HA1 := Lib.hid ha1
                      clear ha1 hoks hq hnb HGO HO
                      obtain ⟨ma, mb, mc, mf, ml⟩ := hS.m.mx; obtain ⟨la, lb, lc, lf, ll⟩ := hS.l.mx; have hsl := hS.lt
                      go_wp2_with fail
                      refine (spec_l1Bads A n cap _ _ (OR.reads (B := B) (by have hm := hS.om; (with_reducible (repeat (first | exact hm | refine OR.drew ?_ | refine OR.drewN ?_ _ | refine OR.alloc ?_ _ | refine OR.b_ ?_ | refine OR.l_ ?_))))) (by have := OR.lenEq hS.om; rw [tb_len] at this; have := Nat.mul_le_mul hR hC; omega)).mono ?_
                      rw [HA1.out]
                      rintro e w1 ⟨rfl, rfl⟩
                      go_wp2_with fail
                      go_ret
                      exact SW.no (by (with_reducible (repeat (first | exact hS | refine SW.below ?_ (by assumption) Ks (by assumption) | refine SW.drew ?_ | refine SW.drewN ?_ _)))) HX0.out
                    · have HA1 := Lib.hid ha1
                      have HA2 : Hid ((tb R R q.g).all noBad = false) := Lib.hid (by rw [ha1, Bool.true_and] at hoks; exact hoks)
                      clear ha1 hoks hq hnb HGO HO
                      obtain ⟨ma, mb, mc, mf, ml⟩ := hS.m.mx; obtain ⟨la, lb, lc, lf, ll⟩ := hS.l.mx; have hsl := hS.lt
                      go_wp2_with fail
                      refine (spec_l1Bads A n cap _ _ (OR.reads (B := B) (by have hm := hS.om; (with_reducible (repeat (first | exact hm | refine OR.drew ?_ | refine OR.drewN ?_ _ | refine OR.alloc ?_ _ | refine OR.b_ ?_ | refine OR.l_ ?_))))) (by have := OR.lenEq hS.om; rw [tb_len] at this; have := Nat.mul_le_mul hR hC; omega)).mono ?_
                      rw [HA1.out]
                      rintro e w1 ⟨rfl, rfl⟩
                      go_wp2_with fail
                      refine (spec_l1Bads A2 n2 cap2 _ _ (OR.reads (B := B) (by have hm := hS.ol; (with_reducible (repeat (first | exact hm | refine OR.drew ?_ | refine OR.drewN ?_ _ | refine OR.alloc ?_ _ | refine OR.b_ ?_ | refine OR.l_ ?_))))) (by have := OR.lenEq hS.ol; rw [tb_len] at this; have := Nat.mul_le_mul hR hR; omega)).mono ?_
                      rw [HA2.out]
                      rintro e w1 ⟨rfl, rfl⟩
                      go_wp2_with fail
                      go_ret
                      exact SW.no (by (with_reducible (repeat (first | exact hS | refine SW.below ?_ (by assumption) Ks (by assumption) | refine SW.drew ?_ | refine SW.drewN ?_ _)))) HX0.out
                  · have hQ0 : q.OK R C := (HS.ok_iff hnb).1 hoks
                    have hnx := hmIn_next (C := C) HG.out.nb hjC h2 h1 HP.out HO.out (hq ▸ hoks)
                    have hlt := hmMs_lt (C := C) HG.out.nb hjC h2 h1 HP.out HO.out (hq ▸ hQ0)
                    rw [← hq] at hnx hlt
                    have HGD : Hid (GD R C q) := Lib.hid ⟨hQ0, hnb⟩
                    have hqp : q.f p j = s.f p j := by rw [hq, swS_p]
                    have hcall2 : Hid (∀ w', OR w' B (.slice A n cap) (tb R C q.f) → Calls Try.prog 206 #[.agg #[.int .i64 R, .int .i64 C, .slice A n cap], .int .i64 t, .int .i64 j] w' (BV (.int .i64 (lst R q.f j t)) w')) := Lib.hid (fun w' hk => spec_l12Least R C t j A n cap q.f w' hk ht hjC hQ0.f hC hR)
                    have HA1 : Hid ((tb R C q.f).all noBad = true) := Lib.hid (by unfold HS.ok at hoks; rw [Bool.and_eq_true] at hoks; exact hoks.1)
                    have HA2 : Hid ((tb R R q.g).all noBad = true) := Lib.hid (by unfold HS.ok at hoks; rw [Bool.and_eq_true] at hoks; exact hoks.2)
                    rcases lst_cases R q.f j t ht with ⟨e, hz⟩ | ⟨p2, e, k1, k2, k3⟩
                    · exact absurd (hz p h1 h2) (by rw [hqp]; exact HP.out)
                    · rw [e] at hcall2 hnx hlt
                      rw [Int.toNat_natCast] at hnx hlt
                      have HN : Hid (hmGo R C (C - (j + 1)) j t (hmIn R C j t q p2) = X) := Lib.hid (by rw [← hnx]; exact HGO.out)
                      have HL := Lib.hid hlt
                      have HK3 := Lib.hid k3
                      clear hnx hlt hqp hoks hq hQ0 hnb e k3 HGO HO
                      obtain ⟨ma, mb, mc, mf, ml⟩ := hS.m.mx; obtain ⟨la, lb, lc, lf, ll⟩ := hS.l.mx; have hsl := hS.lt
                      go_wp2_with fail
                      refine (spec_l1Bads A n cap _ _ (OR.reads (B := B) (by have hm := hS.om; (with_reducible (repeat (first | exact hm | refine OR.drew ?_ | refine OR.drewN ?_ _ | refine OR.alloc ?_ _ | refine OR.b_ ?_ | refine OR.l_ ?_))))) (by have := OR.lenEq hS.om; rw [tb_len] at this; have := Nat.mul_le_mul hR hC; omega)).mono ?_
                      rw [HA1.out]
                      rintro e w1 ⟨rfl, rfl⟩
                      go_wp2_with fail
                      refine (spec_l1Bads A2 n2 cap2 _ _ (OR.reads (B := B) (by have hm := hS.ol; (with_reducible (repeat (first | exact hm | refine OR.drew ?_ | refine OR.drewN ?_ _ | refine OR.alloc ?_ _ | refine OR.b_ ?_ | refine OR.l_ ?_))))) (by have := OR.lenEq hS.ol; rw [tb_len] at this; have := Nat.mul_le_mul hR hR; omega)).mono ?_
                      rw [HA2.out]
                      rintro e w1 ⟨rfl, rfl⟩
                      go_wp2_with fail
                      refine (hcall2.out _ (by have hm := hS.om; (with_reducible (repeat (first | exact hm | refine OR.drew ?_ | refine OR.drewN ?_ _ | refine OR.alloc ?_ _ | refine OR.b_ ?_ | refine OR.l_ ?_))))).mono ?_
                      rintro e w1 ⟨rfl, hb1⟩
                      (have hS_1 : SW w w1 B R C A n cap A2 n2 cap2 q.f q.g := (by (with_reducible (repeat (first | exact hS | refine SW.below ?_ (by assumption) Ks (by assumption) | refine SW.drew ?_ | refine SW.drewN ?_ _))))); clear hS hb1; clear ma mb mc mf ml la lb lc lf ll hsl; (have hS := hS_1); clear hS_1; obtain ⟨ma, mb, mc, mf, ml⟩ := hS.m.mx; obtain ⟨la, lb, lc, lf, ll⟩ := hS.l.mx; have hsl := hS.lt
                      go_wp2_with fail
                      go_roundg (gk - 1)
                      case measure => have := HK.out; omega
                      case rel => exact ⟨q, p2, rfl, HGD.out, k1, k2, HK3.out, HN.out, by have := HK.out; have := HL.out; omega, by (with_reducible (repeat (first | exact hS | refine SW.below ?_ (by assumption) Ks (by assumption) | refine SW.drew ?_ | refine SW.drewN ?_ _)))⟩
          case rest =>
            clear ma mb mc mf ml la lb lc lf ll hsl
            clear hS HG HP HJ2 h1 h2
            obtain ⟨s, p, rfl, hG0, h2, h3, hgo, hS⟩ := hcut
            have HG := Lib.hid hG0
            have HP := Lib.hid h3
            have HGO := Lib.hid hgo
            clear hG0 h3 hgo
            obtain ⟨ma, mb, mc, mf, ml⟩ := hS.m.mx; obtain ⟨la, lb, lc, lf, ll⟩ := hS.l.mx; have hsl := hS.lt
            go_upto_if 92 with fail
            go_cut [] from 16 to 145 (fun wc => ∃ q, q = hmS1 t p s ∧ SW w wc B R C A n cap A2 n2 cap2 q.f q.g)
            case first =>
              by_cases hpt : p = t
              · have hbne : ((p : Int) != (t : Int)) = false := by simp [hpt]
                have HE : Hid (s = hmS1 t p s) := Lib.hid (by unfold hmS1; rw [if_pos hpt])
                clear hpt
                go_wp2_with fail
                go_meet
                case rel => exact ⟨s, HE.out, by (with_reducible (repeat (first | exact hS | refine SW.below ?_ (by assumption) Ks (by assumption) | refine SW.drew ?_ | refine SW.drewN ?_ _)))⟩
              · have hbne : ((p : Int) != (t : Int)) = true := by simp; omega
                have HE : Hid (s.swap p t = hmS1 t p s) := Lib.hid (by unfold hmS1; rw [if_neg hpt])
                have HPT := Lib.hid hpt
                clear hpt
                go_wp2_with fail
                refine (spec_l12Ops_swap R C p t A n cap A2 n2 cap2 s.f s.g _ (B := B) (by have hm := hS.om; (with_reducible (repeat (first | exact hm | refine OR.drew ?_ | refine OR.drewN ?_ _ | refine OR.alloc ?_ _ | refine OR.b_ ?_ | refine OR.l_ ?_)))) (by have hm := hS.ol; (with_reducible (repeat (first | exact hm | refine OR.drew ?_ | refine OR.drewN ?_ _ | refine OR.alloc ?_ _ | refine OR.b_ ?_ | refine OR.l_ ?_)))) HAP.out Ks h2 htR HPT.out (by omega) hC hR).mono ?_
                rintro e w1 ⟨rfl, hw2⟩
                have hS_1 : SW w w1 B R C A n cap A2 n2 cap2 (s.swap p t).f (s.swap p t).g := SW.ops (by (with_reducible (repeat (first | exact hS | refine SW.below ?_ (by assumption) Ks (by assumption) | refine SW.drew ?_ | refine SW.drewN ?_ _)))) HOA.out HOB.out ⟨rfl, hw2⟩
                clear hS hw2; clear ma mb mc mf ml la lb lc lf ll hsl; (have hS := hS_1); clear hS_1; obtain ⟨ma, mb, mc, mf, ml⟩ := hS.m.mx; obtain ⟨la, lb, lc, lf, ll⟩ := hS.l.mx; have hsl := hS.lt
                go_wp2_with fail
                go_meet
                case rel => exact ⟨s.swap p t, HE.out, by (with_reducible (repeat (first | exact hS | refine SW.below ?_ (by assumption) Ks (by assumption) | refine SW.drew ?_ | refine SW.drewN ?_ _)))⟩
            case rest =>
              clear ma mb mc mf ml la lb lc lf ll hsl
              clear hS
              obtain ⟨s1, hs1, hS⟩ := hcut
              have hg1 : GD R C s1 := hs1 ▸ HG.out.s1 h2 htR
              have hpv : s1.f t j ≠ 0 := by rw [hs1, hmS1_piv]; exact HP.out
              have hzn := hg1.ok.f t j htR hjC
              have HS1 := Lib.hid hs1
              have HG1 := Lib.hid hg1
              have HPV := Lib.hid hpv
              have HZN := Lib.hid hzn
              clear hs1 hg1 hpv
              generalize hz : s1.f t j = z at hzn
              have HZ := Lib.hid hz
              clear hz
              obtain ⟨ma, mb, mc, mf, ml⟩ := hS.m.mx; obtain ⟨la, lb, lc, lf, ll⟩ := hS.l.mx; have hsl := hS.lt
              go_wp2_with fail
              (refine (spec_l12Cell_tb R C t j A n cap s1.f z HZ.out _ (B := B) (by have hm := hS.om; (with_reducible (repeat (first | exact hm | refine OR.drew ?_ | refine OR.drewN ?_ _ | refine OR.alloc ?_ _ | refine OR.b_ ?_ | refine OR.l_ ?_)))) (by omega) (by omega) (by omega) (by omega)).mono ?_; rintro e w1 ⟨rfl, hb1⟩; (have hS_1 : SW w w1 B R C A n cap A2 n2 cap2 s1.f s1.g := (by (with_reducible (repeat (first | exact hS | refine SW.below ?_ (by assumption) Ks (by assumption) | refine SW.drew ?_ | refine SW.drewN ?_ _))))); clear hS hb1; clear ma mb mc mf ml la lb lc lf ll hsl; (have hS := hS_1); clear hS_1; obtain ⟨ma, mb, mc, mf, ml⟩ := hS.m.mx; obtain ⟨la, lb, lc, lf, ll⟩ := hS.l.mx; have hsl := hS.lt)
              go_upto_if 103 with fail
              go_cut [] from 16 to 145 (fun wc => ∃ q, q = hmS2 j t s1 ∧ SW w wc B R C A n cap A2 n2 cap2 q.f q.g)
              case first =>
                by_cases hz0 : z < 0
                · have HE : Hid (s1.neg t = hmS2 j t s1) := Lib.hid (by unfold hmS2; rw [if_pos (by rw [HZ.out]; exact hz0)])
                  go_wp2_with fail
                  refine (spec_l12Ops_neg R C t A n cap A2 n2 cap2 s1.f s1.g _ (B := B) (by have hm := hS.om; (with_reducible (repeat (first | exact hm | refine OR.drew ?_ | refine OR.drewN ?_ _ | refine OR.alloc ?_ _ | refine OR.b_ ?_ | refine OR.l_ ?_)))) (by have hm := hS.ol; (with_reducible (repeat (first | exact hm | refine OR.drew ?_ | refine OR.drewN ?_ _ | refine OR.alloc ?_ _ | refine OR.b_ ?_ | refine OR.l_ ?_)))) HAP.out Ks htR HG1.out.ok.f HG1.out.ok.g (by omega) hC hR).mono ?_
                  rintro e w1 ⟨rfl, hw2⟩
                  have hS_1 : SW w w1 B R C A n cap A2 n2 cap2 (s1.neg t).f (s1.neg t).g := SW.ops (by (with_reducible (repeat (first | exact hS | refine SW.below ?_ (by assumption) Ks (by assumption) | refine SW.drew ?_ | refine SW.drewN ?_ _)))) HOA.out HOB.out ⟨rfl, hw2⟩
                  clear hS hw2; clear ma mb mc mf ml la lb lc lf ll hsl; (have hS := hS_1); clear hS_1; obtain ⟨ma, mb, mc, mf, ml⟩ := hS.m.mx; obtain ⟨la, lb, lc, lf, ll⟩ := hS.l.mx; have hsl := hS.lt
                  go_wp2_with fail
                  go_meet
                  case rel => exact ⟨s1.neg t, HE.out, by (with_reducible (repeat (first | exact hS | refine SW.below ?_ (by assumption) Ks (by assumption) | refine SW.drew ?_ | refine SW.drewN ?_ _)))⟩
                · have HE : Hid (s1 = hmS2 j t s1) := Lib.hid (by unfold hmS2; rw [if_neg (by rw [HZ.out]; exact hz0)])
                  go_wp2_with fail
                  go_meet
                  case rel => exact ⟨s1, HE.out, by (with_reducible (repeat (first | exact hS | refine SW.below ?_ (by assumption) Ks (by assumption) | refine SW.drew ?_ | refine SW.drewN ?_ _)))⟩
              case rest =>
                clear ma mb mc mf ml la lb lc lf ll hsl
                clear hS
                obtain ⟨s2, hs2, hS⟩ := hcut
                have hg2 : GD R C s2 := hs2 ▸ HG1.out.s2 htR
                have hp2 : s2.f t j ≠ 0 := by rw [hs2]; exact hmS2_piv HZN.out HPV.out
                have HFG : Hid (GD R C (hmS2 j t (hmS1 t p s))) := Lib.hid (by rw [← HS1.out, ← hs2]; exact hg2)
                have HFE : Hid (s2 = hmS2 j t (hmS1 t p s)) := Lib.hid (by rw [← HS1.out]; exact hs2)
                have HG2 := Lib.hid hg2
                have HP2 := Lib.hid hp2
                clear hs2 hg2 hp2 HZN HPV HZ hzn HS1 HG1
                obtain ⟨ma, mb, mc, mf, ml⟩ := hS.m.mx; obtain ⟨la, lb, lc, lf, ll⟩ := hS.l.mx; have hsl := hS.lt
                go_upto_block 6 with fail
                go_cut [] from 16 to 145 (fun wc => ∃ q, q = abS j t s2 t ∧ SW w wc B R C A n cap A2 n2 cap2 q.f q.g)
                case first =>
                  go_wp2_with fail
                  go_loopg [12] (t + 1) (fun k vi wr => ∃ (i : Nat) (q : HS), vi = .int .i64 i ∧ i ≤ t ∧ t - i < k ∧ q = abS j t s2 i ∧ SW w wr B R C A n cap A2 n2 cap2 q.f q.g)
                  case atStart => exact ⟨0, s2, rfl, Nat.zero_le _, by omega, rfl, by (with_reducible (repeat (first | exact hS | refine SW.below ?_ (by assumption) Ks (by assumption) | refine SW.drew ?_ | refine SW.drewN ?_ _)))⟩
                  case round =>
                    clear ma mb mc mf ml la lb lc lf ll hsl
                    clear hS
                    obtain ⟨i, q, rfl, hit, hk3, hq, hS⟩ := hrel
                    have HQ := Lib.hid hq
                    clear hq
                    obtain ⟨ma, mb, mc, mf, ml⟩ := hS.m.mx; obtain ⟨la, lb, lc, lf, ll⟩ := hS.l.mx; have hsl := hS.lt
                    by_cases hlt : i < t
                    · have hzn : Num (s2.f i j) := HG2.out.ok.f i j (by omega) hjC
                      have hdn : Num (s2.f t j) := HG2.out.ok.f t j htR hjC
                      have hqi : q.f i j = s2.f i j := by rw [HQ.out, abS_late j _ (Nat.le_refl _)]
                      have hqp : q.f t j = s2.f t j := by rw [HQ.out, abS_late j _ (by omega)]
                      have HST : Hid (q.add i t (-(s2.f i j / s2.f t j)) = abS j t s2 (i + 1)) := Lib.hid (by rw [ab_add hlt, ← HQ.out])
                      have hqn := (ediv_bd hzn HP2.out).neg
                      have HDV : Hid (∀ w', Calls Try.prog 208 #[.int .i64 (s2.f i j), .int .i64 (s2.f t j)] w' (IIE (s2.f i j / s2.f t j) (s2.f i j % s2.f t j) true w')) := Lib.hid (fun w' => spec_DivideFloor (s2.f i j) (s2.f t j) w' hzn hdn HP2.out)
                      have HNB : Hid (q.NBS) := Lib.hid (HQ.out ▸ abS_nb HG2.out.nb _)
                      have HQI := Lib.hid hqi
                      have HQP := Lib.hid hqp
                      clear hqi hqp hzn hdn
                      generalize s2.f i j / s2.f t j = y at *
                      generalize s2.f i j % s2.f t j = y2 at *
                      generalize s2.f i j = z at *
                      generalize hd1 : s2.f t j = d at HQP HDV
                      clear hd1
                      obtain ⟨hq1, hq2⟩ := hqn
                      go_wp2_with fail
                      ((refine wp_region_held_drew (S := (fun w' => w'.cell? ⟨w.heap.size, 0, none⟩ = some (.int .i64 R) ∧ w'.cell? ⟨w.heap.size, 1, none⟩ = some (.int .i64 C) ∧ w'.cell? ⟨w.heap.size, 2, none⟩ = some (.slice A n cap))) (by kernel_rfl) ?_ (fun hHeld => ?_)); ((focus ((try dsimp only); (go_keep)))); ((refine tk_ (i := 0) (v := ?_) (y := Or.inl ⟨by rfl, ?_⟩) (h := ?_); rotate_left; (focus (((intro w hSw; (try dsimp only at hSw); go_simp) <;> (try with_reducible rfl)); done)); (try simp only [Act.put, p1_, p2_, p3_]))); ((refine tk_ (i := 1) (v := ?_) (y := Or.inl ⟨by rfl, ?_⟩) (h := ?_); rotate_left; (focus (((intro w hSw; (try dsimp only at hSw); go_simp) <;> (try with_reducible rfl)); done)); (try simp only [Act.put, p1_, p2_, p3_]))); ((refine tk_ (i := 2) (v := ?_) (y := Or.inl ⟨by rfl, ?_⟩) (h := ?_); rotate_left; (focus (((intro w hSw; (try dsimp only at hSw); go_simp) <;> (try with_reducible rfl)); done)); (try simp only [Act.put, p1_, p2_, p3_]))); ((refine tk_ (i := 4) (v := ?_) (y := Or.inl ⟨by rfl, ?_⟩) (h := ?_); rotate_left; (focus (((intro w hSw; (try dsimp only at hSw); go_simp) <;> (try with_reducible rfl)); done)); (try simp only [Act.put, p1_, p2_, p3_]))); ((refine tk_ (i := 5) (v := ?_) (y := Or.inl ⟨by rfl, ?_⟩) (h := ?_); rotate_left; (focus (((intro w hSw; (try dsimp only at hSw); go_simp) <;> (try with_reducible rfl)); done)); (try simp only [Act.put, p1_, p2_, p3_]))); ((refine tk_ (i := 6) (v := ?_) (y := Or.inl ⟨by rfl, ?_⟩) (h := ?_); rotate_left; (focus (((intro w hSw; (try dsimp only at hSw); go_simp) <;> (try with_reducible rfl)); done)); (try simp only [Act.put, p1_, p2_, p3_]))); ((refine wpAnyH_ready (rs := [3]) (by kernel_rfl) (by simp) ?_; refine AllReadyH.cons (by simp only [e1_, e2_, e3_]; try rfl) (fun K hK => ?_) AllReadyH.nil; go_simp; (go_at_call 108; (refine (spec_l12Cell_tb R C i j A n cap q.f z HQI.out _ (B := B) (by have hm := hS.om; (with_reducible (repeat (first | exact hm | refine OR.drew ?_ | refine OR.drewN ?_ _ | refine OR.alloc ?_ _ | refine OR.b_ ?_ | refine OR.l_ ?_)))) (by omega) (by omega) (by omega) (by omega)).mono ?_; rintro e w1 ⟨rfl, hb1⟩; (have hS_1 : SW w w1 B R C A n cap A2 n2 cap2 q.f q.g := (by (with_reducible (repeat (first | exact hS | refine SW.below ?_ (by assumption) Ks (by assumption) | refine SW.drew ?_ | refine SW.drewN ?_ _))))); clear hS hb1; clear ma mb mc mf ml la lb lc lf ll hsl; (have hS := hS_1); clear hS_1; obtain ⟨ma, mb, mc, mf, ml⟩ := hS.m.mx; obtain ⟨la, lb, lc, lf, ll⟩ := hS.l.mx; have hsl := hS.lt)); (try go_wp2_with fail); refine hK.out _ _ ?_ (fun hHeld => ?_); (focus ((try dsimp only); (go_keep))); clear hK K; (try simp only [Act.put, p1_, p2_, p3_]))); ((refine wpAnyH_ready (rs := [7]) (by kernel_rfl) (by simp) ?_; refine AllReadyH.cons (by simp only [e1_, e2_, e3_]; try rfl) (fun K hK => ?_) AllReadyH.nil; go_simp; (go_at_call 108; (refine (spec_l12Cell_tb R C t j A n cap q.f d HQP.out _ (B := B) (by have hm := hS.om; (with_reducible (repeat (first | exact hm | refine OR.drew ?_ | refine OR.drewN ?_ _ | refine OR.alloc ?_ _ | refine OR.b_ ?_ | refine OR.l_ ?_)))) (by omega) (by omega) (by omega) (by omega)).mono ?_; rintro e w1 ⟨rfl, hb1⟩; (have hS_1 : SW w w1 B R C A n cap A2 n2 cap2 q.f q.g := (by (with_reducible (repeat (first | exact hS | refine SW.below ?_ (by assumption) Ks (by assumption) | refine SW.drew ?_ | refine SW.drewN ?_ _))))); clear hS hb1; clear ma mb mc mf ml la lb lc lf ll hsl; (have hS := hS_1); clear hS_1; obtain ⟨ma, mb, mc, mf, ml⟩ := hS.m.mx; obtain ⟨la, lb, lc, lf, ll⟩ := hS.l.mx; have hsl := hS.lt)); (try go_wp2_with fail); refine hK.out _ _ ?_ (fun hHeld => ?_); (focus ((try dsimp only); (go_keep))); clear hK K; (try simp only [Act.put, p1_, p2_, p3_]))); ((refine wpAnyH_ready (rs := [8]) (by kernel_rfl) (by simp) ?_; refine AllReadyH.cons (by simp only [e1_, e2_, e3_]; try rfl) (fun K hK => ?_) AllReadyH.nil; go_simp; (go_at_call 208; refine (HDV.out _).mono ?_; rintro e w1 ⟨rfl, rfl⟩); (try go_wp2_with fail); refine hK.out _ _ ?_ (fun hHeld => ?_); (focus ((try dsimp only); (go_keep))); clear hK K; (try simp only [Act.put, p1_, p2_, p3_]))); ((refine tk_ (i := 9) (v := ?_) (y := Or.inl ⟨by rfl, ?_⟩) (h := ?_); rotate_left; (focus (((intro w hSw; (try dsimp only at hSw); go_simp) <;> (try with_reducible rfl)); done)); (try simp only [Act.put, p1_, p2_, p3_]))); ((refine tk_ (i := 10) (v := ?_) (y := Or.inl ⟨by rfl, ?_⟩) (h := ?_); rotate_left; (focus (((intro w hSw; (try dsimp only at hSw); go_simp) <;> (try with_reducible rfl)); done)); (try simp only [Act.put, p1_, p2_, p3_]))); ((refine tk_ (i := 11) (v := ?_) (y := Or.inl ⟨by rfl, ?_⟩) (h := ?_); rotate_left; (focus (((intro w hSw; (try dsimp only at hSw); go_simp) <;> (try with_reducible rfl)); done)); (try simp only [Act.put, p1_, p2_, p3_]))); ((refine tk_ (i := 12) (v := ?_) (y := Or.inl ⟨by rfl, ?_⟩) (h := ?_); rotate_left; (focus (((intro w hSw; (try dsimp only at hSw); go_simp) <;> (try with_reducible rfl)); done)); (try simp only [Act.put, p1_, p2_, p3_]))); ((refine tk_ (i := 13) (v := ?_) (y := Or.inl ⟨by rfl, ?_⟩) (h := ?_); rotate_left; (focus (((intro w hSw; (try dsimp only at hSw); go_simp) <;> (try with_reducible rfl)); done)); (try simp only [Act.put, p1_, p2_, p3_]))); ((refine tk_ (i := 14) (v := ?_) (y := Or.inl ⟨by rfl, ?_⟩) (h := ?_); rotate_left; (focus (((intro w hSw; (try dsimp only at hSw); go_simp) <;> (try with_reducible rfl)); done)); (try simp only [Act.put, p1_, p2_, p3_]))); ((refine tk_ (i := 15) (v := ?_) (y := Or.inl ⟨by rfl, ?_⟩) (h := ?_); rotate_left; (focus (((intro w hSw; (try dsimp only at hSw); go_simp) <;> (try with_reducible rfl)); done)); (try simp only [Act.put, p1_, p2_, p3_]))); (refine wpAnyH_done (by kernel_rfl) ?_ _))
                      go_wp2_with fail
                      refine (spec_l12Ops_add R C i t (-y) A n cap A2 n2 cap2 q.f q.g _ (B := B) (by have hm := hS.om; (with_reducible (repeat (first | exact hm | refine OR.drew ?_ | refine OR.drewN ?_ _ | refine OR.alloc ?_ _ | refine OR.b_ ?_ | refine OR.l_ ?_)))) (by have hm := hS.ol; (with_reducible (repeat (first | exact hm | refine OR.drew ?_ | refine OR.drewN ?_ _ | refine OR.alloc ?_ _ | refine OR.b_ ?_ | refine OR.l_ ?_)))) HAP.out Ks (by omega) htR (by omega) ⟨hq1, hq2⟩ HNB.out.f HNB.out.g (by omega) hC hR).mono ?_
                      rintro e w1 ⟨rfl, hw2⟩
                      have hS_1 : SW w w1 B R C A n cap A2 n2 cap2 (q.add i t (-y)).f (q.add i t (-y)).g := SW.ops (by (with_reducible (repeat (first | exact hS | refine SW.below ?_ (by assumption) Ks (by assumption) | refine SW.drew ?_ | refine SW.drewN ?_ _)))) HOA.out HOB.out ⟨rfl, hw2⟩
                      clear hS hw2; clear ma mb mc mf ml la lb lc lf ll hsl; (have hS := hS_1); clear hS_1; obtain ⟨ma, mb, mc, mf, ml⟩ := hS.m.mx; obtain ⟨la, lb, lc, lf, ll⟩ := hS.l.mx; have hsl := hS.lt
                      go_wp2_with fail
                      go_roundg (gk - 1)
                      case measure => omega
                      case rel => exact ⟨i + 1, q.add i t (-y), by go_num, by omega, by omega, HST.out, by (with_reducible (repeat (first | exact hS | refine SW.below ?_ (by assumption) Ks (by assumption) | refine SW.drew ?_ | refine SW.drewN ?_ _)))⟩
                    · have hit2 : i = t := by omega
                      rw [hit2] at HQ
                      clear hit2
                      go_wp2_with fail
                      go_meet
                      case rel => exact ⟨q, HQ.out, by (with_reducible (repeat (first | exact hS | refine SW.below ?_ (by assumption) Ks (by assumption) | refine SW.drew ?_ | refine SW.drewN ?_ _)))⟩
                case rest =>
                  clear ma mb mc mf ml la lb lc lf ll hsl
                  clear hS
                  obtain ⟨q, hq, hS⟩ := hcut
                  have hnb : q.NBS := hq ▸ abS_nb HG2.out.nb _
                  rcases hoks : q.ok R C with _ | _
                  · have HX0 : Hid (X = none) := Lib.hid (by
                      rw [← HGO.out, hmGo_bad (ab_no HFG.out (Nat.le_refl _) (by
                        rw [← HFE.out, ← hq]
                        intro h5
                        rw [(HS.ok_iff hnb).2 h5] at hoks
                        cases hoks))])
                    unfold HS.ok at hoks
                    rcases ha1 : (tb R C q.f).all noBad with _ | _
                    · have HA1 := Lib.hid ha1
                      clear ha1 hoks hq hnb HGO
                      obtain ⟨ma, mb, mc, mf, ml⟩ := hS.m.mx; obtain ⟨la, lb, lc, lf, ll⟩ := hS.l.mx; have hsl := hS.lt
                      go_wp2_with fail
                      refine (spec_l1Bads A n cap _ _ (OR.reads (B := B) (by have hm := hS.om; (with_reducible (repeat (first | exact hm | refine OR.drew ?_ | refine OR.drewN ?_ _ | refine OR.alloc ?_ _ | refine OR.b_ ?_ | refine OR.l_ ?_))))) (by have := OR.lenEq hS.om; rw [tb_len] at this; have := Nat.mul_le_mul hR hC; omega)).mono ?_
                      rw [HA1.out]
                      rintro e w1 ⟨rfl, rfl⟩
                      go_wp2_with fail
                      go_ret
                      exact SW.no (by (with_reducible (repeat (first | exact hS | refine SW.below ?_ (by assumption) Ks (by assumption) | refine SW.drew ?_ | refine SW.drewN ?_ _)))) HX0.out
                    · have HA1 := Lib.hid ha1
                      have HA2 : Hid ((tb R R q.g).all noBad = false) := Lib.hid (by rw [ha1, Bool.true_and] at hoks; exact hoks)
                      clear ha1 hoks hq hnb HGO
                      obtain ⟨ma, mb, mc, mf, ml⟩ := hS.m.mx; obtain ⟨la, lb, lc, lf, ll⟩ := hS.l.mx; have hsl := hS.lt
                      go_wp2_with fail
                      refine (spec_l1Bads A n cap _ _ (OR.reads (B := B) (by have hm := hS.om; (with_reducible (repeat (first | exact hm | refine OR.drew ?_ | refine OR.drewN ?_ _ | refine OR.alloc ?_ _ | refine OR.b_ ?_ | refine OR.l_ ?_))))) (by have := OR.lenEq hS.om; rw [tb_len] at this; have := Nat.mul_le_mul hR hC; omega)).mono ?_
                      rw [HA1.out]
                      rintro e w1 ⟨rfl, rfl⟩
                      go_wp2_with fail
                      refine (spec_l1Bads A2 n2 cap2 _ _ (OR.reads (B := B) (by have hm := hS.ol; (with_reducible (repeat (first | exact hm | refine OR.drew ?_ | refine OR.drewN ?_ _ | refine OR.alloc ?_ _ | refine OR.b_ ?_ | refine OR.l_ ?_))))) (by have := OR.lenEq hS.ol; rw [tb_len] at this; have := Nat.mul_le_mul hR hR; omega)).mono ?_
                      rw [HA2.out]
                      rintro e w1 ⟨rfl, rfl⟩
                      go_wp2_with fail
                      go_ret
                      exact SW.no (by (with_reducible (repeat (first | exact hS | refine SW.below ?_ (by assumption) Ks (by assumption) | refine SW.drew ?_ | refine SW.drewN ?_ _)))) HX0.out
                  · have hQ0 : q.OK R C := (HS.ok_iff hnb).1 hoks
                    have HX2 : Hid (hmOut R C (C - (j + 1)) (j + 1) (t + 1) q = X) := Lib.hid (by
                      rw [← HGO.out, hmGo_next (ab_yes HFG.out (by rw [← HFE.out, ← hq]; exact hQ0)), ← HFE.out, ← hq])
                    have HGQ : Hid (GD R C q) := Lib.hid ⟨hQ0, hnb⟩
                    have HA1 : Hid ((tb R C q.f).all noBad = true) := Lib.hid (by unfold HS.ok at hoks; rw [Bool.and_eq_true] at hoks; exact hoks.1)
                    have HA2 : Hid ((tb R R q.g).all noBad = true) := Lib.hid (by unfold HS.ok at hoks; rw [Bool.and_eq_true] at hoks; exact hoks.2)
                    clear hq hQ0 hnb hoks HGO HFG HFE
                    obtain ⟨ma, mb, mc, mf, ml⟩ := hS.m.mx; obtain ⟨la, lb, lc, lf, ll⟩ := hS.l.mx; have hsl := hS.lt
                    go_wp2_with fail
                    refine (spec_l1Bads A n cap _ _ (OR.reads (B := B) (by have hm := hS.om; (with_reducible (repeat (first | exact hm | refine OR.drew ?_ | refine OR.drewN ?_ _ | refine OR.alloc ?_ _ | refine OR.b_ ?_ | refine OR.l_ ?_))))) (by have := OR.lenEq hS.om; rw [tb_len] at this; have := Nat.mul_le_mul hR hC; omega)).mono ?_
                    rw [HA1.out]
                    rintro e w1 ⟨rfl, rfl⟩
                    go_wp2_with fail
                    refine (spec_l1Bads A2 n2 cap2 _ _ (OR.reads (B := B) (by have hm := hS.ol; (with_reducible (repeat (first | exact hm | refine OR.drew ?_ | refine OR.drewN ?_ _ | refine OR.alloc ?_ _ | refine OR.b_ ?_ | refine OR.l_ ?_))))) (by have := OR.lenEq hS.ol; rw [tb_len] at this; have := Nat.mul_le_mul hR hR; omega)).mono ?_
                    rw [HA2.out]
                    rintro e w1 ⟨rfl, rfl⟩
                    go_wp2_with fail
                    go_roundg (gk - 1)
                    case measure => omega
                    case rel => exact ⟨q, j + 1, t + 1, by go_num, by go_num, by omega, by omega, by omega, HGQ.out, HX2.out, by (with_reducible (repeat (first | exact hS | refine SW.below ?_ (by assumption) Ks (by assumption) | refine SW.drew ?_ | refine SW.drewN ?_ _)))⟩
      · obtain rfl : t = R := by omega
        rw [hmOut_full (by omega)] at hout
        have HO := Lib.hid hout
        clear hout
        go_wp2_with fail
        go_ret
        exact SW.yes (by (with_reducible (repeat (first | exact hS | refine SW.below ?_ (by assumption) Ks (by assumption) | refine SW.drew ?_ | refine SW.drewN ?_ _)))) HO.out.symm
    · obtain rfl : j = C := by omega
      rw [Nat.sub_self, hmOut_zero] at hout
      have HO := Lib.hid hout
      clear hout
      go_wp2_with fail
      go_ret
      exact SW.yes (by (with_reducible (repeat (first | exact hS | refine SW.below ?_ (by assumption) Ks (by assumption) | refine SW.drew ?_ | refine SW.drewN ?_ _)))) HO.out.symm
end Go.Proofs.Ytacjonkehcamgaa

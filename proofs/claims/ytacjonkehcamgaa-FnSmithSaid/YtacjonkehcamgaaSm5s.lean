/-
  DERIVED. A round of the reference's Smith form.
-/
import Derived.Test.YtacjonkehcamgaaU4
import Derived.Test.YtacjonkehcamgaaU3
import Derived.Deep.CutBlock
import Derived.Deep.LoopGhost
namespace Go.Proofs.Ytacjonkehcamgaa
open Go.RowKit
set_option linter.unusedVariables false
set_option linter.unusedSimpArgs false
theorem OR.sameBlock {w w' : World} {B : Nat} {v : Value} {xs : List Int} (h : OR w B v xs) (hk : ∀ g, v.ownBlock = some g → w'.heap[g]? = w.heap[g]?) : OR w' B v xs := by
  refine ⟨h.1, ?_⟩
  rcases h.2 with hn | ⟨g, cap, cur, rfl, hb, hgg, rest⟩
  · exact .inl hn
  · exact .inr ⟨g, cap, cur, rfl, hb, (hk g rfl).trans hgg, rest⟩
/-- The call's own variables and the three matrices that it works upon. -/
structure SW3 (w wr : World) (B R C : Nat) (A : Option Addr) (n cap : Nat) (A2 : Option Addr) (n2 cap2 : Nat) (A3 : Option Addr) (n3 cap3 : Nat) (f g h : Fn2) : Prop where
  m : BM wr w.heap.size R C A n cap
  l : BM wr (w.heap.size + 1) R R A2 n2 cap2
  r : BM wr (w.heap.size + 1 + 1) C C A3 n3 cap3
  om : OR wr B (.slice A n cap) (tb R C f)
  ol : OR wr B (.slice A2 n2 cap2) (tb R R g)
  ov : OR wr B (.slice A3 n3 cap3) (tb C C h)
  b : Below B w wr
  k : ∀ k, k < w.heap.size → some k ≠ (Value.slice A n cap).ownBlock → some k ≠ (Value.slice A2 n2 cap2).ownBlock → some k ≠ (Value.slice A3 n3 cap3).ownBlock → wr.heap[k]? = w.heap[k]?
/-- What a call that works upon three matrices leaves. -/
def W3 (sv sv2 sv3 : Value) (B R C : Nat) (f g h : Fn2) (r : Value) (w : World) (e : Ending) (w' : World) : Prop :=
  e = .returned r ∧ OR w' B sv (tb R C f) ∧ OR w' B sv2 (tb R R g) ∧ OR w' B sv3 (tb C C h) ∧ Below B w w' ∧ ∀ k, k < w.heap.size → some k ≠ sv.ownBlock → some k ≠ sv2.ownBlock → some k ≠ sv3.ownBlock → w'.heap[k]? = w.heap[k]?
section
variable {w wr w' : World} {B R C n cap n2 cap2 n3 cap3 : Nat} {A A2 A3 : Option Addr} {f g h f' g' h' : Fn2}
theorem SW3.lt (h0 : SW3 w wr B R C A n cap A2 n2 cap2 A3 n3 cap3 f g h) : w.heap.size + 1 + 1 < wr.heap.size := h0.r.lt
theorem SW3.below {D : Nat} (h0 : SW3 w wr B R C A n cap A2 n2 cap2 A3 n3 cap3 f g h) (hD : Below D wr w') (hs : wr.heap.size ≤ D) (hBs : B ≤ w.heap.size) : SW3 w w' B R C A n cap A2 n2 cap2 A3 n3 cap3 f g h :=
  have hl := h0.lt
  ⟨h0.m.below hD (by omega), h0.l.below hD (by omega), h0.r.below hD (by omega), h0.om.below hD hs, h0.ol.below hD hs, h0.ov.below hD hs, h0.b.trans (hD.mono (by omega)), fun k hk e1 e2 e3 => (hD.block k (by omega)).trans (h0.k k hk e1 e2 e3)⟩
theorem SW3.drew (h0 : SW3 w wr B R C A n cap A2 n2 cap2 A3 n3 cap3 f g h) : SW3 w wr.drew B R C A n cap A2 n2 cap2 A3 n3 cap3 f g h := ⟨h0.m.drew, h0.l.drew, h0.r.drew, h0.om.drew, h0.ol.drew, h0.ov.drew, h0.b.drew, h0.k⟩
theorem SW3.drewN (h0 : SW3 w wr B R C A n cap A2 n2 cap2 A3 n3 cap3 f g h) (q : Nat) : SW3 w (wr.drewN q) B R C A n cap A2 n2 cap2 A3 n3 cap3 f g h := ⟨h0.m.drewN q, h0.l.drewN q, h0.r.drewN q, h0.om.drewN q, h0.ol.drewN q, h0.ov.drewN q, below_drewN h0.b q, h0.k⟩
theorem SW3.alloc (h0 : SW3 w wr B R C A n cap A2 n2 cap2 A3 n3 cap3 f g h) (hBs : B ≤ w.heap.size) (o : Obj) : SW3 w (wr.alloc o) B R C A n cap A2 n2 cap2 A3 n3 cap3 f g h :=
  h0.below (D := wr.heap.size) (Below.alloc (Below.refl _ _) (Nat.le_refl _) o) (Nat.le_refl _) hBs
/-- What a call did to the three of them, or to some. -/
theorem SW3.by_ {e : Ending} {r : Value} (h0 : SW3 w wr B R C A n cap A2 n2 cap2 A3 n3 cap3 f g h) (hA : Own (.slice A n cap) B w.heap.size) (hA2 : Own (.slice A2 n2 cap2) B w.heap.size) (hA3 : Own (.slice A3 n3 cap3) B w.heap.size)
    (hr : W3 (.slice A n cap) (.slice A2 n2 cap2) (.slice A3 n3 cap3) B R C f' g' h' r wr e w') : SW3 w w' B R C A n cap A2 n2 cap2 A3 n3 cap3 f' g' h' := by
  obtain ⟨-, h1, h2, h3, h4, h5⟩ := hr
  have hl := h0.lt
  have m1 : ∀ k, w.heap.size ≤ k → some k ≠ (Value.slice A n cap).ownBlock := fun k hk e => by have := hA k e.symm; omega
  have m2 : ∀ k, w.heap.size ≤ k → some k ≠ (Value.slice A2 n2 cap2).ownBlock := fun k hk e => by have := hA2 k e.symm; omega
  have m3 : ∀ k, w.heap.size ≤ k → some k ≠ (Value.slice A3 n3 cap3).ownBlock := fun k hk e => by have := hA3 k e.symm; omega
  have hq : ∀ k, w.heap.size ≤ k → k < wr.heap.size → w'.heap[k]? = wr.heap[k]? := fun k a b => h5 k b (m1 k a) (m2 k a) (m3 k a)
  exact ⟨(hq _ (by omega) (by omega)).trans h0.m, (hq _ (by omega) (by omega)).trans h0.l, (hq _ (by omega) (by omega)).trans h0.r, h1, h2, h3, h0.b.trans h4,
    fun k hk e1 e2 e3 => (h5 k (by omega) e1 e2 e3).trans (h0.k k hk e1 e2 e3)⟩
theorem W3.ofOps {e : Ending} (h0 : SW3 w wr B R C A n cap A2 n2 cap2 A3 n3 cap3 f g h) (ha : Apart (.slice A n cap) (.slice A3 n3 cap3)) (ha2 : Apart (.slice A2 n2 cap2) (.slice A3 n3 cap3))
    (hr : WW2 (.slice A n cap) (.slice A2 n2 cap2) B (tb R C f') (tb R R g') wr e w') : W3 (.slice A n cap) (.slice A2 n2 cap2) (.slice A3 n3 cap3) B R C f' g' h (.tuple #[]) wr e w' := by
  obtain ⟨h1, h2, h3, h4, h5⟩ := hr
  refine ⟨h1, h2, h3, h0.ov.sameBlock fun q hq => ?_, h4, fun k hk e1 e2 _ => h5 k hk e1 e2⟩
  exact h5 q (h0.ov.own q hq).2 (fun e => ha q e.symm hq) (fun e => ha2 q e.symm hq)
theorem W3.ofM {r : Value} {e : Ending} (h0 : SW3 w wr B R C A n cap A2 n2 cap2 A3 n3 cap3 f g h) (hBs : B ≤ wr.heap.size) (ha1 : Apart (.slice A n cap) (.slice A2 n2 cap2)) (ha : Apart (.slice A n cap) (.slice A3 n3 cap3))
    (hr : WW r (.slice A n cap) B (tb R C f') wr e w') : W3 (.slice A n cap) (.slice A2 n2 cap2) (.slice A3 n3 cap3) B R C f' g h r wr e w' := by
  obtain ⟨h1, h2, h3, h4⟩ := hr
  exact ⟨h1, h2, h0.ol.kept h3 ha1.symm.ne, h0.ov.kept h3 ha.symm.ne, h0.om.below_grown h3 hBs, fun k hk e1 _ _ => h3.block k hk e1⟩
theorem W3.ofR {r : Value} {e : Ending} (h0 : SW3 w wr B R C A n cap A2 n2 cap2 A3 n3 cap3 f g h) (hBs : B ≤ wr.heap.size) (ha : Apart (.slice A n cap) (.slice A3 n3 cap3)) (ha2 : Apart (.slice A2 n2 cap2) (.slice A3 n3 cap3))
    (hr : WW r (.slice A3 n3 cap3) B (tb C C h') wr e w') : W3 (.slice A n cap) (.slice A2 n2 cap2) (.slice A3 n3 cap3) B R C f g h' r wr e w' := by
  obtain ⟨h1, h2, h3, h4⟩ := hr
  exact ⟨h1, h0.om.kept h3 ha.ne, h0.ol.kept h3 ha2.ne, h2, h0.ov.below_grown h3 hBs, fun k hk _ _ e3 => h3.block k hk e3⟩
theorem SW3.ret {r : Value} (h0 : SW3 w wr B R C A n cap A2 n2 cap2 A3 n3 cap3 f g h) : W3 (.slice A n cap) (.slice A2 n2 cap2) (.slice A3 n3 cap3) B R C f g h r w (.returned r) wr :=
  ⟨rfl, h0.om, h0.ol, h0.ov, h0.b, h0.k⟩
theorem SW3.as (h0 : SW3 w wr B R C A n cap A2 n2 cap2 A3 n3 cap3 f g h) (e1 : f = f') (e2 : g = g') (e3 : h = h') : SW3 w wr B R C A n cap A2 n2 cap2 A3 n3 cap3 f' g' h' := by subst e1; subst e2; subst e3; exact h0
end
theorem clnS_cl {R C t : Nat} {f : Fn2} {cl : Bool} (h : cl = true ↔ (∀ x, t < x → x < R → f x t = 0) ∧ ∀ y, t < y → y < C → f t y = 0) : cl = clnS R C t f := by
  rcases hc : clnS R C t f with _ | _
  · rcases cl with _ | _
    · rfl
    · obtain ⟨a, b⟩ := h.1 rfl
      rw [clnS_of a b] at hc; cases hc
  · exact h.2 (clnS_yes hc)
set_option maxRecDepth 100000 in
set_option maxHeartbeats 8000000 in
theorem spec_l13Round (R C t : Nat) (A : Option Addr) (n cap : Nat) (A2 : Option Addr) (n2 cap2 : Nat) (A3 : Option Addr) (n3 cap3 : Nat) (s0 : SS) (w : World) {B : Nat} (h1 : OR w B (.slice A n cap) (tb R C s0.f)) (h2 : OR w B (.slice A2 n2 cap2) (tb R R s0.g)) (h3 : OR w B (.slice A3 n3 cap3) (tb C C s0.h))
    (hap : Apart (.slice A n cap) (.slice A2 n2 cap2)) (hap2 : Apart (.slice A n cap) (.slice A3 n3 cap3)) (hap3 : Apart (.slice A2 n2 cap2) (.slice A3 n3 cap3)) (hBs : B ≤ w.heap.size) (hg : SGD R C s0) (ht : t < R) (htC : t < C) (hP0 : s0.f t t ≠ 0) (hC : C ≤ 24) (hR : R ≤ 24) :
    Calls Try.prog 218 #[.agg #[.int .i64 R, .int .i64 C, .slice A n cap], .agg #[.int .i64 R, .int .i64 R, .slice A2 n2 cap2], .agg #[.int .i64 C, .int .i64 C, .slice A3 n3 cap3], .int .i64 t] w
      (W3 (.slice A n cap) (.slice A2 n2 cap2) (.slice A3 n3 cap3) B R C (sfD R C t (sfC C t (sfB R t s0))).1.f (sfD R C t (sfC C t (sfB R t s0))).1.g (sfD R C t (sfC C t (sfB R t s0))).1.h (.bool (sfD R C t (sfC C t (sfB R t s0))).2) w) := by
  have HOA : Hid (Own (.slice A n cap) B w.heap.size) := Lib.hid h1.own
  have HOB : Hid (Own (.slice A2 n2 cap2) B w.heap.size) := Lib.hid h2.own
  have HOC : Hid (Own (.slice A3 n3 cap3) B w.heap.size) := Lib.hid h3.own
  have HAP := Lib.hid hap
  have HAP2 := Lib.hid hap2
  have HAP3 := Lib.hid hap3
  obtain ⟨X, hX⟩ : ∃ X, X = sfD R C t (sfC C t (sfB R t s0)) := ⟨_, rfl⟩
  rw [← hX]
  have HX0 := Lib.hid hX
  have HG0 := Lib.hid hg
  have HP00 := Lib.hid hP0
  clear hX hg hP0 hap hap2 hap3
  obtain ⟨s, HSE⟩ : ∃ s, Hid (s = s0) := ⟨s0, Lib.hid rfl⟩
  rw [← HSE.out] at HX0 HG0 HP00 h1 h2 h3
  clear HSE
  have HDN : Hid (Num (s.f t t)) := Lib.hid (HG0.out.ok.f t t ht htC)
  obtain ⟨d, hd⟩ : ∃ d, s.f t t = d := ⟨_, rfl⟩
  have HDF := Lib.hid hd
  rw [hd] at HDN HP00
  have HD0 : Hid (d ≠ 0) := HP00
  clear hd HP00
  go_enter Try.func218, Try.ntmps218
  go_wp2_with fail
  have hS : SW3 w (((w.alloc (.cells #[.int .i64 R, .int .i64 C, .slice A n cap] 26)).alloc (.cells #[.int .i64 R, .int .i64 R, .slice A2 n2 cap2] 26)).alloc (.cells #[.int .i64 C, .int .i64 C, .slice A3 n3 cap3] 26)) B R C A n cap A2 n2 cap2 A3 n3 cap3 s.f s.g s.h := ⟨Ka, Ka, Ka, Ko h1, Ko h2, Ko h3, Below.mono (B := w.heap.size) Kw hBs, fun k hk _ _ _ => Below.block (B := w.heap.size) Kw k hk⟩
  clear h1 h2 h3
  obtain ⟨ma, mb, mc, mf, ml⟩ := hS.m.mx; obtain ⟨la, lb, lc, lf, ll⟩ := hS.l.mx; obtain ⟨ra, rb, rc, rf, rl⟩ := hS.r.mx; have hsl := hS.lt
  (refine (spec_l12Cell_tb R C t t A n cap ((s.f)) d HDF.out _ (B := B) (by have hm := hS.om; (with_reducible (repeat (first | exact hm | refine OR.drew ?_ | refine OR.drewN ?_ _ | refine OR.alloc ?_ _ | refine OR.b_ ?_ | refine OR.l_ ?_)))) (by omega) (by omega) (by omega) (by omega)).mono ?_; rintro e w1 ⟨rfl, hb1⟩; (have hS_1 : SW3 w w1 B R C A n cap A2 n2 cap2 A3 n3 cap3 (((s.f))) (((s.g))) (((s.h))) := (by (with_reducible (repeat (first | exact hS | refine SW3.below ?_ (by assumption) Ks hBs | refine SW3.drew ?_ | refine SW3.drewN ?_ _ | refine SW3.alloc ?_ hBs _))))); clear hS hb1; clear ma mb mc mf ml la lb lc lf ll ra rb rc rf rl hsl; (have hS := hS_1); clear hS_1; obtain ⟨ma, mb, mc, mf, ml⟩ := hS.m.mx; obtain ⟨la, lb, lc, lf, ll⟩ := hS.l.mx; obtain ⟨ra, rb, rc, rf, rl⟩ := hS.r.mx; have hsl := hS.lt)
  go_upto_block 0 with fail
  go_cut [] from 24 to 174 (fun wc => ∃ u, u = swS t t t s.row (R - t) ∧ SW3 w wc B R C A n cap A2 n2 cap2 A3 n3 cap3 u.f u.g s.h)
  case first => as_aux_lemma =>
    have HZN : Hid (∀ i, i < R → Num (s.row.f i t)) := Lib.hid (fun i hi => HG0.out.ok.f i t hi htC)
    have HDS : Hid (s.row.f t t = d) := HDF
    have HSN := Lib.hid HG0.out.row.nb
    go_wp2_with fail
    go_loopg [11] (R + 1) (fun k vi wr => ∃ (i : Nat) (u : HS), vi = .int .i64 i ∧ t + 1 ≤ i ∧ i ≤ R ∧ R - i < k ∧ u = swS t t t s.row (i - t) ∧ SW3 w wr B R C A n cap A2 n2 cap2 A3 n3 cap3 u.f u.g s.h)
    case atStart => exact ⟨t + 1, s.row, by go_num, Nat.le_refl _, by omega, by omega, by rw [show t + 1 - t = 0 + 1 by omega, sw_skip (.inl (by omega))]; rfl, by show SW3 w _ B R C A n cap A2 n2 cap2 A3 n3 cap3 s.f s.g s.h; (with_reducible (repeat (first | exact hS | refine SW3.below ?_ (by assumption) Ks hBs | refine SW3.drew ?_ | refine SW3.drewN ?_ _ | refine SW3.alloc ?_ hBs _)))⟩
    case round => as_aux_lemma =>
      clear hS
      clear ma mb mc mf ml la lb lc lf ll ra rb rc rf rl hsl
      obtain ⟨i, u, rfl, hti, hiR, hk3, hu, hS⟩ := hrel
      have HU := Lib.hid hu
      clear hu
      obtain ⟨ma, mb, mc, mf, ml⟩ := hS.m.mx; obtain ⟨la, lb, lc, lf, ll⟩ := hS.l.mx; obtain ⟨ra, rb, rc, rf, rl⟩ := hS.r.mx; have hsl := hS.lt
      by_cases hlt : i < R
      · have hsub : i + 1 - t = (i - t) + 1 := by omega
        have hst : t + (i - t) = i := by omega
        have hit : i ≠ t := by omega
        have hzn : Num (s.row.f i t) := HZN.out i hlt
        have hqi : u.f i t = s.row.f i t := by rw [HU.out, swS_late t _ (by omega)]
        have hbd : (s.row.f i t != -4611686018427387904) = true := by simpa using (show ¬ s.row.f i t = -4611686018427387904 by unfold Num at hzn; omega)
        by_cases hz : s.row.f i t = 0
        · have HS : Hid (u = swS t t t s.row (i + 1 - t)) := Lib.hid (by rw [hsub, sw_skip (.inr (by rw [hst]; exact hz))]; exact HU.out)
          have HZ : Hid (u.f i t = 0) := Lib.hid (by rw [hqi, hz])
          clear hz hqi hsub hst hzn hit hbd
          go_wp2_with fail
          (refine (spec_l12Cell_tb R C i t A n cap ((u.f)) (0) HZ.out _ (B := B) (by have hm := hS.om; (with_reducible (repeat (first | exact hm | refine OR.drew ?_ | refine OR.drewN ?_ _ | refine OR.alloc ?_ _ | refine OR.b_ ?_ | refine OR.l_ ?_)))) (by omega) (by omega) (by omega) (by omega)).mono ?_; rintro e w1 ⟨rfl, hb1⟩; (have hS_1 : SW3 w w1 B R C A n cap A2 n2 cap2 A3 n3 cap3 (((u.f))) (((u.g))) (((s.h))) := (by (with_reducible (repeat (first | exact hS | refine SW3.below ?_ (by assumption) Ks hBs | refine SW3.drew ?_ | refine SW3.drewN ?_ _ | refine SW3.alloc ?_ hBs _))))); clear hS hb1; clear ma mb mc mf ml la lb lc lf ll ra rb rc rf rl hsl; (have hS := hS_1); clear hS_1; obtain ⟨ma, mb, mc, mf, ml⟩ := hS.m.mx; obtain ⟨la, lb, lc, lf, ll⟩ := hS.l.mx; obtain ⟨ra, rb, rc, rf, rl⟩ := hS.r.mx; have hsl := hS.lt)
          go_wp2_with fail
          go_roundg (gk - 1)
          case measure => omega
          case rel => exact ⟨i + 1, u, by go_num, by omega, by omega, by omega, HS.out, by (with_reducible (repeat (first | exact hS | refine SW3.below ?_ (by assumption) Ks hBs | refine SW3.drew ?_ | refine SW3.drewN ?_ _ | refine SW3.alloc ?_ hBs _)))⟩
        · have HST : Hid (u.add i t (-(s.row.f i t / d)) = swS t t t s.row (i + 1 - t)) := Lib.hid (by rw [hsub, sw_add (by rw [hst]; exact hit) (by rw [hst]; exact hz), hst, HDS.out, ← HU.out])
          have hqn := (ediv_bd hzn HD0.out).neg
          have HDV : Hid (∀ w', Calls Try.prog 208 #[.int .i64 (s.row.f i t), .int .i64 d] w' (IIE (s.row.f i t / d) (s.row.f i t % d) true w')) := Lib.hid (fun w' => spec_DivideFloor (s.row.f i t) d w' hzn HDN.out HD0.out)
          have HNB : Hid (u.NBS) := Lib.hid (HU.out ▸ swS_nb HSN.out _)
          have hnz : (s.row.f i t != 0) = true := by simpa using hz
          have HQI := Lib.hid hqi
          have HIT := Lib.hid hit
          clear hz hqi hsub hst hit
          generalize s.row.f i t / d = y at *
          generalize s.row.f i t % d = y2 at *
          generalize s.row.f i t = z at *
          obtain ⟨hq1, hq2⟩ := hqn
          obtain ⟨hz1, hz2⟩ := hzn
          go_wp2_with fail
          (refine (spec_l12Cell_tb R C i t A n cap ((u.f)) z HQI.out _ (B := B) (by have hm := hS.om; (with_reducible (repeat (first | exact hm | refine OR.drew ?_ | refine OR.drewN ?_ _ | refine OR.alloc ?_ _ | refine OR.b_ ?_ | refine OR.l_ ?_)))) (by omega) (by omega) (by omega) (by omega)).mono ?_; rintro e w1 ⟨rfl, hb1⟩; (have hS_1 : SW3 w w1 B R C A n cap A2 n2 cap2 A3 n3 cap3 (((u.f))) (((u.g))) (((s.h))) := (by (with_reducible (repeat (first | exact hS | refine SW3.below ?_ (by assumption) Ks hBs | refine SW3.drew ?_ | refine SW3.drewN ?_ _ | refine SW3.alloc ?_ hBs _))))); clear hS hb1; clear ma mb mc mf ml la lb lc lf ll ra rb rc rf rl hsl; (have hS := hS_1); clear hS_1; obtain ⟨ma, mb, mc, mf, ml⟩ := hS.m.mx; obtain ⟨la, lb, lc, lf, ll⟩ := hS.l.mx; obtain ⟨ra, rb, rc, rf, rl⟩ := hS.r.mx; have hsl := hS.lt)
          go_wp2_with fail
          (refine (spec_l12Cell_tb R C i t A n cap ((u.f)) z HQI.out _ (B := B) (by have hm := hS.om; (with_reducible (repeat (first | exact hm | refine OR.drew ?_ | refine OR.drewN ?_ _ | refine OR.alloc ?_ _ | refine OR.b_ ?_ | refine OR.l_ ?_)))) (by omega) (by omega) (by omega) (by omega)).mono ?_; rintro e w1 ⟨rfl, hb1⟩; (have hS_1 : SW3 w w1 B R C A n cap A2 n2 cap2 A3 n3 cap3 (((u.f))) (((u.g))) (((s.h))) := (by (with_reducible (repeat (first | exact hS | refine SW3.below ?_ (by assumption) Ks hBs | refine SW3.drew ?_ | refine SW3.drewN ?_ _ | refine SW3.alloc ?_ hBs _))))); clear hS hb1; clear ma mb mc mf ml la lb lc lf ll ra rb rc rf rl hsl; (have hS := hS_1); clear hS_1; obtain ⟨ma, mb, mc, mf, ml⟩ := hS.m.mx; obtain ⟨la, lb, lc, lf, ll⟩ := hS.l.mx; obtain ⟨ra, rb, rc, rf, rl⟩ := hS.r.mx; have hsl := hS.lt)
          go_wp2_with fail
          refine (HDV.out _).mono ?_
          rintro e w1 ⟨rfl, rfl⟩
          go_wp2_with fail
          refine (spec_l12Ops_add R C i t (-y) A n cap A2 n2 cap2 u.f u.g _ (B := B) (by have hm := hS.om; (with_reducible (repeat (first | exact hm | refine OR.drew ?_ | refine OR.drewN ?_ _ | refine OR.alloc ?_ _ | refine OR.b_ ?_ | refine OR.l_ ?_)))) (by have hm := hS.ol; (with_reducible (repeat (first | exact hm | refine OR.drew ?_ | refine OR.drewN ?_ _ | refine OR.alloc ?_ _ | refine OR.b_ ?_ | refine OR.l_ ?_)))) HAP.out Ks hlt ht HIT.out ⟨hq1, hq2⟩ HNB.out.f HNB.out.g (by omega) hC hR).mono ?_
          rintro e w1 hw2
          have hS_1 : SW3 w w1 B R C A n cap A2 n2 cap2 A3 n3 cap3 (u.add i t (-y)).f (u.add i t (-y)).g s.h := by
            refine SW3.by_ (wr := _) (f := u.f) (g := u.g) (h := s.h) (by (with_reducible (repeat (first | exact hS | refine SW3.below ?_ (by assumption) Ks hBs | refine SW3.drew ?_ | refine SW3.drewN ?_ _ | refine SW3.alloc ?_ hBs _)))) HOA.out HOB.out HOC.out (W3.ofOps (by (with_reducible (repeat (first | exact hS | refine SW3.below ?_ (by assumption) Ks hBs | refine SW3.drew ?_ | refine SW3.drewN ?_ _ | refine SW3.alloc ?_ hBs _)))) HAP2.out HAP3.out hw2)
          obtain ⟨rfl, -⟩ := hw2
          clear hS; clear ma mb mc mf ml la lb lc lf ll ra rb rc rf rl hsl; (have hS := hS_1); clear hS_1; obtain ⟨ma, mb, mc, mf, ml⟩ := hS.m.mx; obtain ⟨la, lb, lc, lf, ll⟩ := hS.l.mx; obtain ⟨ra, rb, rc, rf, rl⟩ := hS.r.mx; have hsl := hS.lt
          go_wp2_with fail
          go_roundg (gk - 1)
          case measure => omega
          case rel => exact ⟨i + 1, u.add i t (-y), by go_num, by omega, by omega, by omega, HST.out, by (with_reducible (repeat (first | exact hS | refine SW3.below ?_ (by assumption) Ks hBs | refine SW3.drew ?_ | refine SW3.drewN ?_ _ | refine SW3.alloc ?_ hBs _)))⟩
      · have hiR2 : i = R := by omega
        rw [hiR2] at HU
        clear hiR2
        go_wp2_with fail
        go_meet
        case rel => exact ⟨u, HU.out, by (with_reducible (repeat (first | exact hS | refine SW3.below ?_ (by assumption) Ks hBs | refine SW3.drew ?_ | refine SW3.drewN ?_ _ | refine SW3.alloc ?_ hBs _)))⟩
  case rest => as_aux_lemma =>
    clear ma mb mc mf ml la lb lc lf ll ra rb rc rf rl hsl
    clear hS
    obtain ⟨u, hu, hS⟩ := hcut
    have hSB : sfB R t s = ⟨u.f, u.g, s.h⟩ := by unfold sfB; rw [← hu]; rfl
    have HR3 : Hid (X = sfD R C t (sfC C t ⟨u.f, u.g, s.h⟩)) := Lib.hid (by rw [← hSB]; exact HX0.out)
    have HNB3 : Hid (SS.NBS ⟨u.f, u.g, s.h⟩) := Lib.hid (by rw [← hSB]; exact sfB_nb HG0.out.nb)
    have HROW : Hid (∀ y, u.f t y = s.f t y) := Lib.hid (fun y => by rw [hu, swS_p]; rfl)
    have HZC : Hid (∀ i, i < C → Num (u.f t i)) := Lib.hid (fun i hi => by rw [HROW.out]; exact HG0.out.ok.f t i ht hi)
    have HDU : Hid (u.f t t = d) := Lib.hid (by rw [HROW.out]; exact HDF.out)
    clear hu hSB HX0 HG0 HROW HDF
    obtain ⟨s3, hs3⟩ : ∃ s3 : SS, s3 = ⟨u.f, u.g, s.h⟩ := ⟨_, rfl⟩
    rw [← hs3] at HR3 HNB3
    have hS_1 : SW3 w wc B R C A n cap A2 n2 cap2 A3 n3 cap3 s3.f s3.g s3.h := by rw [hs3]; exact hS
    have HZN : Hid (∀ i, i < C → Num (s3.col.f i t)) := Lib.hid (by rw [hs3]; exact HZC.out)
    have HDS : Hid (s3.col.f t t = d) := Lib.hid (by rw [hs3]; exact HDU.out)
    clear HZC HDU hs3 hS s u
    have hS := hS_1
    clear hS_1
    obtain ⟨s, HSE⟩ : ∃ s, Hid (s = s3) := ⟨s3, Lib.hid rfl⟩
    rw [← HSE.out] at HR3 HNB3 hS HZN HDS
    clear HSE
    have HSN := Lib.hid HNB3.out.col
    obtain ⟨ma, mb, mc, mf, ml⟩ := hS.m.mx; obtain ⟨la, lb, lc, lf, ll⟩ := hS.l.mx; obtain ⟨ra, rb, rc, rf, rl⟩ := hS.r.mx; have hsl := hS.lt
    go_upto_block 2 with fail
    go_cut [] from 24 to 174 (fun wc => ∃ u, u = swS t t t s.col (C - t) ∧ SW3 w wc B R C A n cap A2 n2 cap2 A3 n3 cap3 (tp u.f) s.g (tp u.g))
    case first => as_aux_lemma =>
      go_wp2_with fail
      go_loopg [15] (C + 1) (fun k vi wr => ∃ (i : Nat) (u : HS), vi = .int .i64 i ∧ t + 1 ≤ i ∧ i ≤ C ∧ C - i < k ∧ u = swS t t t s.col (i - t) ∧ SW3 w wr B R C A n cap A2 n2 cap2 A3 n3 cap3 (tp u.f) s.g (tp u.g))
      case atStart => exact ⟨t + 1, s.col, by go_num, Nat.le_refl _, by omega, by omega, by rw [show t + 1 - t = 0 + 1 by omega, sw_skip (.inl (by omega))]; rfl, by show SW3 w _ B R C A n cap A2 n2 cap2 A3 n3 cap3 s.f s.g s.h; (with_reducible (repeat (first | exact hS | refine SW3.below ?_ (by assumption) Ks hBs | refine SW3.drew ?_ | refine SW3.drewN ?_ _ | refine SW3.alloc ?_ hBs _)))⟩
      case round => as_aux_lemma =>
        clear hS
        clear ma mb mc mf ml la lb lc lf ll ra rb rc rf rl hsl
        obtain ⟨i, u, rfl, hti, hiR, hk3, hu, hS⟩ := hrel
        have HU := Lib.hid hu
        clear hu
        obtain ⟨ma, mb, mc, mf, ml⟩ := hS.m.mx; obtain ⟨la, lb, lc, lf, ll⟩ := hS.l.mx; obtain ⟨ra, rb, rc, rf, rl⟩ := hS.r.mx; have hsl := hS.lt
        by_cases hlt : i < C
        · have hsub : i + 1 - t = (i - t) + 1 := by omega
          have hst : t + (i - t) = i := by omega
          have hit : i ≠ t := by omega
          have hzn : Num (s.col.f i t) := HZN.out i hlt
          have hqi : u.f i t = s.col.f i t := by rw [HU.out, swS_late t _ (by omega)]
          have hbd : (s.col.f i t != -4611686018427387904) = true := by simpa using (show ¬ s.col.f i t = -4611686018427387904 by unfold Num at hzn; omega)
          by_cases hz : s.col.f i t = 0
          · have HS : Hid (u = swS t t t s.col (i + 1 - t)) := Lib.hid (by rw [hsub, sw_skip (.inr (by rw [hst]; exact hz))]; exact HU.out)
            have HZ : Hid (u.f i t = 0) := Lib.hid (by rw [hqi, hz])
            clear hz hqi hsub hst hzn hit hbd
            go_wp2_with fail
            (refine (spec_l12Cell_tb R C t i A n cap ((tp u.f)) (0) HZ.out _ (B := B) (by have hm := hS.om; (with_reducible (repeat (first | exact hm | refine OR.drew ?_ | refine OR.drewN ?_ _ | refine OR.alloc ?_ _ | refine OR.b_ ?_ | refine OR.l_ ?_)))) (by omega) (by omega) (by omega) (by omega)).mono ?_; rintro e w1 ⟨rfl, hb1⟩; (have hS_1 : SW3 w w1 B R C A n cap A2 n2 cap2 A3 n3 cap3 (((tp u.f))) (((s.g))) (((tp u.g))) := (by (with_reducible (repeat (first | exact hS | refine SW3.below ?_ (by assumption) Ks hBs | refine SW3.drew ?_ | refine SW3.drewN ?_ _ | refine SW3.alloc ?_ hBs _))))); clear hS hb1; clear ma mb mc mf ml la lb lc lf ll ra rb rc rf rl hsl; (have hS := hS_1); clear hS_1; obtain ⟨ma, mb, mc, mf, ml⟩ := hS.m.mx; obtain ⟨la, lb, lc, lf, ll⟩ := hS.l.mx; obtain ⟨ra, rb, rc, rf, rl⟩ := hS.r.mx; have hsl := hS.lt)
            go_wp2_with fail
            go_roundg (gk - 1)
            case measure => omega
            case rel => exact ⟨i + 1, u, by go_num, by omega, by omega, by omega, HS.out, by (with_reducible (repeat (first | exact hS | refine SW3.below ?_ (by assumption) Ks hBs | refine SW3.drew ?_ | refine SW3.drewN ?_ _ | refine SW3.alloc ?_ hBs _)))⟩
          · have HST : Hid (u.add i t (-(s.col.f i t / d)) = swS t t t s.col (i + 1 - t)) := Lib.hid (by rw [hsub, sw_add (by rw [hst]; exact hit) (by rw [hst]; exact hz), hst, HDS.out, ← HU.out])
            have hqn := (ediv_bd hzn HD0.out).neg
            have HDV : Hid (∀ w', Calls Try.prog 208 #[.int .i64 (s.col.f i t), .int .i64 d] w' (IIE (s.col.f i t / d) (s.col.f i t % d) true w')) := Lib.hid (fun w' => spec_DivideFloor (s.col.f i t) d w' hzn HDN.out HD0.out)
            have HNB : Hid (u.NBS) := Lib.hid (HU.out ▸ swS_nb HSN.out _)
            have hnz : (s.col.f i t != 0) = true := by simpa using hz
            have HQI := Lib.hid hqi
            have HIT := Lib.hid hit
            clear hz hqi hsub hst hit
            generalize s.col.f i t / d = y at *
            generalize s.col.f i t % d = y2 at *
            generalize s.col.f i t = z at *
            obtain ⟨hq1, hq2⟩ := hqn
            obtain ⟨hz1, hz2⟩ := hzn
            go_wp2_with fail
            (refine (spec_l12Cell_tb R C t i A n cap ((tp u.f)) z HQI.out _ (B := B) (by have hm := hS.om; (with_reducible (repeat (first | exact hm | refine OR.drew ?_ | refine OR.drewN ?_ _ | refine OR.alloc ?_ _ | refine OR.b_ ?_ | refine OR.l_ ?_)))) (by omega) (by omega) (by omega) (by omega)).mono ?_; rintro e w1 ⟨rfl, hb1⟩; (have hS_1 : SW3 w w1 B R C A n cap A2 n2 cap2 A3 n3 cap3 (((tp u.f))) (((s.g))) (((tp u.g))) := (by (with_reducible (repeat (first | exact hS | refine SW3.below ?_ (by assumption) Ks hBs | refine SW3.drew ?_ | refine SW3.drewN ?_ _ | refine SW3.alloc ?_ hBs _))))); clear hS hb1; clear ma mb mc mf ml la lb lc lf ll ra rb rc rf rl hsl; (have hS := hS_1); clear hS_1; obtain ⟨ma, mb, mc, mf, ml⟩ := hS.m.mx; obtain ⟨la, lb, lc, lf, ll⟩ := hS.l.mx; obtain ⟨ra, rb, rc, rf, rl⟩ := hS.r.mx; have hsl := hS.lt)
            go_wp2_with fail
            (refine (spec_l12Cell_tb R C t i A n cap ((tp u.f)) z HQI.out _ (B := B) (by have hm := hS.om; (with_reducible (repeat (first | exact hm | refine OR.drew ?_ | refine OR.drewN ?_ _ | refine OR.alloc ?_ _ | refine OR.b_ ?_ | refine OR.l_ ?_)))) (by omega) (by omega) (by omega) (by omega)).mono ?_; rintro e w1 ⟨rfl, hb1⟩; (have hS_1 : SW3 w w1 B R C A n cap A2 n2 cap2 A3 n3 cap3 (((tp u.f))) (((s.g))) (((tp u.g))) := (by (with_reducible (repeat (first | exact hS | refine SW3.below ?_ (by assumption) Ks hBs | refine SW3.drew ?_ | refine SW3.drewN ?_ _ | refine SW3.alloc ?_ hBs _))))); clear hS hb1; clear ma mb mc mf ml la lb lc lf ll ra rb rc rf rl hsl; (have hS := hS_1); clear hS_1; obtain ⟨ma, mb, mc, mf, ml⟩ := hS.m.mx; obtain ⟨la, lb, lc, lf, ll⟩ := hS.l.mx; obtain ⟨ra, rb, rc, rf, rl⟩ := hS.r.mx; have hsl := hS.lt)
            go_wp2_with fail
            (refine (spec_l12Cell_tb R C t i A n cap ((tp u.f)) z HQI.out _ (B := B) (by have hm := hS.om; (with_reducible (repeat (first | exact hm | refine OR.drew ?_ | refine OR.drewN ?_ _ | refine OR.alloc ?_ _ | refine OR.b_ ?_ | refine OR.l_ ?_)))) (by omega) (by omega) (by omega) (by omega)).mono ?_; rintro e w1 ⟨rfl, hb1⟩; (have hS_1 : SW3 w w1 B R C A n cap A2 n2 cap2 A3 n3 cap3 (((tp u.f))) (((s.g))) (((tp u.g))) := (by (with_reducible (repeat (first | exact hS | refine SW3.below ?_ (by assumption) Ks hBs | refine SW3.drew ?_ | refine SW3.drewN ?_ _ | refine SW3.alloc ?_ hBs _))))); clear hS hb1; clear ma mb mc mf ml la lb lc lf ll ra rb rc rf rl hsl; (have hS := hS_1); clear hS_1; obtain ⟨ma, mb, mc, mf, ml⟩ := hS.m.mx; obtain ⟨la, lb, lc, lf, ll⟩ := hS.l.mx; obtain ⟨ra, rb, rc, rf, rl⟩ := hS.r.mx; have hsl := hS.lt)
            go_wp2_with fail
            refine (HDV.out _).mono ?_
            rintro e w1 ⟨rfl, rfl⟩
            go_wp2_with fail
            obtain ⟨xb, hxb⟩ : ∃ q, q = w1.heap.size := ⟨_, rfl⟩
            have hX : Blk (w1.alloc (.cells #[.int .i64 2, .int .i64 i, .int .i64 t, .int .i64 (-y)] 66)) xb 66 #[.int .i64 2, .int .i64 i, .int .i64 t, .int .i64 (-y)] := by rw [hxb]; exact Blk.new _ _ _
            have hS_1 : SW3 w (w1.alloc (.cells #[.int .i64 2, .int .i64 i, .int .i64 t, .int .i64 (-y)] 66)) B R C A n cap A2 n2 cap2 A3 n3 cap3 (tp u.f) s.g (tp u.g) := by (with_reducible (repeat (first | exact hS | refine SW3.below ?_ (by assumption) Ks hBs | refine SW3.drew ?_ | refine SW3.drewN ?_ _ | refine SW3.alloc ?_ hBs _)))
            have HXB : Hid (w.heap.size ≤ xb) := Lib.hid (by omega)
            rw [← hxb]
            generalize w1.alloc (.cells #[.int .i64 2, .int .i64 i, .int .i64 t, .int .i64 (-y)] 66) = w5 at *
            clear hxb hS; clear ma mb mc mf ml la lb lc lf ll ra rb rc rf rl hsl
            have hS := hS_1
            clear hS_1
            refine (spec_l13Col_add R C i t (-y) A n cap (tp u.f) _ (B := B) hS.om hlt htC HIT.out ⟨hq1, hq2⟩ (tp_nb HNB.out.f) (by omega) hC hR).mono ?_
            rintro e w6 hw2
            have hsz5 := hS.lt
            have hS_1 : SW3 w w6 B R C A n cap A2 n2 cap2 A3 n3 cap3 (tp (u.add i t (-y)).f) s.g (tp u.g) := SW3.by_ hS HOA.out HOB.out HOC.out (W3.ofM hS (by omega) HAP.out HAP2.out hw2)
            have hX_1 := hX.grown hw2.2.2.1 (fun e => by have := HOA.out _ e.symm; have := HXB.out; omega)
            obtain ⟨rfl, -⟩ := hw2
            clear hS hX hsz5
            have hS := hS_1
            have hX := hX_1
            clear hS_1 hX_1
            obtain ⟨ma, mb, mc, mf, ml⟩ := hS.m.mx; obtain ⟨la, lb, lc, lf, ll⟩ := hS.l.mx; obtain ⟨ra, rb, rc, rf, rl⟩ := hS.r.mx; have hsl := hS.lt
            have x0 := hX.cell 0
            have x1 := hX.cell 1
            have x2 := hX.cell 2
            have x3 := hX.cell 3
            simp at x0 x1 x2 x3
            go_wp2_with fail
            refine (spec_l13Col_add C C i t (-y) A3 n3 cap3 (tp u.g) _ (B := B) (by have hm := hS.ov; (with_reducible (repeat (first | exact hm | refine OR.drew ?_ | refine OR.drewN ?_ _ | refine OR.alloc ?_ _ | refine OR.b_ ?_ | refine OR.l_ ?_)))) hlt htC HIT.out ⟨hq1, hq2⟩ (tp_nb HNB.out.g) (by omega) hC hC).mono ?_
            rintro e w7 hw2
            have hS_1 : SW3 w w7 B R C A n cap A2 n2 cap2 A3 n3 cap3 (tp (u.add i t (-y)).f) s.g (tp (u.add i t (-y)).g) := by
              refine SW3.by_ (wr := _) (f := tp (u.add i t (-y)).f) (g := s.g) (h := tp u.g) (by (with_reducible (repeat (first | exact hS | refine SW3.below ?_ (by assumption) Ks hBs | refine SW3.drew ?_ | refine SW3.drewN ?_ _ | refine SW3.alloc ?_ hBs _)))) HOA.out HOB.out HOC.out (W3.ofR (by (with_reducible (repeat (first | exact hS | refine SW3.below ?_ (by assumption) Ks hBs | refine SW3.drew ?_ | refine SW3.drewN ?_ _ | refine SW3.alloc ?_ hBs _)))) Ks HAP2.out HAP3.out hw2)
            obtain ⟨rfl, -⟩ := hw2
            clear hS hX x0 x1 x2 x3; clear ma mb mc mf ml la lb lc lf ll ra rb rc rf rl hsl; (have hS := hS_1); clear hS_1; obtain ⟨ma, mb, mc, mf, ml⟩ := hS.m.mx; obtain ⟨la, lb, lc, lf, ll⟩ := hS.l.mx; obtain ⟨ra, rb, rc, rf, rl⟩ := hS.r.mx; have hsl := hS.lt
            go_wp2_with fail
            go_roundg (gk - 1)
            case measure => omega
            case rel => exact ⟨i + 1, u.add i t (-y), by go_num, by omega, by omega, by omega, HST.out, by (with_reducible (repeat (first | exact hS | refine SW3.below ?_ (by assumption) Ks hBs | refine SW3.drew ?_ | refine SW3.drewN ?_ _ | refine SW3.alloc ?_ hBs _)))⟩
        · have hiR2 : i = C := by omega
          rw [hiR2] at HU
          clear hiR2
          go_wp2_with fail
          go_meet
          case rel => exact ⟨u, HU.out, by (with_reducible (repeat (first | exact hS | refine SW3.below ?_ (by assumption) Ks hBs | refine SW3.drew ?_ | refine SW3.drewN ?_ _ | refine SW3.alloc ?_ hBs _)))⟩
    case rest => as_aux_lemma =>
      clear ma mb mc mf ml la lb lc lf ll ra rb rc rf rl hsl
      clear hS
      obtain ⟨u, hu, hS⟩ := hcut
      have hSC : sfC C t s = ⟨tp u.f, s.g, tp u.g⟩ := by unfold sfC; rw [← hu]; rfl
      have HR4 : Hid (X = sfD R C t ⟨tp u.f, s.g, tp u.g⟩) := Lib.hid (by rw [← hSC]; exact HR3.out)
      have HNB4 : Hid (SS.NBS ⟨tp u.f, s.g, tp u.g⟩) := Lib.hid (by rw [← hSC]; exact sfC_nb HNB3.out)
      have HDU : Hid (u.f t t = d) := Lib.hid (by rw [hu, swS_p]; exact HDS.out)
      clear hu hSC HR3 HNB3 HDS HZN HSN
      obtain ⟨s4, hs4⟩ : ∃ s4 : SS, s4 = ⟨tp u.f, s.g, tp u.g⟩ := ⟨_, rfl⟩
      rw [← hs4] at HR4 HNB4
      have hS_1 : SW3 w wc B R C A n cap A2 n2 cap2 A3 n3 cap3 s4.f s4.g s4.h := by rw [hs4]; exact hS
      have HDS : Hid (s4.f t t = d) := Lib.hid (by rw [hs4]; exact HDU.out)
      clear HDU hs4 hS s u
      have hS := hS_1
      clear hS_1
      obtain ⟨s, HSE⟩ : ∃ s, Hid (s = s4) := ⟨s4, Lib.hid rfl⟩
      rw [← HSE.out] at HR4 HNB4 hS HDS
      clear HSE
      obtain ⟨ma, mb, mc, mf, ml⟩ := hS.m.mx; obtain ⟨la, lb, lc, lf, ll⟩ := hS.l.mx; obtain ⟨ra, rb, rc, rf, rl⟩ := hS.r.mx; have hsl := hS.lt
      go_upto_block 4 with fail
      go_cut [10] from 24 to 174 (fun vc wc => ∃ cl : Bool, vc = .bool cl ∧ (cl = true ↔ ∀ x, t < x → x < R → s.f x t = 0) ∧ SW3 w wc B R C A n cap A2 n2 cap2 A3 n3 cap3 s.f s.g s.h)
      case first => as_aux_lemma =>
        go_wp2_with fail
        go_loopg [10, 20] (R + 1) (fun k vc vi wr => ∃ (i : Nat) (cl : Bool), vi = .int .i64 i ∧ vc = .bool cl ∧ t + 1 ≤ i ∧ i ≤ R ∧ R - i < k ∧ (cl = true ↔ ∀ x, t < x → x < i → s.f x t = 0) ∧ SW3 w wr B R C A n cap A2 n2 cap2 A3 n3 cap3 s.f s.g s.h)
        case atStart => exact ⟨t + 1, true, by go_num, rfl, Nat.le_refl _, by omega, by omega, ⟨fun _ x a b => by omega, fun _ => rfl⟩, by (with_reducible (repeat (first | exact hS | refine SW3.below ?_ (by assumption) Ks hBs | refine SW3.drew ?_ | refine SW3.drewN ?_ _ | refine SW3.alloc ?_ hBs _)))⟩
        case round => as_aux_lemma =>
          clear hS
          clear ma mb mc mf ml la lb lc lf ll ra rb rc rf rl hsl
          obtain ⟨i, cl, rfl, rfl, hti, hiR, hk3, hcl, hS⟩ := hrel
          obtain ⟨ma, mb, mc, mf, ml⟩ := hS.m.mx; obtain ⟨la, lb, lc, lf, ll⟩ := hS.l.mx; obtain ⟨ra, rb, rc, rf, rl⟩ := hS.r.mx; have hsl := hS.lt
          by_cases hlt : i < R
          · rcases cl with _ | _
            · have HL : Hid (¬ (∀ x, t < x → x < i + 1 → s.f x t = 0)) := Lib.hid (fun h => Bool.noConfusion (hcl.2 fun x a b => h x a (by omega)))
              clear hcl
              go_wp2_with fail
              go_roundg (gk - 1)
              case measure => omega
              case rel => exact ⟨i + 1, false, by go_num, by first | rfl | simp, by omega, by omega, by omega, ⟨fun h => Bool.noConfusion h, fun h => absurd h HL.out⟩, by (with_reducible (repeat (first | exact hS | refine SW3.below ?_ (by assumption) Ks hBs | refine SW3.drew ?_ | refine SW3.drewN ?_ _ | refine SW3.alloc ?_ hBs _)))⟩
            · by_cases hz : s.f i t = 0
              · have HL : Hid (∀ x, t < x → x < i + 1 → s.f x t = 0) := Lib.hid (fun x a b => (Nat.lt_or_ge x i).elim (fun h1 => hcl.1 rfl x a h1) (fun h1 => (show x = i by omega) ▸ hz))
                have HZ := Lib.hid hz
                clear hz hcl
                go_wp2_with fail
                (refine (spec_l12Cell_tb R C i t A n cap ((s.f)) 0 HZ.out _ (B := B) (by have hm := hS.om; (with_reducible (repeat (first | exact hm | refine OR.drew ?_ | refine OR.drewN ?_ _ | refine OR.alloc ?_ _ | refine OR.b_ ?_ | refine OR.l_ ?_)))) (by omega) (by omega) (by omega) (by omega)).mono ?_; rintro e w1 ⟨rfl, hb1⟩; (have hS_1 : SW3 w w1 B R C A n cap A2 n2 cap2 A3 n3 cap3 (((s.f))) (((s.g))) (((s.h))) := (by (with_reducible (repeat (first | exact hS | refine SW3.below ?_ (by assumption) Ks hBs | refine SW3.drew ?_ | refine SW3.drewN ?_ _ | refine SW3.alloc ?_ hBs _))))); clear hS hb1; clear ma mb mc mf ml la lb lc lf ll ra rb rc rf rl hsl; (have hS := hS_1); clear hS_1; obtain ⟨ma, mb, mc, mf, ml⟩ := hS.m.mx; obtain ⟨la, lb, lc, lf, ll⟩ := hS.l.mx; obtain ⟨ra, rb, rc, rf, rl⟩ := hS.r.mx; have hsl := hS.lt)
                go_wp2_with fail
                go_roundg (gk - 1)
                case measure => omega
                case rel => exact ⟨i + 1, true, by go_num, by first | rfl | simp, by omega, by omega, by omega, ⟨fun _ => HL.out, fun _ => rfl⟩, by (with_reducible (repeat (first | exact hS | refine SW3.below ?_ (by assumption) Ks hBs | refine SW3.drew ?_ | refine SW3.drewN ?_ _ | refine SW3.alloc ?_ hBs _)))⟩
              · have HL : Hid (¬ (∀ x, t < x → x < i + 1 → s.f x t = 0)) := Lib.hid (fun h => hz (h i (by omega) (by omega)))
                have hnz : (s.f i t == 0) = false := by simpa using hz
                clear hz hcl
                generalize hv : s.f i t = z at *
                have HZ := Lib.hid hv
                clear hv
                go_wp2_with fail
                (refine (spec_l12Cell_tb R C i t A n cap ((s.f)) z HZ.out _ (B := B) (by have hm := hS.om; (with_reducible (repeat (first | exact hm | refine OR.drew ?_ | refine OR.drewN ?_ _ | refine OR.alloc ?_ _ | refine OR.b_ ?_ | refine OR.l_ ?_)))) (by omega) (by omega) (by omega) (by omega)).mono ?_; rintro e w1 ⟨rfl, hb1⟩; (have hS_1 : SW3 w w1 B R C A n cap A2 n2 cap2 A3 n3 cap3 (((s.f))) (((s.g))) (((s.h))) := (by (with_reducible (repeat (first | exact hS | refine SW3.below ?_ (by assumption) Ks hBs | refine SW3.drew ?_ | refine SW3.drewN ?_ _ | refine SW3.alloc ?_ hBs _))))); clear hS hb1; clear ma mb mc mf ml la lb lc lf ll ra rb rc rf rl hsl; (have hS := hS_1); clear hS_1; obtain ⟨ma, mb, mc, mf, ml⟩ := hS.m.mx; obtain ⟨la, lb, lc, lf, ll⟩ := hS.l.mx; obtain ⟨ra, rb, rc, rf, rl⟩ := hS.r.mx; have hsl := hS.lt)
                go_wp2_with fail
                go_roundg (gk - 1)
                case measure => omega
                case rel => exact ⟨i + 1, false, by go_num, by first | rfl | (simp; done) | (rw [hnz]), by omega, by omega, by omega, ⟨fun h => Bool.noConfusion h, fun h => absurd h HL.out⟩, by (with_reducible (repeat (first | exact hS | refine SW3.below ?_ (by assumption) Ks hBs | refine SW3.drew ?_ | refine SW3.drewN ?_ _ | refine SW3.alloc ?_ hBs _)))⟩
          · have hiE : i = R := by omega
            rw [hiE] at hcl
            have HL := Lib.hid hcl
            clear hcl hiE
            go_wp2_with fail
            go_meet
            case rel => exact ⟨cl, rfl, HL.out, by (with_reducible (repeat (first | exact hS | refine SW3.below ?_ (by assumption) Ks hBs | refine SW3.drew ?_ | refine SW3.drewN ?_ _ | refine SW3.alloc ?_ hBs _)))⟩
      case rest => as_aux_lemma =>
        clear ma mb mc mf ml la lb lc lf ll ra rb rc rf rl hsl
        clear hS
        obtain ⟨cl, rfl, hcl0, hS⟩ := hcut
        have HCL := Lib.hid hcl0
        clear hcl0
        obtain ⟨ma, mb, mc, mf, ml⟩ := hS.m.mx; obtain ⟨la, lb, lc, lf, ll⟩ := hS.l.mx; obtain ⟨ra, rb, rc, rf, rl⟩ := hS.r.mx; have hsl := hS.lt
        go_upto_block 6 with fail
        go_cut [10] from 24 to 174 (fun vc wc => ∃ cl : Bool, vc = .bool cl ∧ (cl = true ↔ (∀ x, t < x → x < R → s.f x t = 0) ∧ ∀ y, t < y → y < C → s.f t y = 0) ∧ SW3 w wc B R C A n cap A2 n2 cap2 A3 n3 cap3 s.f s.g s.h)
        case first => as_aux_lemma =>
          go_wp2_with fail
          go_loopg [10, 21] (C + 1) (fun k vc vi wr => ∃ (i : Nat) (cl : Bool), vi = .int .i64 i ∧ vc = .bool cl ∧ t + 1 ≤ i ∧ i ≤ C ∧ C - i < k ∧ (cl = true ↔ (∀ x, t < x → x < R → s.f x t = 0) ∧ ∀ y, t < y → y < i → s.f t y = 0) ∧ SW3 w wr B R C A n cap A2 n2 cap2 A3 n3 cap3 s.f s.g s.h)
          case atStart => exact ⟨t + 1, cl, by go_num, rfl, Nat.le_refl _, by omega, by omega, ⟨fun h => ⟨HCL.out.1 h, fun y a b => by omega⟩, fun h => HCL.out.2 h.1⟩, by (with_reducible (repeat (first | exact hS | refine SW3.below ?_ (by assumption) Ks hBs | refine SW3.drew ?_ | refine SW3.drewN ?_ _ | refine SW3.alloc ?_ hBs _)))⟩
          case round => as_aux_lemma =>
            clear hS
            clear ma mb mc mf ml la lb lc lf ll ra rb rc rf rl hsl
            obtain ⟨i, cl, rfl, rfl, hti, hiR, hk3, hcl, hS⟩ := hrel
            obtain ⟨ma, mb, mc, mf, ml⟩ := hS.m.mx; obtain ⟨la, lb, lc, lf, ll⟩ := hS.l.mx; obtain ⟨ra, rb, rc, rf, rl⟩ := hS.r.mx; have hsl := hS.lt
            by_cases hlt : i < C
            · rcases cl with _ | _
              · have HL : Hid (¬ ((∀ x, t < x → x < R → s.f x t = 0) ∧ ∀ y, t < y → y < i + 1 → s.f t y = 0)) := Lib.hid (fun h => Bool.noConfusion (hcl.2 ⟨h.1, fun x a b => h.2 x a (by omega)⟩))
                clear hcl
                go_wp2_with fail
                go_roundg (gk - 1)
                case measure => omega
                case rel => exact ⟨i + 1, false, by go_num, by first | rfl | simp, by omega, by omega, by omega, ⟨fun h => Bool.noConfusion h, fun h => absurd h HL.out⟩, by (with_reducible (repeat (first | exact hS | refine SW3.below ?_ (by assumption) Ks hBs | refine SW3.drew ?_ | refine SW3.drewN ?_ _ | refine SW3.alloc ?_ hBs _)))⟩
              · by_cases hz : s.f t i = 0
                · have HL : Hid ((∀ x, t < x → x < R → s.f x t = 0) ∧ ∀ y, t < y → y < i + 1 → s.f t y = 0) := Lib.hid ⟨(hcl.1 rfl).1, fun x a b => (Nat.lt_or_ge x i).elim (fun h1 => (hcl.1 rfl).2 x a h1) (fun h1 => (show x = i by omega) ▸ hz)⟩
                  have HZ := Lib.hid hz
                  clear hz hcl
                  go_wp2_with fail
                  (refine (spec_l12Cell_tb R C t i A n cap ((s.f)) 0 HZ.out _ (B := B) (by have hm := hS.om; (with_reducible (repeat (first | exact hm | refine OR.drew ?_ | refine OR.drewN ?_ _ | refine OR.alloc ?_ _ | refine OR.b_ ?_ | refine OR.l_ ?_)))) (by omega) (by omega) (by omega) (by omega)).mono ?_; rintro e w1 ⟨rfl, hb1⟩; (have hS_1 : SW3 w w1 B R C A n cap A2 n2 cap2 A3 n3 cap3 (((s.f))) (((s.g))) (((s.h))) := (by (with_reducible (repeat (first | exact hS | refine SW3.below ?_ (by assumption) Ks hBs | refine SW3.drew ?_ | refine SW3.drewN ?_ _ | refine SW3.alloc ?_ hBs _))))); clear hS hb1; clear ma mb mc mf ml la lb lc lf ll ra rb rc rf rl hsl; (have hS := hS_1); clear hS_1; obtain ⟨ma, mb, mc, mf, ml⟩ := hS.m.mx; obtain ⟨la, lb, lc, lf, ll⟩ := hS.l.mx; obtain ⟨ra, rb, rc, rf, rl⟩ := hS.r.mx; have hsl := hS.lt)
                  go_wp2_with fail
                  go_roundg (gk - 1)
                  case measure => omega
                  case rel => exact ⟨i + 1, true, by go_num, by first | rfl | simp, by omega, by omega, by omega, ⟨fun _ => HL.out, fun _ => rfl⟩, by (with_reducible (repeat (first | exact hS | refine SW3.below ?_ (by assumption) Ks hBs | refine SW3.drew ?_ | refine SW3.drewN ?_ _ | refine SW3.alloc ?_ hBs _)))⟩
                · have HL : Hid (¬ ((∀ x, t < x → x < R → s.f x t = 0) ∧ ∀ y, t < y → y < i + 1 → s.f t y = 0)) := Lib.hid (fun h => hz (h.2 i (by omega) (by omega)))
                  have hnz : (s.f t i == 0) = false := by simpa using hz
                  clear hz hcl
                  generalize hv : s.f t i = z at *
                  have HZ := Lib.hid hv
                  clear hv
                  go_wp2_with fail
                  (refine (spec_l12Cell_tb R C t i A n cap ((s.f)) z HZ.out _ (B := B) (by have hm := hS.om; (with_reducible (repeat (first | exact hm | refine OR.drew ?_ | refine OR.drewN ?_ _ | refine OR.alloc ?_ _ | refine OR.b_ ?_ | refine OR.l_ ?_)))) (by omega) (by omega) (by omega) (by omega)).mono ?_; rintro e w1 ⟨rfl, hb1⟩; (have hS_1 : SW3 w w1 B R C A n cap A2 n2 cap2 A3 n3 cap3 (((s.f))) (((s.g))) (((s.h))) := (by (with_reducible (repeat (first | exact hS | refine SW3.below ?_ (by assumption) Ks hBs | refine SW3.drew ?_ | refine SW3.drewN ?_ _ | refine SW3.alloc ?_ hBs _))))); clear hS hb1; clear ma mb mc mf ml la lb lc lf ll ra rb rc rf rl hsl; (have hS := hS_1); clear hS_1; obtain ⟨ma, mb, mc, mf, ml⟩ := hS.m.mx; obtain ⟨la, lb, lc, lf, ll⟩ := hS.l.mx; obtain ⟨ra, rb, rc, rf, rl⟩ := hS.r.mx; have hsl := hS.lt)
                  go_wp2_with fail
                  go_roundg (gk - 1)
                  case measure => omega
                  case rel => exact ⟨i + 1, false, by go_num, by first | rfl | (simp; done) | (rw [hnz]), by omega, by omega, by omega, ⟨fun h => Bool.noConfusion h, fun h => absurd h HL.out⟩, by (with_reducible (repeat (first | exact hS | refine SW3.below ?_ (by assumption) Ks hBs | refine SW3.drew ?_ | refine SW3.drewN ?_ _ | refine SW3.alloc ?_ hBs _)))⟩
            · have hiE : i = C := by omega
              rw [hiE] at hcl
              have HL := Lib.hid hcl
              clear hcl hiE
              go_wp2_with fail
              go_meet
              case rel => exact ⟨cl, rfl, HL.out, by (with_reducible (repeat (first | exact hS | refine SW3.below ?_ (by assumption) Ks hBs | refine SW3.drew ?_ | refine SW3.drewN ?_ _ | refine SW3.alloc ?_ hBs _)))⟩
        case rest => as_aux_lemma =>
          clear ma mb mc mf ml la lb lc lf ll ra rb rc rf rl hsl
          clear hS HCL
          obtain ⟨cl, rfl, hcl0, hS⟩ := hcut
          have hcl1 := clnS_cl hcl0
          clear hcl0
          obtain ⟨ma, mb, mc, mf, ml⟩ := hS.m.mx; obtain ⟨la, lb, lc, lf, ll⟩ := hS.l.mx; obtain ⟨ra, rb, rc, rf, rl⟩ := hS.r.mx; have hsl := hS.lt
          rcases hcl : clnS R C t s.f with _ | _
          · rw [hcl] at hcl1
            subst hcl1
            obtain rfl : X = (s, false) := HR4.out.trans (sfD_left hcl)
            clear hcl HR4
            by_cases hlc : t + 1 < R
            all_goals go_wp2_with fail
            all_goals go_rounds 1
            all_goals go_ret
            all_goals exact SW3.ret (by (with_reducible (repeat (first | exact hS | refine SW3.below ?_ (by assumption) Ks hBs | refine SW3.drew ?_ | refine SW3.drewN ?_ _ | refine SW3.alloc ?_ hBs _))))
          · rw [hcl] at hcl1
            subst hcl1
            have HCL := Lib.hid hcl
            clear hcl
            go_wp2_with fail
            go_loopg [10, 22] (R + 1) (fun k vc vi wr => ∃ (i : Nat) (cl : Bool), vi = .int .i64 i ∧ vc = .bool cl ∧ t + 1 ≤ i ∧ i ≤ R ∧ R - i < k ∧ ((cl = true ∧ (∀ x, t < x → x < i → fdR s.f t C x = false) ∧ X = sfD R C t s ∧ SW3 w wr B R C A n cap A2 n2 cap2 A3 n3 cap3 s.f s.g s.h) ∨ (cl = false ∧ X.2 = false ∧ SW3 w wr B R C A n cap A2 n2 cap2 A3 n3 cap3 X.1.f X.1.g X.1.h)))
            case atStart => exact ⟨t + 1, true, by go_num, rfl, Nat.le_refl _, by omega, by omega, .inl ⟨rfl, fun x a b => by omega, HR4.out, by (with_reducible (repeat (first | exact hS | refine SW3.below ?_ (by assumption) Ks hBs | refine SW3.drew ?_ | refine SW3.drewN ?_ _ | refine SW3.alloc ?_ hBs _)))⟩⟩
            case round => as_aux_lemma =>
              clear hS HR4
              clear ma mb mc mf ml la lb lc lf ll ra rb rc rf rl hsl
              obtain ⟨i, cl, rfl, rfl, hti, hiR, hk3, hrel⟩ := hrel
              rcases hrel with ⟨rfl, hfd0, hr4, hS⟩ | ⟨rfl, hx2, hS⟩
              · have HFD := Lib.hid hfd0
                have HR4 := Lib.hid hr4
                clear hfd0 hr4
                obtain ⟨ma, mb, mc, mf, ml⟩ := hS.m.mx; obtain ⟨la, lb, lc, lf, ll⟩ := hS.l.mx; obtain ⟨ra, rb, rc, rf, rl⟩ := hS.r.mx; have hsl := hS.lt
                by_cases hlt : i < R
                · obtain ⟨go, hgo⟩ : ∃ x, x = gk := ⟨_, rfl⟩
                  have HGO := Lib.hid hgo
                  clear hgo
                  go_wp2_with fail
                  go_loopg [10, 23] (C + 1) (fun k vc vj wr => ∃ (j : Nat) (cl : Bool), vj = .int .i64 j ∧ vc = .bool cl ∧ t + 1 ≤ j ∧ j ≤ C ∧ C - j < k ∧ ((cl = true ∧ (∀ y, t < y → y < j → ¬ (s.f i y ≠ bad ∧ (s.f i y).tmod (s.f t t) ≠ 0)) ∧ X = sfD R C t s ∧ SW3 w wr B R C A n cap A2 n2 cap2 A3 n3 cap3 s.f s.g s.h) ∨ (cl = false ∧ X.2 = false ∧ SW3 w wr B R C A n cap A2 n2 cap2 A3 n3 cap3 X.1.f X.1.g X.1.h)))
                  case atStart => exact ⟨t + 1, true, by go_num, rfl, Nat.le_refl _, by omega, by omega, .inl ⟨rfl, fun x a b => by omega, HR4.out, by (with_reducible (repeat (first | exact hS | refine SW3.below ?_ (by assumption) Ks hBs | refine SW3.drew ?_ | refine SW3.drewN ?_ _ | refine SW3.alloc ?_ hBs _)))⟩⟩
                  case round => as_aux_lemma =>
                    clear hS HR4
                    clear ma mb mc mf ml la lb lc lf ll ra rb rc rf rl hsl
                    obtain ⟨j, cl, rfl, rfl, htj, hjC, hk4, hrel⟩ := hrel
                    rcases hrel with ⟨rfl, hnd0, hr4, hS⟩ | ⟨rfl, hx2, hS⟩
                    · have HND := Lib.hid hnd0
                      have HR4 := Lib.hid hr4
                      clear hnd0 hr4
                      obtain ⟨ma, mb, mc, mf, ml⟩ := hS.m.mx; obtain ⟨la, lb, lc, lf, ll⟩ := hS.l.mx; obtain ⟨ra, rb, rc, rf, rl⟩ := hS.r.mx; have hsl := hS.lt
                      by_cases hltj : j < C
                      · have hd0 := HD0.out
                        by_cases hzb : s.f i j = bad
                        · have HN2 : Hid (∀ y, t < y → y < j + 1 → ¬ (s.f i y ≠ bad ∧ (s.f i y).tmod (s.f t t) ≠ 0)) := Lib.hid (fun y a b => by
                            rcases Nat.lt_or_ge y j with h1 | h1
                            · exact HND.out y a h1
                            · obtain rfl : y = j := by omega
                              exact fun h => h.1 hzb)
                          have hzb2 : (bad != -4611686018427387904) = false := by decide
                          have HZ := Lib.hid hzb
                          clear hzb
                          go_wp2_with fail
                          (refine (spec_l12Cell_tb R C i j A n cap ((s.f)) bad HZ.out _ (B := B) (by have hm := hS.om; (with_reducible (repeat (first | exact hm | refine OR.drew ?_ | refine OR.drewN ?_ _ | refine OR.alloc ?_ _ | refine OR.b_ ?_ | refine OR.l_ ?_)))) (by omega) (by omega) (by omega) (by omega)).mono ?_; rintro e w1 ⟨rfl, hb1⟩; (have hS_1 : SW3 w w1 B R C A n cap A2 n2 cap2 A3 n3 cap3 (((s.f))) (((s.g))) (((s.h))) := (by (with_reducible (repeat (first | exact hS | refine SW3.below ?_ (by assumption) Ks hBs | refine SW3.drew ?_ | refine SW3.drewN ?_ _ | refine SW3.alloc ?_ hBs _))))); clear hS hb1; clear ma mb mc mf ml la lb lc lf ll ra rb rc rf rl hsl; (have hS := hS_1); clear hS_1; obtain ⟨ma, mb, mc, mf, ml⟩ := hS.m.mx; obtain ⟨la, lb, lc, lf, ll⟩ := hS.l.mx; obtain ⟨ra, rb, rc, rf, rl⟩ := hS.r.mx; have hsl := hS.lt)
                          go_wp2_with fail
                          go_roundg (gk - 1)
                          case measure => omega
                          case rel => exact ⟨j + 1, true, by go_num, rfl, by omega, by omega, by omega, .inl ⟨rfl, HN2.out, HR4.out, by (with_reducible (repeat (first | exact hS | refine SW3.below ?_ (by assumption) Ks hBs | refine SW3.drew ?_ | refine SW3.drewN ?_ _ | refine SW3.alloc ?_ hBs _)))⟩⟩
                        · have hzbb : (s.f i j != -4611686018427387904) = true := by simpa [bad] using hzb
                          have hdd := HDS.out
                          by_cases hm : (s.f i j).tmod d = 0
                          · have HN2 : Hid (∀ y, t < y → y < j + 1 → ¬ (s.f i y ≠ bad ∧ (s.f i y).tmod (s.f t t) ≠ 0)) := Lib.hid (fun y a b => by
                              rcases Nat.lt_or_ge y j with h1 | h1
                              · exact HND.out y a h1
                              · obtain rfl : y = j := by omega
                                rw [hdd]
                                exact fun h => h.2 hm)
                            have hmb : ((s.f i j).tmod d != 0) = false := by simp [hm]
                            clear hm hzb hdd
                            generalize hz : s.f i j = z at *
                            have HZ := Lib.hid hz
                            clear hz
                            go_wp2_with fail
                            (refine (spec_l12Cell_tb R C i j A n cap ((s.f)) z HZ.out _ (B := B) (by have hm := hS.om; (with_reducible (repeat (first | exact hm | refine OR.drew ?_ | refine OR.drewN ?_ _ | refine OR.alloc ?_ _ | refine OR.b_ ?_ | refine OR.l_ ?_)))) (by omega) (by omega) (by omega) (by omega)).mono ?_; rintro e w1 ⟨rfl, hb1⟩; (have hS_1 : SW3 w w1 B R C A n cap A2 n2 cap2 A3 n3 cap3 (((s.f))) (((s.g))) (((s.h))) := (by (with_reducible (repeat (first | exact hS | refine SW3.below ?_ (by assumption) Ks hBs | refine SW3.drew ?_ | refine SW3.drewN ?_ _ | refine SW3.alloc ?_ hBs _))))); clear hS hb1; clear ma mb mc mf ml la lb lc lf ll ra rb rc rf rl hsl; (have hS := hS_1); clear hS_1; obtain ⟨ma, mb, mc, mf, ml⟩ := hS.m.mx; obtain ⟨la, lb, lc, lf, ll⟩ := hS.l.mx; obtain ⟨ra, rb, rc, rf, rl⟩ := hS.r.mx; have hsl := hS.lt)
                            go_wp2_with fail
                            (refine (spec_l12Cell_tb R C i j A n cap ((s.f)) z HZ.out _ (B := B) (by have hm := hS.om; (with_reducible (repeat (first | exact hm | refine OR.drew ?_ | refine OR.drewN ?_ _ | refine OR.alloc ?_ _ | refine OR.b_ ?_ | refine OR.l_ ?_)))) (by omega) (by omega) (by omega) (by omega)).mono ?_; rintro e w1 ⟨rfl, hb1⟩; (have hS_1 : SW3 w w1 B R C A n cap A2 n2 cap2 A3 n3 cap3 (((s.f))) (((s.g))) (((s.h))) := (by (with_reducible (repeat (first | exact hS | refine SW3.below ?_ (by assumption) Ks hBs | refine SW3.drew ?_ | refine SW3.drewN ?_ _ | refine SW3.alloc ?_ hBs _))))); clear hS hb1; clear ma mb mc mf ml la lb lc lf ll ra rb rc rf rl hsl; (have hS := hS_1); clear hS_1; obtain ⟨ma, mb, mc, mf, ml⟩ := hS.m.mx; obtain ⟨la, lb, lc, lf, ll⟩ := hS.l.mx; obtain ⟨ra, rb, rc, rf, rl⟩ := hS.r.mx; have hsl := hS.lt)
                            go_wp2_with fail
                            go_roundg (gk - 1)
                            case measure => omega
                            case rel => exact ⟨j + 1, true, by go_num, rfl, by omega, by omega, by omega, .inl ⟨rfl, HN2.out, HR4.out, by (with_reducible (repeat (first | exact hS | refine SW3.below ?_ (by assumption) Ks hBs | refine SW3.drew ?_ | refine SW3.drewN ?_ _ | refine SW3.alloc ?_ hBs _)))⟩⟩
                          · have HFI : Hid (fdR s.f t C i = true) := Lib.hid (fdR_iff.2 ⟨j, htj, hltj, hzb, by rw [hdd]; exact hm⟩)
                            have hmb : ((s.f i j).tmod d != 0) = true := by simp [hm]
                            have hti2 : t ≠ i := by omega
                            have HTI := Lib.hid hti2
                            clear hm hzb hti2 hdd
                            generalize hz : s.f i j = z at *
                            have HZ := Lib.hid hz
                            clear hz
                            obtain rfl : X = (s.wr (s.row.add t i 1), false) := HR4.out.trans (sfD_next HCL.out (fd_first hti hlt HFD.out HFI.out))
                            clear HR4
                            go_wp2_with fail
                            (refine (spec_l12Cell_tb R C i j A n cap ((s.f)) z HZ.out _ (B := B) (by have hm := hS.om; (with_reducible (repeat (first | exact hm | refine OR.drew ?_ | refine OR.drewN ?_ _ | refine OR.alloc ?_ _ | refine OR.b_ ?_ | refine OR.l_ ?_)))) (by omega) (by omega) (by omega) (by omega)).mono ?_; rintro e w1 ⟨rfl, hb1⟩; (have hS_1 : SW3 w w1 B R C A n cap A2 n2 cap2 A3 n3 cap3 (((s.f))) (((s.g))) (((s.h))) := (by (with_reducible (repeat (first | exact hS | refine SW3.below ?_ (by assumption) Ks hBs | refine SW3.drew ?_ | refine SW3.drewN ?_ _ | refine SW3.alloc ?_ hBs _))))); clear hS hb1; clear ma mb mc mf ml la lb lc lf ll ra rb rc rf rl hsl; (have hS := hS_1); clear hS_1; obtain ⟨ma, mb, mc, mf, ml⟩ := hS.m.mx; obtain ⟨la, lb, lc, lf, ll⟩ := hS.l.mx; obtain ⟨ra, rb, rc, rf, rl⟩ := hS.r.mx; have hsl := hS.lt)
                            go_wp2_with fail
                            (refine (spec_l12Cell_tb R C i j A n cap ((s.f)) z HZ.out _ (B := B) (by have hm := hS.om; (with_reducible (repeat (first | exact hm | refine OR.drew ?_ | refine OR.drewN ?_ _ | refine OR.alloc ?_ _ | refine OR.b_ ?_ | refine OR.l_ ?_)))) (by omega) (by omega) (by omega) (by omega)).mono ?_; rintro e w1 ⟨rfl, hb1⟩; (have hS_1 : SW3 w w1 B R C A n cap A2 n2 cap2 A3 n3 cap3 (((s.f))) (((s.g))) (((s.h))) := (by (with_reducible (repeat (first | exact hS | refine SW3.below ?_ (by assumption) Ks hBs | refine SW3.drew ?_ | refine SW3.drewN ?_ _ | refine SW3.alloc ?_ hBs _))))); clear hS hb1; clear ma mb mc mf ml la lb lc lf ll ra rb rc rf rl hsl; (have hS := hS_1); clear hS_1; obtain ⟨ma, mb, mc, mf, ml⟩ := hS.m.mx; obtain ⟨la, lb, lc, lf, ll⟩ := hS.l.mx; obtain ⟨ra, rb, rc, rf, rl⟩ := hS.r.mx; have hsl := hS.lt)
                            go_wp2_with fail
                            refine (spec_l12Ops_add R C t i 1 A n cap A2 n2 cap2 s.f s.g _ (B := B) (by have hm := hS.om; (with_reducible (repeat (first | exact hm | refine OR.drew ?_ | refine OR.drewN ?_ _ | refine OR.alloc ?_ _ | refine OR.b_ ?_ | refine OR.l_ ?_)))) (by have hm := hS.ol; (with_reducible (repeat (first | exact hm | refine OR.drew ?_ | refine OR.drewN ?_ _ | refine OR.alloc ?_ _ | refine OR.b_ ?_ | refine OR.l_ ?_)))) HAP.out Ks ht hlt HTI.out Num.one HNB4.out.f HNB4.out.g (by omega) hC hR).mono ?_
                            rintro e w1 hw2
                            have hS_1 : SW3 w w1 B R C A n cap A2 n2 cap2 A3 n3 cap3 (opA s.f t i 1) (opA s.g t i 1) s.h := by
                              refine SW3.by_ (wr := _) (f := s.f) (g := s.g) (h := s.h) (by (with_reducible (repeat (first | exact hS | refine SW3.below ?_ (by assumption) Ks hBs | refine SW3.drew ?_ | refine SW3.drewN ?_ _ | refine SW3.alloc ?_ hBs _)))) HOA.out HOB.out HOC.out (W3.ofOps (by (with_reducible (repeat (first | exact hS | refine SW3.below ?_ (by assumption) Ks hBs | refine SW3.drew ?_ | refine SW3.drewN ?_ _ | refine SW3.alloc ?_ hBs _)))) HAP2.out HAP3.out hw2)
                            obtain ⟨rfl, -⟩ := hw2
                            clear hS; clear ma mb mc mf ml la lb lc lf ll ra rb rc rf rl hsl; (have hS := hS_1); clear hS_1; obtain ⟨ma, mb, mc, mf, ml⟩ := hS.m.mx; obtain ⟨la, lb, lc, lf, ll⟩ := hS.l.mx; obtain ⟨ra, rb, rc, rf, rl⟩ := hS.r.mx; have hsl := hS.lt
                            go_wp2_with fail
                            go_roundg (gk - 1)
                            case measure => omega
                            case rel => exact ⟨j + 1, false, by go_num, rfl, by omega, by omega, by omega, .inr ⟨rfl, (by first | rfl | trivial), by show SW3 w _ B R C A n cap A2 n2 cap2 A3 n3 cap3 (opA s.f t i 1) (opA s.g t i 1) s.h; (with_reducible (repeat (first | exact hS | refine SW3.below ?_ (by assumption) Ks hBs | refine SW3.drew ?_ | refine SW3.drewN ?_ _ | refine SW3.alloc ?_ hBs _)))⟩⟩
                      · have hjE : j = C := by omega
                        rw [hjE] at HND
                        clear hjE
                        have HF2 : Hid (∀ x, t < x → x < i + 1 → fdR s.f t C x = false) := Lib.hid (fun x a b => by
                          rcases Nat.lt_or_ge x i with h1 | h1
                          · exact HFD.out x a h1
                          · obtain rfl : x = i := by omega
                            exact fdR_no HND.out)
                        go_wp2_with fail
                        go_roundg (go - 1)
                        case measure => have := HGO.out; omega
                        case rel => exact ⟨i + 1, true, by go_num, rfl, by omega, by omega, by have := HGO.out; omega, .inl ⟨rfl, HF2.out, HR4.out, by (with_reducible (repeat (first | exact hS | refine SW3.below ?_ (by assumption) Ks hBs | refine SW3.drew ?_ | refine SW3.drewN ?_ _ | refine SW3.alloc ?_ hBs _)))⟩⟩
                    · have HX2 := Lib.hid hx2
                      clear hx2
                      obtain ⟨ma, mb, mc, mf, ml⟩ := hS.m.mx; obtain ⟨la, lb, lc, lf, ll⟩ := hS.l.mx; obtain ⟨ra, rb, rc, rf, rl⟩ := hS.r.mx; have hsl := hS.lt
                      by_cases hltj : j < C
                      · go_wp2_with fail
                        go_roundg (go - 1)
                        case measure => have := HGO.out; omega
                        case rel => exact ⟨i + 1, false, by go_num, rfl, by omega, by omega, by have := HGO.out; omega, .inr ⟨rfl, HX2.out, by (with_reducible (repeat (first | exact hS | refine SW3.below ?_ (by assumption) Ks hBs | refine SW3.drew ?_ | refine SW3.drewN ?_ _ | refine SW3.alloc ?_ hBs _)))⟩⟩
                      · go_wp2_with fail
                        go_roundg (go - 1)
                        case measure => have := HGO.out; omega
                        case rel => exact ⟨i + 1, false, by go_num, rfl, by omega, by omega, by have := HGO.out; omega, .inr ⟨rfl, HX2.out, by (with_reducible (repeat (first | exact hS | refine SW3.below ?_ (by assumption) Ks hBs | refine SW3.drew ?_ | refine SW3.drewN ?_ _ | refine SW3.alloc ?_ hBs _)))⟩⟩
                · have hiE : i = R := by omega
                  rw [hiE] at HFD
                  clear hiE
                  obtain rfl : X = (s, true) := HR4.out.trans (sfD_done HCL.out (fd_none HFD.out))
                  clear HR4
                  go_wp2_with fail
                  go_ret
                  exact SW3.ret (by (with_reducible (repeat (first | exact hS | refine SW3.below ?_ (by assumption) Ks hBs | refine SW3.drew ?_ | refine SW3.drewN ?_ _ | refine SW3.alloc ?_ hBs _))))
              · have HX2 := Lib.hid hx2
                clear hx2
                obtain ⟨ma, mb, mc, mf, ml⟩ := hS.m.mx; obtain ⟨la, lb, lc, lf, ll⟩ := hS.l.mx; obtain ⟨ra, rb, rc, rf, rl⟩ := hS.r.mx; have hsl := hS.lt
                by_cases hlt : i < R
                all_goals go_wp2_with fail
                all_goals go_ret
                all_goals rw [HX2.out]
                all_goals exact SW3.ret (by (with_reducible (repeat (first | exact hS | refine SW3.below ?_ (by assumption) Ks hBs | refine SW3.drew ?_ | refine SW3.drewN ?_ _ | refine SW3.alloc ?_ hBs _))))
end Go.Proofs.Ytacjonkehcamgaa

/-
  DERIVED. IsSolution of the program.
-/
import Derived.Test.YtacjonkehcamgaaY5
namespace Go.Proofs.Ytacjonkehcamgaa
open Go.RowKit
set_option linter.unusedVariables false
set_option linter.unusedSimpArgs false
set_option maxRecDepth 100000 in
set_option maxHeartbeats 4000000 in
theorem impl_IsSolution (r c : Int) (A A2 A3 : Option Addr) (n cap n2 cap2 n3 cap3 : Nat) (xs b x : List Int) (w : World) {B B2 B3' : Nat} (h : RI w B A n xs) (h2 : RI w B2 A2 n2 b) (h3 : RI w B3' A3 n3 x) (hB : B ≤ w.heap.size) (hB2 : B2 ≤ w.heap.size) (hB3 : B3' ≤ w.heap.size)
    (hn : n ≤ 1048576) (hn2 : n2 ≤ 1048576) (hn3 : n3 ≤ 1048576) :
    Calls Try.prog 21 #[.agg #[.int .i64 r, .int .i64 c, .slice A n cap], .slice A2 n2 cap2, .slice A3 n3 cap3] w (BV (.bool (solB r c xs b x)) w) := by
  have hl3 := h3.len
  have H1 := Lib.hid (h.more hB)
  have H2 := Lib.hid (h2.more hB2)
  have H3 := Lib.hid (h3.more hB3)
  have HE : Hid (solB r c xs b x = (mulB r c xs n3 1 x && eqB (mulM r c xs n3 1 x).xs b)) := Lib.hid (by rw [← hl3]; rfl)
  have hml := mulM_len r c xs n3 1 x
  clear h h2 h3 hB hB2 hB3 hl3
  rw [HE.out]
  rcases hres : mulB r c xs n3 1 x with _ | _
  · rw [Bool.false_and]
    have HRES := Lib.hid hres
    clear hres
    go_enter Try.func21, Try.ntmps21
    go_wp2_with fail
    have hA : BM (w.alloc (.cells #[.int .i64 r, .int .i64 c, .slice A n cap] 26)) w.heap.size r c A n cap := Ka
    go_region_held3 (fun w' => w'.cell? ⟨w.heap.size, 0, none⟩ = some (.int .i64 r) ∧ w'.cell? ⟨w.heap.size, 1, none⟩ = some (.int .i64 c) ∧ w'.cell? ⟨w.heap.size, 2, none⟩ = some (.slice A n cap)) (first | go_keep | (simp [go_sem]; done)) (first | (go_at_call 102; refine (impl_columnOf A3 n3 cap3 x _ (B := w.heap.size) (Kr H3.out) Ks hn3).mono ?_; rintro e w1 ⟨Ac, nc, cc, rfl, hc, hb1⟩; have hs1 := hb1.size; (try simp at hs1); have hnc : nc ≤ 1048576 := (by have h8 : nc = x.length := hc.lenEq; have h9 := H3.out.len; omega); have hA1 : BM w1 w.heap.size r c A n cap := (Kb hA); have hbw1 : Below w.heap.size w w1 := Kw; have HC := Lib.hid hc.reads; have ne1 : ¬ (w1.heap.size = w.heap.size) := (by have h7 := hA1.lt; omega); have ne0 : ¬ (w.heap.size + 1 = w.heap.size) := (by omega); (first | (have hz1 : B3 26 w1 (w.heap.size + 1) := B3.below (B3.drew (B3.new _ _ _ _ _ _ (by simp))) hb1 Ks; obtain ⟨x0, x1, x2, hx⟩ := id hz1; have z0 := hx.cell 0; have z1 := hx.cell 1; have z2 := hx.cell 2; have zf := hx.frozen; have zl := hx.lt; simp at z0 z1 z2) | skip); obtain ⟨aa, ab, ac, af, al⟩ := hA1.mx) | (go_at_call 40; refine (impl_MultiplyMatrices r c n3 1 A Ac n cap nc cc xs x _ (B := w.heap.size) (B' := w1.heap.size) (Kr H1.out) (Kr HC.out) Ks Ks hn hnc).mono ?_; rw [HRES.out]; rintro e w2 ⟨Ar, nr, cr, rfl, ho, hb2⟩; have hs2 := hb2.size; (try simp at hs2); have hA2 : BM w2 w.heap.size r c A n cap := (Kb hA1); have hbw2 : Below w.heap.size w w2 := Kw; obtain ⟨ba, bb, bc, bf, bl⟩ := hA2.mx; have ne2 : ¬ (w2.heap.size = w.heap.size) := (by omega); (first | (have hz2 : B3 26 w2 (w.heap.size + 1) := (by exact B3.below hz1 hb2 Ks); clear z0 z1 z2 zf zl; obtain ⟨x0, x1, x2, hx⟩ := hz2; have z0 := hx.cell 0; have z1 := hx.cell 1; have z2 := hx.cell 2; have zf := hx.frozen; have zl := hx.lt; simp at z0 z1 z2) | (have hz2 : B3 26 w2 w1.heap.size := B3.below (B3.new _ _ _ _ _ _ rfl) hb2 Ks; obtain ⟨x0, x1, x2, hx⟩ := hz2; have z0 := hx.cell 0; have z1 := hx.cell 1; have z2 := hx.cell 2; have zf := hx.frozen; have zl := hx.lt; simp at z0 z1 z2) | skip)))
    all_goals go_wp2
    all_goals go_ret
    all_goals exact BV.mk rfl Kw
  · rw [Bool.true_and]
    have HRES := Lib.hid hres
    clear hres
    go_enter Try.func21, Try.ntmps21
    go_wp2_with fail
    have hA : BM (w.alloc (.cells #[.int .i64 r, .int .i64 c, .slice A n cap] 26)) w.heap.size r c A n cap := Ka
    go_region_held3 (fun w' => w'.cell? ⟨w.heap.size, 0, none⟩ = some (.int .i64 r) ∧ w'.cell? ⟨w.heap.size, 1, none⟩ = some (.int .i64 c) ∧ w'.cell? ⟨w.heap.size, 2, none⟩ = some (.slice A n cap)) (first | go_keep | (simp [go_sem]; done)) (first | (go_at_call 102; refine (impl_columnOf A3 n3 cap3 x _ (B := w.heap.size) (Kr H3.out) Ks hn3).mono ?_; rintro e w1 ⟨Ac, nc, cc, rfl, hc, hb1⟩; have hs1 := hb1.size; (try simp at hs1); have hnc : nc ≤ 1048576 := (by have h8 : nc = x.length := hc.lenEq; have h9 := H3.out.len; omega); have hA1 : BM w1 w.heap.size r c A n cap := (Kb hA); have hbw1 : Below w.heap.size w w1 := Kw; have HC := Lib.hid hc.reads; have ne1 : ¬ (w1.heap.size = w.heap.size) := (by have h7 := hA1.lt; omega); have ne0 : ¬ (w.heap.size + 1 = w.heap.size) := (by omega); (first | (have hz1 : B3 26 w1 (w.heap.size + 1) := B3.below (B3.drew (B3.new _ _ _ _ _ _ (by simp))) hb1 Ks; obtain ⟨x0, x1, x2, hx⟩ := id hz1; have z0 := hx.cell 0; have z1 := hx.cell 1; have z2 := hx.cell 2; have zf := hx.frozen; have zl := hx.lt; simp at z0 z1 z2) | skip); obtain ⟨aa, ab, ac, af, al⟩ := hA1.mx) | (go_at_call 40; refine (impl_MultiplyMatrices r c n3 1 A Ac n cap nc cc xs x _ (B := w.heap.size) (B' := w1.heap.size) (Kr H1.out) (Kr HC.out) Ks Ks hn hnc).mono ?_; rw [HRES.out]; rintro e w2 ⟨Ar, nr, cr, rfl, ho, hb2⟩; have hs2 := hb2.size; (try simp at hs2); have hA2 : BM w2 w.heap.size r c A n cap := (Kb hA1); have hbw2 : Below w.heap.size w w2 := Kw; obtain ⟨ba, bb, bc, bf, bl⟩ := hA2.mx; have ne2 : ¬ (w2.heap.size = w.heap.size) := (by omega); (first | (have hz2 : B3 26 w2 (w.heap.size + 1) := (by exact B3.below hz1 hb2 Ks); clear z0 z1 z2 zf zl; obtain ⟨x0, x1, x2, hx⟩ := hz2; have z0 := hx.cell 0; have z1 := hx.cell 1; have z2 := hx.cell 2; have zf := hx.frozen; have zl := hx.lt; simp at z0 z1 z2) | (have hz2 : B3 26 w2 w1.heap.size := B3.below (B3.new _ _ _ _ _ _ rfl) hb2 Ks; obtain ⟨x0, x1, x2, hx⟩ := hz2; have z0 := hx.cell 0; have z1 := hx.cell 1; have z2 := hx.cell 2; have zf := hx.frozen; have zl := hx.lt; simp at z0 z1 z2) | skip)))
    all_goals
      have hnr : nr ≤ 576 := by have h8 := ho.lenEq; omega
      have hl2 := H2.out.len
      have hn2' : n2 ≤ 1048576 := hn2
      clear hl2
      go_wp2_with fail
      refine (impl_sameInts Ar A2 nr n2 cr cap2 (mulM r c xs n3 1 x).xs b _ (C' := w.heap.size) (by first | exact OR.reads (OR.alloc ho _) | exact OR.reads (OR.low (OR.low (OR.low ho Ks _) Ks _) Ks _)) (Kr H2.out) (by omega) (by omega)).mono ?_
      rintro e w' ⟨rfl, nd, rfl⟩
      go_wp2_with fail
      go_ret
      exact BV.mk rfl Kw
end Go.Proofs.Ytacjonkehcamgaa

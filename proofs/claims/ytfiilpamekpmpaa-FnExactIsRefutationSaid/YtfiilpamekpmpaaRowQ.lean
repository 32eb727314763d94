/-
  DERIVED. An argument that is a slice of ratios, read.
-/
import Derived.Test.YtfiilpamekpmpaaRowkit
import Derived.Deep.SlicePairs
namespace Go.Proofs.Ytfiilpamekpmpaa
open Go.ChangeShapes Go.WideShapes Go.ChangeAt Go.RowKit Go.Joins
set_option linter.unusedVariables false
section
variable {H : Type} {enc : TypeId × Value → H} {P : Program}
theorem reads_ratios {w : World} {base : Nat} {spare : Nat → Bool} {held : Bool} {t e : TypeId} {f0 f1 : Field} {fuel : Nat} {v : Value} {x : DataW H × List MemPlace}
    (ht : P.underlying t = some (.slice e)) (he : P.underlying e = some (.struct #[f0, f1])) (ce : P.cellsOf e = 2) (o0 : f0.offset = 0) (o1 : f1.offset = 1) (c0 : P.cellsOf f0.type = 1) (c1 : P.cellsOf f1.type = 1)
    (i0 : P.underlying f0.type = some (.int .i64)) (i1 : P.underlying f1.type = some (.int .i64)) (h : DataW.trod enc P w base spare held fuel t [v] = some x) (hlt : ∀ p ∈ x.2, p.block < w.heap.size) :
    ∃ A n cap xs, v = .slice A n cap ∧ n ≤ cap ∧ cap ≤ maxLen ∧ RI w w.heap.size A (n * 2) xs ∧ ∀ z ∈ xs, (Lit.int .i64 z).wf = true := by
  rcases Go.Deep.open_slice_pairs ht he ce o0 o1 c0 c1 h with ⟨hcs, hx⟩ | ⟨a, len, cap, m, n, V0, V1, D0, D1, P0, P1, hcs, hb, hl, hm, hmm, hx, hi⟩
  · injection hcs with hv
    exact ⟨none, 0, 0, [], hv, Nat.le_refl _, by unfold maxLen; omega, RI.nil_ _ _ _, by simp⟩
  · injection hcs with hv
    have hlm : len ≤ m := by rw [hmm]; split <;> omega
    have hex : ∀ i, ∃ p : Int × Int, i < len → w.cell? (a.add (i * 2)) = some (.int .i64 p.1) ∧ w.cell? (a.add (i * 2 + 1)) = some (.int .i64 p.2) ∧ (Lit.int .i64 p.1).wf = true ∧ (Lit.int .i64 p.2).wf = true := by
      intro i
      by_cases hil : i < len
      · obtain ⟨h0, h1, t0, t1⟩ := hi i (by omega)
        obtain ⟨y0, e0, _, w0⟩ := DataW.trod_int i0 t0
        obtain ⟨y1, e1, _, w1⟩ := DataW.trod_int i1 t1
        injection e0 with e0
        injection e1 with e1
        exact ⟨(y0, y1), fun _ => ⟨by rw [h0, e0], by rw [h1, e1], w0, w1⟩⟩
      · exact ⟨(0, 0), fun h => absurd h hil⟩
    obtain ⟨F, hF⟩ := Classical.skolem.1 hex
    refine ⟨some a, len, cap, (List.range (len * 2)).map (fun q => if q % 2 = 0 then (F (q / 2)).1 else (F (q / 2)).2), hv, hl, hm, ⟨by simp, fun hn => ?_⟩, fun z hz => ?_⟩
    · obtain ⟨b, off, spot⟩ := a
      have hspot : spot = none := by
        have := (hF 0 (by omega)).1
        simpa [Addr.add] using World.cell?_spot this
      subst hspot
      refine ⟨b, off, rfl, ?_, fun k hk => ?_⟩
      · have h0 : MemPlace.cell b off ∈ x.2 := by
          rw [hx]
          simp only [MemPlace.row, List.mem_append, List.mem_map, List.mem_range]
          exact .inl ⟨0, by omega, rfl⟩
        exact hlt _ h0
      · have hg : ((List.range (len * 2)).map (fun q => if q % 2 = 0 then (F (q / 2)).1 else (F (q / 2)).2)).getD k 0 = if k % 2 = 0 then (F (k / 2)).1 else (F (k / 2)).2 := by simp [List.getD, hk]
        rw [hg]
        obtain ⟨g1, g2, _, _⟩ := hF (k / 2) (by omega)
        rw [Go.WideShapes.add_plain] at g1 g2
        by_cases hk2 : k % 2 = 0
        · rw [if_pos hk2, ← g1]
          congr 2
          omega
        · rw [if_neg hk2, ← g2]
          congr 2
          omega
    · obtain ⟨q, hq, rfl⟩ := List.mem_map.1 hz
      have hq2 := List.mem_range.1 hq
      obtain ⟨_, _, g3, g4⟩ := hF (q / 2) (by omega)
      split
      · exact g3
      · exact g4
end
end Go.Proofs.Ytfiilpamekpmpaa

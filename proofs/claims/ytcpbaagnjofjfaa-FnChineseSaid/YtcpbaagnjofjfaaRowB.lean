/-
  DERIVED. A slice of bytes that came in, read.
-/
import Derived.Test.YtcpbaagnjofjfaaRowkit
import Derived.Test.YtcpbaagnjofjfaaDrw
namespace Go.Proofs.Ytcpbaagnjofjfaa
open Go.ChangeShapes Go.WideShapes Go.ChangeAt Go.RowKit Go.Joins
set_option linter.unusedVariables false
section
variable {H : Type} {enc : TypeId × Value → H} {P : Program}
theorem reads_bytes {w : World} {base : Nat} {spare : Nat → Bool} {held : Bool} {t e : TypeId} {fuel : Nat} {v : Value} {x : DataW H × List MemPlace}
    (ht : P.underlying t = some (.slice e)) (he : P.underlying e = some (.int .u8)) (hc : P.cellsOf e = 1) (h : DataW.trod enc P w base spare held fuel t [v] = some x)
    (hlt : ∀ p ∈ x.2, p.block < w.heap.size) :
    ∃ A n cap xs, v = .slice A n cap ∧ n ≤ cap ∧ cap ≤ maxLen ∧ RB w w.heap.size A n xs := by
  rcases open_ints ht he hc h with ⟨hcs, hx⟩ | ⟨a, len, cap, zs, hcs, hb, hl, hm, hz, hx, hcell, hwf⟩
  · injection hcs with hv
    exact ⟨none, 0, 0, [], hv, Nat.le_refl _, by unfold maxLen; omega, rfl, fun h => absurd h (by omega), fun k => by simp⟩
  · injection hcs with hv
    have hzl : len ≤ zs.length := by rw [hz]; split <;> omega
    refine ⟨some a, len, cap, zs.take len, hv, hl, hm, by simp; omega, fun hn => ?_, fun k => ?_⟩
    · obtain ⟨b, off, rfl, hc'⟩ := ints_at hcell (by omega)
      refine ⟨b, off, rfl, ?_, fun k hk => ?_⟩
      · have h0 : MemPlace.cell b off ∈ x.2 := by
          rw [hx]
          simp only [MemPlace.row, List.mem_map, List.mem_range]
          exact ⟨0, by omega, rfl⟩
        exact hlt _ h0
      · rw [hc' k (by omega)]
        simp [List.getD, hk]
    · by_cases hk : k < (zs.take len).length
      · have h1 : (zs.take len).getD k 0 ∈ zs := by
          have : (zs.take len).getD k 0 = (zs.take len)[k] := by unfold List.getD; rw [List.getElem?_eq_getElem hk]; rfl
          rw [this]
          exact List.mem_of_mem_take (List.getElem_mem hk)
        simpa [Lit.wf, IntKind.min, IntKind.max, IntKind.signed, IntKind.bits] using hwf _ h1
      · have : (zs.take len).getD k 0 = 0 := by simp [List.getD, List.getElem?_eq_none (show (zs.take len).length ≤ k by omega)]
        rw [this]; omega
end
end Go.Proofs.Ytcpbaagnjofjfaa

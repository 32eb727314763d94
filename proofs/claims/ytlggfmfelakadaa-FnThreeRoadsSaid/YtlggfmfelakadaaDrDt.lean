/-
  DERIVED. What is drawn where one square matrix is wanted: DrawDeterminantByImages.
-/
import Derived.Test.YtlggfmfelakadaaDrQt
namespace Go.Proofs.Ytlggfmfelakadaa
open Go.RowKit
set_option linter.unusedVariables false
set_option linter.unusedSimpArgs false
/-- The call drew a matrix, its cells its own. -/
def DMS (wo : World) (e : Ending) (w' : World) : Prop := ∃ (r c : Int) (Am : Option Addr) (nm cm : Nat) (ys : List Int), e = .returned (.agg #[.int .i64 r, .int .i64 c, .slice Am nm cm]) ∧ OR w' wo.heap.size (.slice Am nm cm) ys ∧ ys.length ≤ 17 ∧ (-1 ≤ r ∧ r ≤ 12) ∧ Below wo.heap.size wo w'
set_option maxRecDepth 100000 in
set_option maxHeartbeats 4000000 in
theorem spec_DrawDeterminantByImages (n cap : Nat) (A : Option Addr) (xs : List Int) (wo : World) (hby : RB wo wo.heap.size A n xs) (hn : n ≤ 2000000) :
    Calls Try.prog 17 #[.slice A n cap] wo (DMS wo) := by
  have HBY := Lib.hid hby
  clear hby
  go_enter Try.func17, Try.ntmps17
  go_wp2_with fail
  refine (spec_l1New n cap A xs _ (B := wo.heap.size) (by (with_reducible (repeat (first | exact HBY.out | refine RB.drew ?_ | refine RB.drewN ?_ _ | refine RB.alloc ?_ Ks _ | refine RB.setCell ?_ Ks _ | refine RB.below ?_ (by assumption) Ks)))) hn).mono ?_
  rintro e w ⟨b, rfl, hcu, hbs, hb2⟩
  have hsz2 := hb2.size
  simp at hsz2 hbs
  have hct : CT w w wo.heap.size b n cap A xs := CT.new hcu (by (with_reducible (repeat (first | exact HBY.out | refine RB.drew ?_ | refine RB.drewN ?_ _ | refine RB.alloc ?_ Ks _ | refine RB.setCell ?_ Ks _ | refine RB.below ?_ (by assumption) Ks)))) (by omega) hn
  have HB0 : Hid (Below wo.heap.size wo w) := Lib.hid Kw
  have hR0 : BM w wo.heap.size 0 0 none 0 0 := Ka
  have hb := hct.hb
  clear hb2 hcu
  go_wp2_with fail
  refine (spec_l3Square b n cap A xs _ (CT.self (w0 := w) (B := wo.heap.size) (by (with_reducible (repeat (first | exact hct | refine CT.drew ?_ | refine CT.drewN ?_ _ | refine CT.alloc ?_ _ | refine CT.far ?_ Ks _ | refine CT.below ?_ (by assumption) Ks)))))).mono ?_
  rintro e w1 ⟨v, rfl, ⟨r, c, Am, nm, cm, ys, rfl, ho1, hl1, hr1, hc1⟩, hct1⟩
  have hsz1 := hct1.size
  have hR : BM w1 wo.heap.size 0 0 none 0 0 := hR0.grown hct1.gr (by simp; omega)
  have hvr := B3.of hR
  have hbw : Below wo.heap.size wo w1 := HB0.out.trans (CT.under hct1 (by omega))
  obtain ⟨ra, rb, rc, rf, rl⟩ := hR.mx
  have ho2 : OR w1 (wo.heap.size + 1) (.slice Am nm cm) ys := OR.mono ho1 (by omega)
  clear ho1 hct hct1
  go_wp2_with fail
  refine ret_M (b := wo.heap.size) Try.results17 rfl (Kb hvr) rfl ?_
  exact ⟨r, c, Am, nm, cm, ys, rfl, OR.mono (B := wo.heap.size + 1) (Ko ho2) (by omega), hl1, by omega, Kw⟩
end Go.Proofs.Ytlggfmfelakadaa

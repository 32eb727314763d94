/-
  DERIVED. What is drawn for solutions: l11Draw, DrawSolveByDeterminants, DrawSolveByLifting.
-/
import Derived.Test.YtlggfmfelakadaaDrQu
import Derived.Test.YtlggfmfelakadaaU7
namespace Go.Proofs.Ytlggfmfelakadaa
open Go.RowKit
set_option linter.unusedVariables false
set_option linter.unusedSimpArgs false
/-- The call drew a matrix and a list. -/
def DSD (wo : World) (e : Ending) (w' : World) : Prop := ∃ (r c : Int) (Am : Option Addr) (nm cm : Nat) (ys : List Int) (Ab : Option Addr) (nb cb : Nat) (bs : List Int), e = .returned (.tuple #[.agg #[.int .i64 r, .int .i64 c, .slice Am nm cm], .slice Ab nb cb]) ∧ OR w' wo.heap.size (.slice Am nm cm) ys ∧ OR w' wo.heap.size (.slice Ab nb cb) bs ∧ ys.length ≤ 17 ∧ bs.length ≤ 1001 ∧ (-1 ≤ r ∧ r ≤ 12) ∧ Below wo.heap.size wo w'
theorem RB.moreE {w : World} {B B' n : Nat} {A : Option Addr} {xs : List Int} (h : RB w B A n xs) (hB : B ≤ B') : RB w B' A n xs :=
  ⟨h.1, fun hn => by
    obtain ⟨b, o, e, hb, hc⟩ := h.2.1 hn
    exact ⟨b, o, e, by omega, hc⟩, h.2.2⟩
set_option maxRecDepth 100000 in
set_option maxHeartbeats 8000000 in
theorem spec_l11Draw (n cap : Nat) (A : Option Addr) (xs : List Int) (wo : World) (hby : RB wo wo.heap.size A n xs) (hn : n ≤ 2000000) :
    Calls Try.prog 82 #[.slice A n cap] wo (DSD wo) := by
  have HBY := Lib.hid hby
  clear hby
  go_enter Try.func82, Try.ntmps82
  go_wp2_with fail
  refine (spec_l1New n cap A xs _ (B := wo.heap.size) (by (with_reducible (repeat (first | exact HBY.out | refine RB.drew ?_ | refine RB.drewN ?_ _ | refine RB.alloc ?_ Ks _ | refine RB.setCell ?_ Ks _ | refine RB.below ?_ (by assumption) Ks)))) hn).mono ?_
  rintro e w ⟨b, rfl, hcu, hbs, hb2⟩
  have hsz2 := hb2.size
  simp at hsz2 hbs
  have hct : CT w w wo.heap.size b n cap A xs := CT.new hcu (by (with_reducible (repeat (first | exact HBY.out | refine RB.drew ?_ | refine RB.drewN ?_ _ | refine RB.alloc ?_ Ks _ | refine RB.setCell ?_ Ks _ | refine RB.below ?_ (by assumption) Ks)))) (by omega) hn
  have HB0 : Hid (Below wo.heap.size wo w) := Lib.hid Kw
  have hR0 : BM w wo.heap.size 0 0 none 0 0 := Ka
  have hb := hct.hb
  clear hb2 hcu
  go_wp2_with fail
  refine (spec_l3Square b n cap A xs _ (CT.self (w0 := w) (B := wo.heap.size) (by (with_reducible (repeat (first | exact hct | refine CT.drew ?_ | refine CT.drewN ?_ _ | refine CT.alloc ?_ _ | refine CT.far ?_ Ks _ | refine CT.below ?_ (by assumption) Ks)))))).mono ?_
  rintro e w1 ⟨v, rfl, ⟨r, c, Am, nm, cm, ys, rfl, ho1, hl1, hr1, hc1⟩, hct1⟩
  have hsz1 := hct1.size
  have hR1 : BM w1 wo.heap.size 0 0 none 0 0 := hR0.grown hct1.gr (by simp; omega)
  have hR : BM (w1.alloc (.cells #[.int .i64 r, .int .i64 c, .slice Am nm cm] 26)) wo.heap.size 0 0 none 0 0 := Kb hR1
  have hM : BM (w1.alloc (.cells #[.int .i64 r, .int .i64 c, .slice Am nm cm] 26)) w1.heap.size r c Am nm cm := Ka
  have ho : OR (w1.alloc (.cells #[.int .i64 r, .int .i64 c, .slice Am nm cm] 26)) w.heap.size (.slice Am nm cm) ys := ho1.alloc _
  have hct2 : CT w (w1.alloc (.cells #[.int .i64 r, .int .i64 c, .slice Am nm cm] 26)) wo.heap.size b n cap A xs := hct1.alloc _
  have hln := ho1.lenEq
  have hln2 : nm ≤ 17 ∧ nm ≤ ys.length ∧ ys.length ≤ nm := by omega
  have hs5 : w1.heap.size < (w1.alloc (.cells #[.int .i64 r, .int .i64 c, .slice Am nm cm] 26)).heap.size := by simp
  clear hct hct1 hR0 hR1 ho1 hln
  have hct := hct2
  clear hct2
  obtain ⟨oa, ob, oc, of, ol⟩ := hM.mx; obtain ⟨ra, rb, rc, rf, rl⟩ := hR.mx
  go_upto_region 3 with fail
  generalize (w1.alloc (.cells #[.int .i64 r, .int .i64 c, .slice Am nm cm] 26)) = w2 at *
  generalize hbm : w1.heap.size = bM at *
  have hwM : w.heap.size ≤ bM := by omega
  have ne1 : ¬ bM = wo.heap.size := by omega
  have ne2 : ¬ wo.heap.size = bM := by omega
  clear hbm
  ((refine wp_region_held_drew (S := (fun w' => w'.cell? ⟨bM, 0, none⟩ = some (.int .i64 r) ∧ w'.cell? ⟨bM, 1, none⟩ = some (.int .i64 c) ∧ w'.cell? ⟨bM, 2, none⟩ = some (.slice Am nm cm))) (by kernel_rfl) ?_ (fun hHeld => ?_)); ((focus ((try dsimp only); ((first | (go_keep; done) | exact ⟨oa, ob, oc⟩))))); ((refine tk_ (i := 0) (v := ?_) (y := Or.inl ⟨by rfl, ?_⟩) (h := ?_); rotate_left; (focus (((intro w hSw; (try dsimp only at hSw); go_simp) <;> (try with_reducible rfl)); done)); (try simp only [Act.put, p1_, p2_, p3_]))); ((refine tk_ (i := 1) (v := ?_) (y := Or.inl ⟨by rfl, ?_⟩) (h := ?_); rotate_left; (focus (((intro w hSw; (try dsimp only at hSw); go_simp) <;> (try with_reducible rfl)); done)); (try simp only [Act.put, p1_, p2_, p3_]))); ((refine tk_ (i := 2) (v := ?_) (y := Or.inl ⟨by rfl, ?_⟩) (h := ?_); rotate_left; (focus (((intro w hSw; (try dsimp only at hSw); go_simp) <;> (try with_reducible rfl)); done)); (try simp only [Act.put, p1_, p2_, p3_]))); ((refine tk_ (i := 3) (v := ?_) (y := Or.inl ⟨by rfl, ?_⟩) (h := ?_); rotate_left; (focus (((intro w hSw; (try dsimp only at hSw); go_simp) <;> (try with_reducible rfl)); done)); (try simp only [Act.put, p1_, p2_, p3_]))); (refine wpAnyH_ready (rs := [4]) (by kernel_rfl) (by simp) ?_); (refine AllReadyH.cons (by simp only [e1_, e2_, e3_]; try rfl) ?_ ?_); ((focus ((intro K hK); (go_simp); ((go_at_call 116; refine (spec_l8Right b n cap A xs r _ (CT.self (w0 := w) (B := wo.heap.size) (by (with_reducible (repeat (first | exact hct | refine CT.drew ?_ | refine CT.drewN ?_ _ | refine CT.alloc ?_ _ | refine CT.far ?_ Ks _ | refine CT.below ?_ (by assumption) Ks))))) (by omega)).mono ?_; rintro e w7 ⟨v, rfl, ⟨Ab, nb, cb, bs, rfl, hob, hlb⟩, hc1⟩; have hob2 : OR w7 w.heap.size (.slice Ab nb cb) bs := OR.mono hob Ks; clear hob; have hct_1 : CT w w7 wo.heap.size b n cap A xs := CT.trans (by (with_reducible (repeat (first | exact hct | refine CT.drew ?_ | refine CT.drewN ?_ _ | refine CT.alloc ?_ _ | refine CT.far ?_ Ks _ | refine CT.below ?_ (by assumption) Ks)))) hc1; have hR_1 : BM w7 wo.heap.size 0 0 none 0 0 := BX.grown (Kb hR) hc1.gr (fun e => by injection e; omega); have hM_1 : BM w7 bM (r) (c) Am nm cm := BX.grown (Kb hM) hc1.gr (fun e => by injection e; omega); have ho_1 : OR w7 w.heap.size (.slice Am nm cm) ys := OR.turned (Ko ho) hc1 (by omega); clear oa ob oc of ol ra rb rc rf rl; clear hct hM hR ho; have hct := hct_1; have hM := hM_1; have hR := hR_1; have ho := ho_1; clear hct_1 hM_1 hR_1 ho_1; have hszw7 := hc1.size; (try simp at hszw7); clear hc1; obtain ⟨oa, ob, oc, of, ol⟩ := hM.mx; obtain ⟨ra, rb, rc, rf, rl⟩ := hR.mx)); ((try go_wp2_with fail)); (refine hK.out _ _ ?_ (fun hHeld => ?_)); ((focus ((try dsimp only); ((first | (go_keep; done) | exact ⟨oa, ob, oc⟩))))); (clear hK K); ((try simp only [Act.put, p1_, p2_, p3_])); (refine wpAnyH_ready (rs := [5]) (by kernel_rfl) (by simp) ?_); (refine AllReadyH.cons (by simp only [e1_, e2_, e3_]; try rfl) ?_ ?_); ((focus ((intro K hK); (go_simp); ((try go_wp2_with fail)); (refine hK.out _ _ ?_ (fun hHeld => ?_)); ((focus ((try dsimp only); ((first | (go_keep; done) | exact ⟨oa, ob, oc⟩))))); (clear hK K); ((try simp only [Act.put, p1_, p2_, p3_])); ((refine tk_ (i := 6) (v := ?_) (y := Or.inl ⟨by rfl, ?_⟩) (h := ?_); rotate_left; (focus (((intro w hSw; (try dsimp only at hSw); go_simp) <;> (try with_reducible rfl)); done)); (try simp only [Act.put, p1_, p2_, p3_]))); (refine wpAnyH_done (by kernel_rfl) ?_ _)))); (rotate_left 1); (exact AllReadyH.nil)))); (rotate_left 1); (exact AllReadyH.nil))
  have hvr := B3.of hR
  have hbw8 : Below wo.heap.size wo w7 := HB0.out.trans (CT.under hct (by omega))
  have KM : OR w7 (wo.heap.size + 1) (.slice Am nm cm) ys := OR.mono ho (by omega)
  have KB : OR w7 (wo.heap.size + 1) (.slice Ab nb cb) bs := OR.mono hob2 (by omega)
  go_wp2_with fail
  refine ret_MB (b := wo.heap.size) (r := r) (c := c) (A := Am) (n := nm) (cap := cm) Try.results82 rfl (Kb hvr) rfl ?_
  exact ⟨r, c, Am, nm, cm, ys, Ab, nb, cb, bs, rfl, OR.mono (B := wo.heap.size + 1) (Ko KM) (by omega), OR.mono (B := wo.heap.size + 1) (Ko KB) (by omega), by omega, by omega, hr1, Kw⟩
set_option maxRecDepth 100000 in
set_option maxHeartbeats 4000000 in
theorem spec_DrawSolveByDeterminants (n cap : Nat) (A : Option Addr) (xs : List Int) (wo : World) (hby : RB wo wo.heap.size A n xs) (hn : n ≤ 2000000) :
    Calls Try.prog 36 #[.slice A n cap] wo (DSD wo) := by
  have HBY := Lib.hid hby
  clear hby
  go_enter Try.func36, Try.ntmps36
  go_wp2_with fail
  refine (spec_l11Draw n cap A xs _ (RB.moreE (B := wo.heap.size) (by (with_reducible (repeat (first | exact HBY.out | refine RB.drew ?_ | refine RB.drewN ?_ _ | refine RB.alloc ?_ Ks _ | refine RB.setCell ?_ Ks _ | refine RB.below ?_ (by assumption) Ks)))) (by simp)) hn).mono ?_
  rintro e w1 ⟨r, c, Am, nm, cm, ys, Ab, nb, cb, bs, rfl, ho1, ho2, hl1, hl2, hr, hb1⟩
  have hsz1 := hb1.size
  simp at hsz1
  have hR : BM w1 wo.heap.size 0 0 none 0 0 := Ka
  have hbw : Below wo.heap.size wo w1 := Kw
  have k1 : OR w1 (wo.heap.size + 1) (.slice Am nm cm) ys := OR.mono (xs := ys) ho1 (by simp)
  have k2 : OR w1 (wo.heap.size + 1) (.slice Ab nb cb) bs := OR.mono (xs := bs) ho2 (by simp)
  have hvr := B3.of hR
  obtain ⟨ra, rb, rc, rf, rl⟩ := hR.mx
  clear ho1 ho2 hb1
  go_wp2_with fail
  refine ret_MB (b := wo.heap.size) (r := r) (c := c) (A := Am) (n := nm) (cap := cm) Try.results36 rfl (by first | exact BX.put hvr | (with_reducible (repeat (first | exact hvr | refine BX.n_ | refine BX.b_ ?_ | apply BX.drew | apply BX.drewN | refine BX.put ?_ | refine BX.put2 ?_ | refine BX.f_ ?_ | apply BX.alloc | refine B3.n_ | exact B3.of hvr | refine B3.b_ ?_ | apply B3.drew | apply B3.drewN | refine B3.f_ ?_ | apply B3.alloc)))) rfl ?_
  exact ⟨r, c, Am, nm, cm, ys, Ab, nb, cb, bs, rfl, OR.mono (B := wo.heap.size + 1) (Ko k1) (by omega), OR.mono (B := wo.heap.size + 1) (Ko k2) (by omega), hl1, hl2, hr, Kw⟩
end Go.Proofs.Ytlggfmfelakadaa

/-
  DERIVED. Several small texts in one: RankQi, DrA, HmF, MulS, Bas, MulS2, Times, Fac, PlRq.
-/
import Derived.Test.YtacjonkehcamgaaEchQt
import Derived.Test.YtacjonkehcamgaaDrMt
import Derived.Test.YtacjonkehcamgaaHmSt
import Derived.Test.YtacjonkehcamgaaV3
import Derived.Test.YtacjonkehcamgaaV1
import Derived.Test.YtacjonkehcamgaaMult
import Derived.Test.YtacjonkehcamgaaV2
import Derived.Test.YtacjonkehcamgaaHmIt
import Derived.Deep.DrawnRows
import Derived.Deep.LoopGhost
import Derived.Test.YtacjonkehcamgaaV5
import Derived.Test.YtacjonkehcamgaaV4
/-
  DERIVED. The program's alone: RankOf, both.
-/
namespace Go.Proofs.Ytacjonkehcamgaa
open Go.RowKit
set_option linter.unusedVariables false
theorem impl_RankOf (r c : Int) (A : Option Addr) (n cap : Nat) (xs : List Int) (w : World) {B : Nat} (h : RI w B A n xs) (hB : B ≤ w.heap.size) (hn : n ≤ 1048576) :
    Calls Try.prog 76 #[.agg #[.int .i64 r, .int .i64 c, .slice A n cap]] w (BV (.tuple #[.int .i64 ((psQ (eoX r c xs)).length : Nat), .bool (eoX r c xs).isSome]) w) := by
  have H2 := Lib.hid (h.more hB)
  clear h
  generalize hx : eoX r c xs = X
  have HX := Lib.hid hx
  clear hx
  go_enter Try.func76, Try.ntmps76
  go_wp2_with fail
  refine (impl_EchelonOf r c A n cap xs _ (B := w.heap.size) (Kr H2.out) Ks hn).mono ?_
  rw [HX.out]
  rintro e w1 ⟨A', n', cap', P, k, pc, rfl, ho, hp, ha, hb⟩
  have hk := hp.lenEq
  have hsz := hb.size
  simp at hsz
  clear ho hp ha
  generalize psQ X = ps at *
  generalize X.isSome = b at *
  generalize mxQ r c X = mx at *
  subst hk
  go_wp2_with fail
  go_ret2
  exact BV.mk rfl Kw
end Go.Proofs.Ytacjonkehcamgaa

/-
  DERIVED. What is drawn where one matrix is wanted: DrawHermiteForm, DrawEchelonOf, DrawBasisOf, DrawSmithForm.
-/
namespace Go.Proofs.Ytacjonkehcamgaa
open Go.RowKit
set_option linter.unusedVariables false
set_option linter.unusedSimpArgs false
/-- The call drew a matrix, its cells its own. -/
def DMA (wo : World) (e : Ending) (w' : World) : Prop := ∃ (r c : Int) (Am : Option Addr) (nm cm : Nat) (ys : List Int), e = .returned (.agg #[.int .i64 r, .int .i64 c, .slice Am nm cm]) ∧ OR w' wo.heap.size (.slice Am nm cm) ys ∧ ys.length ≤ 17 ∧ (-1 ≤ r ∧ r ≤ 12) ∧ Below wo.heap.size wo w'
set_option maxRecDepth 100000 in
set_option maxHeartbeats 4000000 in
theorem spec_DrawHermiteForm (n cap : Nat) (A : Option Addr) (xs : List Int) (wo : World) (hby : RB wo wo.heap.size A n xs) (hn : n ≤ 2000000) :
    Calls Try.prog 49 #[.slice A n cap] wo (DMA wo) := by
  have HBY := Lib.hid hby
  clear hby
  go_enter Try.func49, Try.ntmps49
  go_wp2_with fail
  refine (spec_l1New n cap A xs _ (B := wo.heap.size) (by (with_reducible (repeat (first | exact HBY.out | refine RB.drew ?_ | refine RB.drewN ?_ _ | refine RB.alloc ?_ Ks _ | refine RB.setCell ?_ Ks _ | refine RB.below ?_ (by assumption) Ks)))) hn).mono ?_
  rintro e w ⟨b, rfl, hcu, hbs, hb2⟩
  have hsz2 := hb2.size
  simp at hsz2 hbs
  have hct : CT w w wo.heap.size b n cap A xs := CT.new hcu (by (with_reducible (repeat (first | exact HBY.out | refine RB.drew ?_ | refine RB.drewN ?_ _ | refine RB.alloc ?_ Ks _ | refine RB.setCell ?_ Ks _ | refine RB.below ?_ (by assumption) Ks)))) (by omega) hn
  have HB0 : Hid (Below wo.heap.size wo w) := Lib.hid Kw
  have hR0 : BM w wo.heap.size 0 0 none 0 0 := Ka
  have hb := hct.hb
  clear hb2 hcu
  go_wp2_with fail
  refine (spec_l3Any b n cap A xs _ (CT.self (w0 := w) (B := wo.heap.size) (by (with_reducible (repeat (first | exact hct | refine CT.drew ?_ | refine CT.drewN ?_ _ | refine CT.alloc ?_ _ | refine CT.far ?_ Ks _ | refine CT.below ?_ (by assumption) Ks)))))).mono ?_
  rintro e w1 ⟨v, rfl, ⟨r, c, Am, nm, cm, ys, rfl, ho1, hl1, hr1, hc1⟩, hct1⟩
  have hsz1 := hct1.size
  have hR : BM w1 wo.heap.size 0 0 none 0 0 := hR0.grown hct1.gr (by simp; omega)
  have hvr := B3.of hR
  have hbw : Below wo.heap.size wo w1 := HB0.out.trans (CT.under hct1 (by omega))
  obtain ⟨ra, rb, rc, rf, rl⟩ := hR.mx
  have ho2 : OR w1 (wo.heap.size + 1) (.slice Am nm cm) ys := OR.mono ho1 (by omega)
  clear ho1 hct hct1
  go_wp2_with fail
  refine ret_M (b := wo.heap.size) Try.results49 rfl (Kb hvr) rfl ?_
  exact ⟨r, c, Am, nm, cm, ys, rfl, OR.mono (B := wo.heap.size + 1) (Ko ho2) (by omega), hl1, by omega, Kw⟩
set_option maxRecDepth 100000 in
set_option maxHeartbeats 4000000 in
theorem spec_DrawEchelonOf (n cap : Nat) (A : Option Addr) (xs : List Int) (wo : World) (hby : RB wo wo.heap.size A n xs) (hn : n ≤ 2000000) :
    Calls Try.prog 77 #[.slice A n cap] wo (DMA wo) := by
  have HBY := Lib.hid hby
  clear hby
  go_enter Try.func77, Try.ntmps77
  go_wp2_with fail
  refine (spec_l1New n cap A xs _ (B := wo.heap.size) (by (with_reducible (repeat (first | exact HBY.out | refine RB.drew ?_ | refine RB.drewN ?_ _ | refine RB.alloc ?_ Ks _ | refine RB.setCell ?_ Ks _ | refine RB.below ?_ (by assumption) Ks)))) hn).mono ?_
  rintro e w ⟨b, rfl, hcu, hbs, hb2⟩
  have hsz2 := hb2.size
  simp at hsz2 hbs
  have hct : CT w w wo.heap.size b n cap A xs := CT.new hcu (by (with_reducible (repeat (first | exact HBY.out | refine RB.drew ?_ | refine RB.drewN ?_ _ | refine RB.alloc ?_ Ks _ | refine RB.setCell ?_ Ks _ | refine RB.below ?_ (by assumption) Ks)))) (by omega) hn
  have HB0 : Hid (Below wo.heap.size wo w) := Lib.hid Kw
  have hR0 : BM w wo.heap.size 0 0 none 0 0 := Ka
  have hb := hct.hb
  clear hb2 hcu
  go_wp2_with fail
  refine (spec_l3Any b n cap A xs _ (CT.self (w0 := w) (B := wo.heap.size) (by (with_reducible (repeat (first | exact hct | refine CT.drew ?_ | refine CT.drewN ?_ _ | refine CT.alloc ?_ _ | refine CT.far ?_ Ks _ | refine CT.below ?_ (by assumption) Ks)))))).mono ?_
  rintro e w1 ⟨v, rfl, ⟨r, c, Am, nm, cm, ys, rfl, ho1, hl1, hr1, hc1⟩, hct1⟩
  have hsz1 := hct1.size
  have hR : BM w1 wo.heap.size 0 0 none 0 0 := hR0.grown hct1.gr (by simp; omega)
  have hvr := B3.of hR
  have hbw : Below wo.heap.size wo w1 := HB0.out.trans (CT.under hct1 (by omega))
  obtain ⟨ra, rb, rc, rf, rl⟩ := hR.mx
  have ho2 : OR w1 (wo.heap.size + 1) (.slice Am nm cm) ys := OR.mono ho1 (by omega)
  clear ho1 hct hct1
  go_wp2_with fail
  refine ret_M (b := wo.heap.size) Try.results77 rfl (Kb hvr) rfl ?_
  exact ⟨r, c, Am, nm, cm, ys, rfl, OR.mono (B := wo.heap.size + 1) (Ko ho2) (by omega), hl1, by omega, Kw⟩
set_option maxRecDepth 100000 in
set_option maxHeartbeats 4000000 in
theorem spec_DrawBasisOf (n cap : Nat) (A : Option Addr) (xs : List Int) (wo : World) (hby : RB wo wo.heap.size A n xs) (hn : n ≤ 2000000) :
    Calls Try.prog 85 #[.slice A n cap] wo (DMA wo) := by
  have HBY := Lib.hid hby
  clear hby
  go_enter Try.func85, Try.ntmps85
  go_wp2_with fail
  refine (spec_l1New n cap A xs _ (B := wo.heap.size) (by (with_reducible (repeat (first | exact HBY.out | refine RB.drew ?_ | refine RB.drewN ?_ _ | refine RB.alloc ?_ Ks _ | refine RB.setCell ?_ Ks _ | refine RB.below ?_ (by assumption) Ks)))) hn).mono ?_
  rintro e w ⟨b, rfl, hcu, hbs, hb2⟩
  have hsz2 := hb2.size
  simp at hsz2 hbs
  have hct : CT w w wo.heap.size b n cap A xs := CT.new hcu (by (with_reducible (repeat (first | exact HBY.out | refine RB.drew ?_ | refine RB.drewN ?_ _ | refine RB.alloc ?_ Ks _ | refine RB.setCell ?_ Ks _ | refine RB.below ?_ (by assumption) Ks)))) (by omega) hn
  have HB0 : Hid (Below wo.heap.size wo w) := Lib.hid Kw
  have hR0 : BM w wo.heap.size 0 0 none 0 0 := Ka
  have hb := hct.hb
  clear hb2 hcu
  go_wp2_with fail
  refine (spec_l3Any b n cap A xs _ (CT.self (w0 := w) (B := wo.heap.size) (by (with_reducible (repeat (first | exact hct | refine CT.drew ?_ | refine CT.drewN ?_ _ | refine CT.alloc ?_ _ | refine CT.far ?_ Ks _ | refine CT.below ?_ (by assumption) Ks)))))).mono ?_
  rintro e w1 ⟨v, rfl, ⟨r, c, Am, nm, cm, ys, rfl, ho1, hl1, hr1, hc1⟩, hct1⟩
  have hsz1 := hct1.size
  have hR : BM w1 wo.heap.size 0 0 none 0 0 := hR0.grown hct1.gr (by simp; omega)
  have hvr := B3.of hR
  have hbw : Below wo.heap.size wo w1 := HB0.out.trans (CT.under hct1 (by omega))
  obtain ⟨ra, rb, rc, rf, rl⟩ := hR.mx
  have ho2 : OR w1 (wo.heap.size + 1) (.slice Am nm cm) ys := OR.mono ho1 (by omega)
  clear ho1 hct hct1
  go_wp2_with fail
  refine ret_M (b := wo.heap.size) Try.results85 rfl (Kb hvr) rfl ?_
  exact ⟨r, c, Am, nm, cm, ys, rfl, OR.mono (B := wo.heap.size + 1) (Ko ho2) (by omega), hl1, by omega, Kw⟩
set_option maxRecDepth 100000 in
set_option maxHeartbeats 4000000 in
theorem spec_DrawSmithForm (n cap : Nat) (A : Option Addr) (xs : List Int) (wo : World) (hby : RB wo wo.heap.size A n xs) (hn : n ≤ 2000000) :
    Calls Try.prog 55 #[.slice A n cap] wo (DMA wo) := by
  have HBY := Lib.hid hby
  clear hby
  go_enter Try.func55, Try.ntmps55
  go_wp2_with fail
  refine (spec_l1New n cap A xs _ (B := wo.heap.size) (by (with_reducible (repeat (first | exact HBY.out | refine RB.drew ?_ | refine RB.drewN ?_ _ | refine RB.alloc ?_ Ks _ | refine RB.setCell ?_ Ks _ | refine RB.below ?_ (by assumption) Ks)))) hn).mono ?_
  rintro e w ⟨b, rfl, hcu, hbs, hb2⟩
  have hsz2 := hb2.size
  simp at hsz2 hbs
  have hct : CT w w wo.heap.size b n cap A xs := CT.new hcu (by (with_reducible (repeat (first | exact HBY.out | refine RB.drew ?_ | refine RB.drewN ?_ _ | refine RB.alloc ?_ Ks _ | refine RB.setCell ?_ Ks _ | refine RB.below ?_ (by assumption) Ks)))) (by omega) hn
  have HB0 : Hid (Below wo.heap.size wo w) := Lib.hid Kw
  have hR0 : BM w wo.heap.size 0 0 none 0 0 := Ka
  have hb := hct.hb
  clear hb2 hcu
  go_wp2_with fail
  refine (spec_l3Any b n cap A xs _ (CT.self (w0 := w) (B := wo.heap.size) (by (with_reducible (repeat (first | exact hct | refine CT.drew ?_ | refine CT.drewN ?_ _ | refine CT.alloc ?_ _ | refine CT.far ?_ Ks _ | refine CT.below ?_ (by assumption) Ks)))))).mono ?_
  rintro e w1 ⟨v, rfl, ⟨r, c, Am, nm, cm, ys, rfl, ho1, hl1, hr1, hc1⟩, hct1⟩
  have hsz1 := hct1.size
  have hR : BM w1 wo.heap.size 0 0 none 0 0 := hR0.grown hct1.gr (by simp; omega)
  have hvr := B3.of hR
  have hbw : Below wo.heap.size wo w1 := HB0.out.trans (CT.under hct1 (by omega))
  obtain ⟨ra, rb, rc, rf, rl⟩ := hR.mx
  have ho2 : OR w1 (wo.heap.size + 1) (.slice Am nm cm) ys := OR.mono ho1 (by omega)
  clear ho1 hct hct1
  go_wp2_with fail
  refine ret_M (b := wo.heap.size) Try.results55 rfl (Kb hvr) rfl ?_
  exact ⟨r, c, Am, nm, cm, ys, rfl, OR.mono (B := wo.heap.size + 1) (Ko ho2) (by omega), hl1, by omega, Kw⟩
end Go.Proofs.Ytacjonkehcamgaa

/-
  DERIVED. HermiteForm of the reference.
-/
namespace Go.Proofs.Ytacjonkehcamgaa
open Go.RowKit
set_option linter.unusedVariables false
set_option linter.unusedSimpArgs false
/-- The call's own variables: its argument and its two results. -/
structure HVS (w wr : World) (r c : Int) (A : Option Addr) (n cap : Nat) : Prop where
  m : BM wr w.heap.size r c A n cap
  r1 : BM wr (w.heap.size + 1) 0 0 none 0 0
  r2 : BM wr (w.heap.size + 1 + 1) 0 0 none 0 0
  b : Below w.heap.size w wr
section
variable {w wr w' : World} {r c : Int} {A : Option Addr} {n cap : Nat}
theorem HVS.lt (h : HVS w wr r c A n cap) : w.heap.size + 1 + 1 < wr.heap.size := h.r2.lt
theorem HVS.below {D : Nat} (h : HVS w wr r c A n cap) (hD : Below D wr w') (hs : w.heap.size + 1 + 1 + 1 ≤ D) : HVS w w' r c A n cap :=
  ⟨h.m.below hD (by omega), h.r1.below hD (by omega), h.r2.below hD (by omega), h.b.trans (hD.mono (by omega))⟩
theorem HVS.drew (h : HVS w wr r c A n cap) : HVS w wr.drew r c A n cap := ⟨h.m.drew, h.r1.drew, h.r2.drew, h.b.drew⟩
theorem HVS.drewN (h : HVS w wr r c A n cap) (q : Nat) : HVS w (wr.drewN q) r c A n cap := ⟨h.m.drewN q, h.r1.drewN q, h.r2.drewN q, below_drewN h.b q⟩
theorem HVS.alloc (h : HVS w wr r c A n cap) (o : Obj) : HVS w (wr.alloc o) r c A n cap :=
  have hl := h.lt
  ⟨h.m.alloc o, h.r1.alloc o, h.r2.alloc o, Below.alloc h.b (by omega) o⟩
end
set_option maxRecDepth 100000 in
set_option maxHeartbeats 8000000 in
theorem spec_HermiteForm (r c : Int) (A : Option Addr) (n cap : Nat) (xs : List Int) (w : World) {B : Nat} (h : RI w B A n xs) (hB : B ≤ w.heap.size) (hn : n ≤ 1048576) :
    Calls Try.prog 51 #[.agg #[.int .i64 r, .int .i64 c, .slice A n cap]] w (M2R (hmM r c xs) (hmU r c xs) (hmX r c xs).isSome w) := by
  unfold hmM hmU
  have hlen := h.len
  have H2 := Lib.hid (h.more hB)
  clear h
  rcases hm : isMat r c xs with _ | _
  · have HM := Lib.hid hm
    have HX := Lib.hid (hmX_no hm)
    clear hm
    generalize hmX r c xs = X at *
    go_enter Try.func51, Try.ntmps51
    go_wp2_with fail
    refine (spec_IsMatrix r c A n cap xs _ (C := w.heap.size) (Kr H2.out) Ks hn).mono ?_
    rw [HM.out]
    rintro e w1 ⟨rfl, hb1⟩
    have hV : HVS w w1 r c A n cap := ⟨Ka, Ka, Ka, Kw⟩
    obtain ⟨r0a, r0b, r0c, r0f, r0l⟩ := hV.r1.mx
    obtain ⟨r1a, r1b, r1c, r1f, r1l⟩ := hV.r2.mx
    obtain ⟨ma, mb, mc, mf, ml⟩ := hV.m.mx
    have hvr1 := hV.r1
    have hvr2 := hV.r2
    have hbw := hV.b
    go_wp2_with fail
    refine ret_M2 (r := 0) (c := 0) (A := none) (n := 0) (cap := 0) (r' := 0) (c' := 0) (A' := none) (n' := 0) (cap' := 0) Try.results51 rfl rfl (Kb hvr1) (Kb hvr2) rfl ?_
    exact M2R.none_ HX.out Kw
  · have M := isMat_iff.1 hm
    obtain ⟨R, rfl⟩ := nat_of M.r0
    obtain ⟨C, rfl⟩ := nat_of M.c0
    have hR : R ≤ 24 := by have := M.r1; omega
    have hC : C ≤ 24 := by have := M.c1; omega
    have hlx : xs.length = R * C := by have := M.len; rw [← Int.natCast_mul] at this; omega
    have HG0 := Lib.hid (start_gd (R := R) (C := C) M.num)
    have HX := Lib.hid (hmX_yes hm)
    have HT := Lib.hid (tb_of hlx)
    have HM := Lib.hid hm
    clear M hm hlx
    generalize hmX (R : Int) (C : Int) xs = X at *
    generalize hf : (fun (i j : Nat) => cel xs C i j) = f0 at HG0 HX HT
    clear hf
    have HH : Hid (∀ (Aa : Option Addr) (na capa : Nat) (A2 : Option Addr) (n2 cap2 : Nat) (w' : World) (B0 : Nat), OR w' B0 (.slice Aa na capa) (tb R C f0) → OR w' B0 (.slice A2 n2 cap2) (tb R R idF) → Apart (.slice Aa na capa) (.slice A2 n2 cap2) → B0 ≤ w'.heap.size → Calls Try.prog 151 #[.agg #[.int .i64 R, .int .i64 C, .slice Aa na capa], .agg #[.int .i64 R, .int .i64 R, .slice A2 n2 cap2]] w' (HmR (.slice Aa na capa) (.slice A2 n2 cap2) B0 R C X w')) :=
      Lib.hid (fun Aa na capa A2 n2 cap2 w' B0 k1 k2 k3 k4 => by rw [HX.out]; exact spec_l12Hermite R C Aa na capa A2 n2 cap2 ⟨f0, idF⟩ w' k1 k2 k3 k4 HG0.out hC hR)
    clear HX HG0
    go_enter Try.func51, Try.ntmps51
    go_wp2_with fail
    refine (spec_IsMatrix R C A n cap xs _ (C := w.heap.size) (Kr H2.out) Ks hn).mono ?_
    rw [HM.out]
    rintro e w1 ⟨rfl, hb1⟩
    have hV : HVS w w1 R C A n cap := ⟨Ka, Ka, Ka, Kw⟩
    have hri : RI w1 w.heap.size A n xs := Kr H2.out
    clear hb1
    obtain ⟨ma, mb, mc, mf, ml⟩ := hV.m.mx
    have hlow := hV.lt
    go_wp2_with fail
    refine (spec_l3Copy R C A n cap xs _ (B := w.heap.size) (Kr hri) Ks hn).mono ?_
    rintro e w2 ⟨Aa, na, capa, rfl, -, hoa, hb2⟩
    have hV2 : HVS w w2 R C A n cap := by (with_reducible (repeat (first | exact hV | refine HVS.below ?_ (by assumption) Ks | refine HVS.drew ?_ | refine HVS.drewN ?_ _ | refine HVS.alloc ?_ _)))
    clear ma mb mc mf ml
    rw [HT.out] at hoa
    have hs2 := hb2.size
    (try simp at hs2)
    obtain ⟨B0, hB0, hB2, hBw⟩ : ∃ B0, w.heap.size + 1 + 1 + 1 ≤ B0 ∧ B0 ≤ w2.heap.size ∧ OR w2 B0 (.slice Aa na capa) (tb R C f0) := ⟨_, hlow, hs2, hoa⟩
    have HOA := Lib.hid hBw.own
    clear hV hb2 hri hoa
    have hV := hV2
    clear hV2
    have hlow2 := hV.lt
    obtain ⟨ma, mb, mc, mf, ml⟩ := hV.m.mx
    go_wp2_with fail
    refine (spec_IdentityMatrix R _ hR).mono ?_
    rintro e w3 ⟨A2, n2, cap2, rfl, ho2, hb3⟩
    have hs3 := hb3.size
    simp at hs3
    have h5 : BM w3 w2.heap.size R C Aa na capa := Ka
    have hoa : OR w3 B0 (.slice Aa na capa) (tb R C f0) := Ko hBw
    have HOB : Hid (Own (.slice A2 n2 cap2) (w2.heap.size + 1) w3.heap.size) := Lib.hid ((OR.own (xs := tb R R idF) ho2).wide (by simp) (Nat.le_refl _))
    have ho2' : OR w3 B0 (.slice A2 n2 cap2) (tb R R idF) := OR.mono (xs := tb R R idF) ho2 (by simp; omega)
    have hV3 : HVS w w3 R C A n cap := by (with_reducible (repeat (first | exact hV | refine HVS.below ?_ (by assumption) Ks | refine HVS.drew ?_ | refine HVS.drewN ?_ _ | refine HVS.alloc ?_ _)))
    clear ma mb mc mf ml
    clear hV hBw ho2 hb3
    have hV := hV3
    clear hV3
    have HAP : Hid (Apart (.slice Aa na capa) (.slice A2 n2 cap2)) := Lib.hid (fun g e1 e2 => by have := HOA.out g e1; have := HOB.out g e2; omega)
    obtain ⟨ma, mb, mc, mf, ml⟩ := hV.m.mx
    obtain ⟨la, lb, lc, lf, ll⟩ := h5.mx
    go_wp2_with fail
    refine (HH.out Aa na capa A2 n2 cap2 (w3.alloc (.cells #[.int .i64 R, .int .i64 R, .slice A2 n2 cap2] 26)) B0 (Ko hoa) (Ko ho2') HAP.out Ks).mono ?_
    rcases hs : X with _ | ⟨s, t⟩
    · have HXN := Lib.hid hs
      have hv : X.isSome = false := by rw [hs]; rfl
      rw [← hs]
      clear hs HH
      rintro e w4 ⟨he, -, hb4, -⟩
      rw [hv] at he
      subst he
      have hV4 : HVS w w4 R C A n cap := by (with_reducible (repeat (first | exact hV | refine HVS.below ?_ (by assumption) Ks | refine HVS.drew ?_ | refine HVS.drewN ?_ _ | refine HVS.alloc ?_ _)))
      clear ma mb mc mf ml
      clear la lb lc lf ll
      clear hV h5 hb4 hv hoa ho2'
      obtain ⟨r0a, r0b, r0c, r0f, r0l⟩ := hV4.r1.mx
      obtain ⟨r1a, r1b, r1c, r1f, r1l⟩ := hV4.r2.mx
      have hvr1 := hV4.r1
      have hvr2 := hV4.r2
      have hbw := hV4.b
      go_wp2_with fail
      refine ret_M2 (r := 0) (c := 0) (A := none) (n := 0) (cap := 0) (r' := 0) (c' := 0) (A' := none) (n' := 0) (cap' := 0) Try.results51 rfl rfl (Kb hvr1) (Kb hvr2) rfl ?_
      exact M2R.none_ HXN.out Kw
    · have HXS := Lib.hid hs
      have hv : X.isSome = true := by rw [hs]; rfl
      rw [← hs]
      clear hs HH
      rintro e w4 ⟨he, ⟨f', g', k1, k2, k3⟩, hb4, hk4⟩
      rw [hv] at he
      subst he
      obtain ⟨rfl, rfl⟩ := k3 s t HXS.out
      have hV4 : HVS w w4 R C A n cap := by (with_reducible (repeat (first | exact hV | refine HVS.below ?_ (by assumption) Ks | refine HVS.drew ?_ | refine HVS.drewN ?_ _ | refine HVS.alloc ?_ _)))
      have n1 : ∀ k, w2.heap.size ≤ k → some k ≠ (Value.slice Aa na capa).ownBlock := fun k hk e => by have := HOA.out k e.symm; omega
      have n2' : ∀ k, k ≤ w2.heap.size ∨ w3.heap.size ≤ k → some k ≠ (Value.slice A2 n2 cap2).ownBlock := fun k hk e => by have := HOB.out k e.symm; omega
      have hm1 : BM w4 w2.heap.size R C Aa na capa := (hk4 _ (by simp; omega) (n1 _ (Nat.le_refl _)) (n2' _ (.inl (Nat.le_refl _)))).trans (show BM _ w2.heap.size R C Aa na capa from Kb h5)
      have hm2 : BM w4 w3.heap.size R R A2 n2 cap2 := (hk4 _ (by simp) (n1 _ (by omega)) (n2' _ (.inr (Nat.le_refl _)))).trans (show BM _ w3.heap.size R R A2 n2 cap2 from Ka)
      clear ma mb mc mf ml
      clear la lb lc lf ll
      clear hV h5 hb4 hv hoa ho2' hk4 n1 n2' k3
      obtain ⟨r0a, r0b, r0c, r0f, r0l⟩ := hV4.r1.mx
      obtain ⟨r1a, r1b, r1c, r1f, r1l⟩ := hV4.r2.mx
      obtain ⟨ua, ub, uc, uf, ul⟩ := hm1.mx
      obtain ⟨va, vb, vc, vf, vl⟩ := hm2.mx
      have hvr1 := B3.of hV4.r1
      have hvr2 := B3.of hV4.r2
      have hbw := hV4.b
      have HAO := Lib.hid (HOA.out)
      go_wp2_with fail
      go_region
      go_wp2_with fail
      refine ret_M2 (r := R) (c := C) (A := Aa) (n := na) (cap := capa) (r' := R) (c' := R) (A' := A2) (n' := n2) (cap' := cap2) Try.results51 rfl rfl (Kb hvr1) (Kb hvr2) rfl ?_
      exact M2R.some_ HXS.out (OR.mono (B := B0) (Ko k1) (by omega)) (OR.mono (B := B0) (Ko k2) (by omega)) HAP.out Kw
theorem hm_len {r c : Int} {xs : List Int} {x : HS × Nat} (h : hmX r c xs = some x) : r.toNat ≤ 24 ∧ c.toNat ≤ 24 := by
  unfold hmX at h
  split at h
  · rename_i hm
    have M := isMat_iff.1 hm
    have h1 := M.r1
    have h2 := M.c1
    omega
  · cases h
theorem hmM_len (r c : Int) (xs : List Int) : (hmM r c xs).xs.length ≤ 1048576 := by
  unfold hmM
  cases h : hmX r c xs with
  | none => exact Nat.zero_le _
  | some x =>
    have hl := hm_len h
    show (tb _ _ _).length ≤ _
    rw [tb_len]
    exact Nat.le_trans (Nat.mul_le_mul hl.1 hl.2) (by omega)
theorem hmU_len (r c : Int) (xs : List Int) : (hmU r c xs).xs.length ≤ 1048576 := by
  unfold hmU
  cases h : hmX r c xs with
  | none => exact Nat.zero_le _
  | some x =>
    have hl := hm_len h
    show (tb _ _ _).length ≤ _
    rw [tb_len]
    exact Nat.le_trans (Nat.mul_le_mul hl.1 hl.1) (by omega)
end Go.Proofs.Ytacjonkehcamgaa

/-
  DERIVED. l3Mul.
-/
namespace Go.Proofs.Ytacjonkehcamgaa
open Go.RowKit
set_option linter.unusedVariables false
set_option linter.unusedSimpArgs false
set_option maxRecDepth 100000 in
set_option maxHeartbeats 8000000 in
theorem spec_l3Mul (R C C2 : Nat) (A A' : Option Addr) (n cap n' cap' : Nat) (xs ys : List Int) (w : World) {B B' : Nat} (h : RI w B A n xs) (h' : RI w B' A' n' ys) (hB : B ≤ w.heap.size) (hB' : B' ≤ w.heap.size) (hn : n ≤ 1048576) (hn' : n' ≤ 1048576) (M : IsM R C xs) (M2 : IsM C C2 ys) :
    Calls Try.prog 171 #[.agg #[.int .i64 R, .int .i64 C, .slice A n cap], .agg #[.int .i64 C, .int .i64 C2, .slice A' n' cap']] w (MR ⟨R, C2, mulL xs R C ys C2⟩ w) := by
  have hlen := h.len
  have hlen' := h'.len
  have H2 := Lib.hid (h.more hB)
  have H3 := Lib.hid (h'.more hB')
  clear h h' hB hB'
  have HMM := Lib.hid M
  have HMM2 := Lib.hid M2
  have hR' := M.r1
  have hC := M.c1
  have hC2 := M2.c1
  have hl1 : (n : Int) ≤ (R : Int) * (C : Int) ∧ (R : Int) * (C : Int) ≤ n := by have := M.len; omega
  have hl2 : (n' : Int) ≤ (C : Int) * (C2 : Int) ∧ (C : Int) * (C2 : Int) ≤ n' := by have := M2.len; omega
  have hRC : R * C2 ≤ 24 * 24 := Nat.mul_le_mul (by omega) (by omega)
  clear M M2 hlen hlen'
  go_enter Try.func171, Try.ntmps171
  go_wp2_with fail
  refine (spec_l3New R C2 _ (by omega) (by omega) (by omega)).mono ?_
  rintro e w3 ⟨Ao, no, co, rfl, hown, hb3⟩
  have hsz3 := hb3.size
  simp at hsz3
  have hno := hown.lenEq
  have hU : Own (.slice Ao no co) (w.heap.size + 1 + 1 + 1) w3.heap.size := hown.own.wide Ks (Nat.le_refl _)
  have hno1 : no ≤ R * C2 ∧ R * C2 ≤ no := by simp at hno; omega
  have hno2 : (no : Int) ≤ (R : Int) * (C2 : Int) ∧ (R : Int) * (C2 : Int) ≤ no := by rw [← Int.natCast_mul]; omega
  have hA3 : BM (w3.alloc (.cells #[.int .i64 R, .int .i64 C2, .slice Ao no co] 26)) w.heap.size R C A n cap := Ka
  have hB3 : BM (w3.alloc (.cells #[.int .i64 R, .int .i64 C2, .slice Ao no co] 26)) (w.heap.size + 1) C C2 A' n' cap' := Ka
  have hR3 : BM (w3.alloc (.cells #[.int .i64 R, .int .i64 C2, .slice Ao no co] 26)) (w.heap.size + 1 + 1) 0 0 none 0 0 := Ka
  have hO3 : BM (w3.alloc (.cells #[.int .i64 R, .int .i64 C2, .slice Ao no co] 26)) w3.heap.size R C2 Ao no co := Ka
  have hown3 : OR (w3.alloc (.cells #[.int .i64 R, .int .i64 C2, .slice Ao no co] 26)) (w.heap.size + 1 + 1 + 1) (.slice Ao no co) (fillTo (mulL xs R C ys C2) (R * C2) 0) := by
    rw [fillTo_zero]; exact (hown.mono Ks).alloc _
  have hbw3 : Below w.heap.size w (w3.alloc (.cells #[.int .i64 R, .int .i64 C2, .slice Ao no co] 26)) := Kw
  have hq3 : w.heap.size + 1 + 1 + 1 ≤ w3.heap.size := by omega
  have hU0 : Hid (0 < R * C2 → ∃ g, Ao = some ⟨g, 0, none⟩ ∧ w.heap.size + 1 + 1 + 1 ≤ g ∧ g < w3.heap.size) := Lib.hid (fun hp => by have := hown.begins (by simpa using hp); simpa using this)
  clear hown hno hb3
  go_wp2_with fail
  generalize hbO : w3.heap.size = bO at *
  have HBO := Lib.hid hbO
  clear hbO
  go_loopw [6] (fun v wr => ∃ i : Nat, v = .int .i64 i ∧ i ≤ R ∧ BM wr w.heap.size R C A n cap ∧ BM wr (w.heap.size + 1) C C2 A' n' cap' ∧ BM wr (w.heap.size + 1 + 1) 0 0 none 0 0 ∧ BM wr bO R C2 Ao no co ∧ OR wr (w.heap.size + 1 + 1 + 1) (.slice Ao no co) (fillTo (mulL xs R C ys C2) (R * C2) (i*C2)) ∧ Below w.heap.size w wr) (fun v _ => R - (intOf v).toNat)
  case atStart => exact ⟨0, rfl, Nat.zero_le _, hA3, hB3, hR3, hO3, by rw [Nat.zero_mul]; exact hown3, hbw3⟩
  case round =>
    clear hA3 hB3 hR3 hO3 hown3 hbw3
    obtain ⟨i, rfl, hi, hA, hB, hR, hO, hown, hbw⟩ := hrel
    obtain ⟨aa, ab, ac, af, al⟩ := hA.mx; obtain ⟨ba, bb, bc, bf, bl⟩ := hB.mx; obtain ⟨oa, ob, oc, of, ol⟩ := hO.mx
    by_cases hiR : i < R
    · go_wp2_with fail
      obtain ⟨wo, rfl⟩ : ∃ wo : World, wo = wr := ⟨_, rfl⟩
      go_loopw [7, 8, 9] (fun v _ _ wr => ∃ j : Nat, v = .int .i64 j ∧ j ≤ C2 ∧ BM wr w.heap.size R C A n cap ∧ BM wr (w.heap.size + 1) C C2 A' n' cap' ∧ BM wr (w.heap.size + 1 + 1) 0 0 none 0 0 ∧ BM wr bO R C2 Ao no co ∧ OR wr (w.heap.size + 1 + 1 + 1) (.slice Ao no co) (fillTo (mulL xs R C ys C2) (R * C2) (i*C2+j)) ∧ Below w.heap.size w wr) (fun v _ _ _ => C2 - (intOf v).toNat)
      case atStart => exact ⟨0, rfl, Nat.zero_le _, hA, hB, hR, hO, hown, hbw⟩
      case round =>
        clear hA hB hR hO hown hbw
        clear aa ab ac af al ba bb bc bf bl oa ob oc of ol
        obtain ⟨j, rfl, hj, hA, hB, hR, hO, hown, hbw⟩ := hrel
        obtain ⟨aa, ab, ac, af, al⟩ := hA.mx; obtain ⟨ba, bb, bc, bf, bl⟩ := hB.mx; obtain ⟨oa, ob, oc, of, ol⟩ := hO.mx
        by_cases hjC : j < C2
        · go_wp2_with fail
          obtain ⟨wo2, rfl⟩ : ∃ wo : World, wo = wr := ⟨_, rfl⟩
          go_loopw [8, 9] (fun u v wr => ∃ k : Nat, v = .int .i64 k ∧ u = .int .i64 (psum xs C ys C2 i j k) ∧ k ≤ C ∧ BM wr w.heap.size R C A n cap ∧ BM wr (w.heap.size + 1) C C2 A' n' cap' ∧ BM wr (w.heap.size + 1 + 1) 0 0 none 0 0 ∧ BM wr bO R C2 Ao no co ∧ OR wr (w.heap.size + 1 + 1 + 1) (.slice Ao no co) (fillTo (mulL xs R C ys C2) (R * C2) (i*C2+j)) ∧ Below w.heap.size w wr) (fun _ v _ => C - (intOf v).toNat)
          case atStart => exact ⟨0, rfl, rfl, Nat.zero_le _, hA, hB, hR, hO, hown, hbw⟩
          case round =>
            clear hA hB hR hO hown hbw
            clear aa ab ac af al ba bb bc bf bl oa ob oc of ol
            obtain ⟨k, rfl, rfl, hk, hA, hB, hR, hO, hown, hbw⟩ := hrel
            obtain ⟨aa, ab, ac, af, al⟩ := hA.mx; obtain ⟨ba, bb, bc, bf, bl⟩ := hB.mx; obtain ⟨oa, ob, oc, of, ol⟩ := hO.mx
            generalize hq : i * C2 + j = q at *
            have HQ := Lib.hid hq
            clear hq
            by_cases hkC : k < C
            · obtain ⟨p1, p2⟩ := psum_bd HMM.out HMM2.out i j k (by omega)
              obtain ⟨p3, p4⟩ := psum_bd HMM.out HMM2.out i j (k + 1) (by omega)
              have hps : psum xs C ys C2 i j (k + 1) = psum xs C ys C2 i j k + cel xs C i k * cel ys C2 k j := rfl
              rw [hps] at p3 p4
              have HPS := Lib.hid hps
              clear hps
              obtain ⟨x1, x2, x3, x4⟩ := idx_bd (r := R) (c := C) (i := i) (j := k) hR' hC (by omega) (by omega) (by omega) (by omega)
              obtain ⟨x5, x6, x7, x8⟩ := idx_bd (r := C) (c := C2) (i := k) (j := j) hC hC2 (by omega) (by omega) (by omega) (by omega)
              obtain ⟨y1, y2⟩ := HMM.out.cel_bd i k
              obtain ⟨y3, y4⟩ := HMM2.out.cel_bd k j
              obtain ⟨z1, z2⟩ := mul_bd4 _ _ 400000000 400000000 y1 y2 y3 y4
              have g1 : IntKind.i64.wrap (cel xs C i k * cel ys C2 k j) = cel xs C i k * cel ys C2 k j := IntWalk.i64_in _ (by omega)
              have g2 : IntKind.i64.wrap (psum xs C ys C2 i j k + cel xs C i k * cel ys C2 k j) = psum xs C ys C2 i j k + cel xs C i k * cel ys C2 k j := IntWalk.i64_in _ (by omega)
              go_wp2_with fail
              obtain ⟨ab1, ao1, rfl, hab, hac⟩ := H2.out.2 (by omega)
              obtain ⟨bb1, bo1, rfl, hbb, hbc⟩ := H3.out.2 (by omega)
              have c1 := (hbw.cell (p := ⟨ab1, ao1 + ((i : Int) * (C : Int) + (k : Int)).toNat, none⟩) hab).trans (hac _ (by omega))
              have c2 := (hbw.cell (p := ⟨bb1, bo1 + ((k : Int) * (C2 : Int) + (j : Int)).toNat, none⟩) hbb).trans (hbc _ (by omega))
              clear hac hbc
              rw [show xs.getD ((i : Int) * (C : Int) + (k : Int)).toNat 0 = cel xs C i k from rfl] at c1
              rw [show ys.getD ((k : Int) * (C2 : Int) + (j : Int)).toNat 0 = cel ys C2 k j from rfl] at c2
              have g3 : IntKind.i64.wrap ((i : Int) * (C : Int)) = (i : Int) * (C : Int) := IntWalk.i64_in _ (by omega)
              have g4 : IntKind.i64.wrap ((k : Int) * (C2 : Int)) = (k : Int) * (C2 : Int) := IntWalk.i64_in _ (by omega)
              have g5 : IntKind.i64.wrap ((i : Int) * (C : Int) + (k : Int)) = (i : Int) * (C : Int) + (k : Int) := IntWalk.i64_in _ (by omega)
              have g6 : IntKind.i64.wrap ((k : Int) * (C2 : Int) + (j : Int)) = (k : Int) * (C2 : Int) + (j : Int) := IntWalk.i64_in _ (by omega)
              have g7 : 0 ≤ (i : Int) * (C : Int) + (k : Int) ∧ (i : Int) * (C : Int) + (k : Int) < (n : Int) := by omega
              have g8 : 0 ≤ (k : Int) * (C2 : Int) + (j : Int) ∧ (k : Int) * (C2 : Int) + (j : Int) < (n' : Int) := by omega
              obtain ⟨g7a, g7b⟩ := g7
              obtain ⟨g8a, g8b⟩ := g8
              generalize cel xs C i k = xv at *
              generalize cel ys C2 k j = yv at *
              ((refine wp_region_held_drew (S := (fun w' => w'.cell? ⟨w.heap.size, 1, none⟩ = some (.int .i64 C) ∧ w'.cell? ⟨w.heap.size, 2, none⟩ = some (.slice (some ⟨ab1, ao1, none⟩) n cap) ∧ w'.cell? ⟨w.heap.size + 1, 1, none⟩ = some (.int .i64 C2) ∧ w'.cell? ⟨w.heap.size + 1, 2, none⟩ = some (.slice (some ⟨bb1, bo1, none⟩) n' cap') ∧ w'.cell? ⟨ab1, ao1 + ((i : Int) * (C : Int) + (k : Int)).toNat, none⟩ = some (.int .i64 xv) ∧ w'.cell? ⟨bb1, bo1 + ((k : Int) * (C2 : Int) + (j : Int)).toNat, none⟩ = some (.int .i64 yv))) (by kernel_rfl) ?_ (fun hHeld => ?_)); ((focus ((try dsimp only); (go_keep)))); ((refine tk_ (i := 0) (v := ?_) (y := Or.inl ⟨by rfl, ?_⟩) (h := ?_); rotate_left; (focus (((intro w hSw; (try dsimp only at hSw); go_simp) <;> (try with_reducible rfl)); done)); (try simp only [Act.put, p1_, p2_, p3_]))); ((refine tk_ (i := 1) (v := ?_) (y := Or.inl ⟨by rfl, ?_⟩) (h := ?_); rotate_left; (focus (((intro w hSw; (try dsimp only at hSw); go_simp) <;> (try with_reducible rfl)); done)); (try simp only [Act.put, p1_, p2_, p3_]))); ((refine tk_ (i := 2) (v := ?_) (y := Or.inl ⟨by rfl, ?_⟩) (h := ?_); rotate_left; (focus (((intro w hSw; (try dsimp only at hSw); go_simp) <;> (try with_reducible rfl)); done)); (try simp only [Act.put, p1_, p2_, p3_]))); ((refine tk_ (i := 3) (v := ?_) (y := Or.inl ⟨by rfl, ?_⟩) (h := ?_); rotate_left; (focus (((intro w hSw; (try dsimp only at hSw); go_simp) <;> (try with_reducible rfl)); done)); (try simp only [Act.put, p1_, p2_, p3_]))); ((refine tk_ (i := 4) (v := ?_) (y := Or.inl ⟨by rfl, ?_⟩) (h := ?_); rotate_left; (focus (((intro w hSw; (try dsimp only at hSw); go_simp) <;> (try with_reducible rfl)); done)); (try simp only [Act.put, p1_, p2_, p3_]))); ((refine tk_ (i := 5) (v := ?_) (y := Or.inl ⟨by rfl, ?_⟩) (h := ?_); rotate_left; (focus (((intro w hSw; (try dsimp only at hSw); go_simp) <;> (try with_reducible rfl)); done)); (try simp only [Act.put, p1_, p2_, p3_]))); ((refine tk_ (i := 6) (v := ?_) (y := Or.inl ⟨by rfl, ?_⟩) (h := ?_); rotate_left; (focus (((intro w hSw; (try dsimp only at hSw); go_simp) <;> (try with_reducible rfl)); done)); (try simp only [Act.put, p1_, p2_, p3_]))); ((refine tk_ (i := 7) (v := ?_) (y := Or.inl ⟨by rfl, ?_⟩) (h := ?_); rotate_left; (focus (((intro w hSw; (try dsimp only at hSw); go_simp) <;> (try with_reducible rfl)); done)); (try simp only [Act.put, p1_, p2_, p3_]))); ((refine tk_ (i := 8) (v := ?_) (y := Or.inl ⟨by rfl, ?_⟩) (h := ?_); rotate_left; (focus (((intro w hSw; (try dsimp only at hSw); go_simp) <;> (try with_reducible rfl)); done)); (try simp only [Act.put, p1_, p2_, p3_]))); ((refine tk_ (i := 9) (v := ?_) (y := Or.inl ⟨by rfl, ?_⟩) (h := ?_); rotate_left; (focus (((intro w hSw; (try dsimp only at hSw); go_simp) <;> (try with_reducible rfl)); done)); (try simp only [Act.put, p1_, p2_, p3_]))); ((refine tk_ (i := 10) (v := ?_) (y := Or.inl ⟨by rfl, ?_⟩) (h := ?_); rotate_left; (focus (((intro w hSw; (try dsimp only at hSw); go_simp) <;> (try with_reducible rfl)); done)); (try simp only [Act.put, p1_, p2_, p3_]))); ((refine tk_ (i := 11) (v := ?_) (y := Or.inl ⟨by rfl, ?_⟩) (h := ?_); rotate_left; (focus (((intro w hSw; (try dsimp only at hSw); go_simp) <;> (try with_reducible rfl)); done)); (try simp only [Act.put, p1_, p2_, p3_]))); ((refine tk_ (i := 12) (v := ?_) (y := Or.inl ⟨by rfl, ?_⟩) (h := ?_); rotate_left; (focus (((intro w hSw; (try dsimp only at hSw); go_simp) <;> (try with_reducible rfl)); done)); (try simp only [Act.put, p1_, p2_, p3_]))); ((refine tk_ (i := 13) (v := ?_) (y := Or.inl ⟨by rfl, ?_⟩) (h := ?_); rotate_left; (focus (((intro w hSw; (try dsimp only at hSw); go_simp) <;> (try with_reducible rfl)); done)); (try simp only [Act.put, p1_, p2_, p3_]))); ((refine tk_ (i := 14) (v := ?_) (y := Or.inl ⟨by rfl, ?_⟩) (h := ?_); rotate_left; (focus (((intro w hSw; (try dsimp only at hSw); go_simp) <;> (try with_reducible rfl)); done)); (try simp only [Act.put, p1_, p2_, p3_]))); ((refine tk_ (i := 15) (v := ?_) (y := Or.inl ⟨by rfl, ?_⟩) (h := ?_); rotate_left; (focus (((intro w hSw; (try dsimp only at hSw); go_simp) <;> (try with_reducible rfl)); done)); (try simp only [Act.put, p1_, p2_, p3_]))); ((refine tk_ (i := 16) (v := ?_) (y := Or.inl ⟨by rfl, ?_⟩) (h := ?_); rotate_left; (focus (((intro w hSw; (try dsimp only at hSw); go_simp) <;> (try with_reducible rfl)); done)); (try simp only [Act.put, p1_, p2_, p3_]))); ((refine tk_ (i := 17) (v := ?_) (y := Or.inl ⟨by rfl, ?_⟩) (h := ?_); rotate_left; (focus (((intro w hSw; (try dsimp only at hSw); go_simp) <;> (try with_reducible rfl)); done)); (try simp only [Act.put, p1_, p2_, p3_]))); ((refine tk_ (i := 18) (v := ?_) (y := Or.inl ⟨by rfl, ?_⟩) (h := ?_); rotate_left; (focus (((intro w hSw; (try dsimp only at hSw); go_simp) <;> (try with_reducible rfl)); done)); (try simp only [Act.put, p1_, p2_, p3_]))); ((refine tk_ (i := 19) (v := ?_) (y := Or.inl ⟨by rfl, ?_⟩) (h := ?_); rotate_left; (focus (((intro w hSw; (try dsimp only at hSw); go_simp) <;> (try with_reducible rfl)); done)); (try simp only [Act.put, p1_, p2_, p3_]))); ((refine tk_ (i := 20) (v := ?_) (y := Or.inl ⟨by rfl, ?_⟩) (h := ?_); rotate_left; (focus (((intro w hSw; (try dsimp only at hSw); go_simp) <;> (try with_reducible rfl)); done)); (try simp only [Act.put, p1_, p2_, p3_]))); ((refine tk_ (i := 21) (v := ?_) (y := Or.inl ⟨by rfl, ?_⟩) (h := ?_); rotate_left; (focus (((intro w hSw; (try dsimp only at hSw); go_simp) <;> (try with_reducible rfl)); done)); (try simp only [Act.put, p1_, p2_, p3_]))); ((refine tk_ (i := 22) (v := ?_) (y := Or.inl ⟨by rfl, ?_⟩) (h := ?_); rotate_left; (focus (((intro w hSw; (try dsimp only at hSw); go_simp) <;> (try with_reducible rfl)); done)); (try simp only [Act.put, p1_, p2_, p3_]))); ((refine tk_ (i := 23) (v := ?_) (y := Or.inl ⟨by rfl, ?_⟩) (h := ?_); rotate_left; (focus (((intro w hSw; (try dsimp only at hSw); go_simp) <;> (try with_reducible rfl)); done)); (try simp only [Act.put, p1_, p2_, p3_]))); (refine wpAnyH_done (by kernel_rfl) ?_ _))
              clear g1 g2 g3 g4 g5 g6 c1 c2
              go_wp2_with fail
              go_roundw
              case rel => exact ⟨k + 1, by go_num, by rw [HPS.out], by omega, Kb hA, Kb hB, Kb hR, Kb hO, Ko hown, Kw⟩
              case measure => simp only [intOf]; omega
            · obtain rfl : k = C := by omega
              obtain ⟨x1, x2, x3, x4⟩ := idx_bd (r := R) (c := C2) (i := i) (j := j) hR' hC2 (by omega) (by omega) (by omega) (by omega)
              have hqR : q < R * C2 := by rw [← HQ.out]; exact idx_nat hiR hjC
              have e9 : ((i : Int) * (C2 : Int) + (j : Int)).toNat = q := by rw [← HQ.out, ← Int.natCast_mul, ← Int.natCast_add, Int.toNat_natCast]
              have e8 : (mulL xs R k ys C2).getD q 0 = psum xs k ys C2 i j k := by rw [← HQ.out]; exact mulL_at hiR hjC
              have E9 := Lib.hid e9
              have E8 := Lib.hid e8
              clear e9 e8
              have hnq : q < no := by omega
              obtain ⟨g, rfl, hg1, hg2⟩ := hU0.out (by omega)
              have hc1 := hown.cell q (by rw [fillTo_len (mulL_len _ _ _ _ _) (by omega)]; exact hqR)
              have hf1 := hown.frozen q
              generalize (fillTo (mulL xs R k ys C2) (R * C2) q).getD q 0 = oldv at hc1
              have hst := hown.set_ q (psum xs k ys C2 i j k)
              rw [fillTo_set' (mulL_len _ _ _ _ _) hqR E8.out] at hst
              have hgr := only_set (g := g) (World.grownBy.refl wr (some g)) q (.int .i64 (psum xs k ys C2 i j k))
              have hsz4 : wr.heap.size ≤ (wr.setCell ⟨g, q, none⟩ (.int .i64 (psum xs k ys C2 i j k))).heap.size := by simp [World.setCell]
              have i1 : (0 : Int) ≤ (i : Int) * (C2 : Int) + (j : Int) := by omega
              have i2 : (i : Int) * (C2 : Int) + (j : Int) < (no : Int) := by omega
              have i3 := E9.out
              have hA4 := hA.keptOwn (sv := .slice (some ⟨g, 0, none⟩) no co) hgr hU (by omega)
              have hB4 := hB.keptOwn (sv := .slice (some ⟨g, 0, none⟩) no co) hgr hU (by omega)
              have hR4 := hR.keptOwn (sv := .slice (some ⟨g, 0, none⟩) no co) hgr hU (by omega)
              have hO4 := hO.keptOwn (sv := .slice (some ⟨g, 0, none⟩) no co) hgr hU (by omega)
              have hbw4 : Below w.heap.size w (wr.setCell ⟨g, q, none⟩ (.int .i64 (psum xs k ys C2 i j k))) := hbw.trans (below_keptOwn (sv := .slice (some ⟨g, 0, none⟩) no co) hgr hU (by omega) (by omega))
              have HS := Lib.hid hst
              clear hst
              go_wp2_with fail
              go_roundw
              case rel => exact ⟨j + 1, by go_num, by omega, Kb hA4, Kb hB4, Kb hR4, Kb hO4, by rw [← Nat.add_assoc, HQ.out]; (with_reducible (repeat (first | exact HS.out | refine OR.drew ?_ | refine OR.drewN ?_ _ | refine OR.alloc ?_ _ | refine OR.b_ ?_ | refine OR.l_ ?_))), Kw⟩
              case measure => simp only [intOf]; omega
        · obtain rfl : j = C2 := by omega
          have E7 : Hid ((i + 1) * j = i * j + j) := Lib.hid (by rw [Nat.add_mul, Nat.one_mul])
          go_wp2_with fail
          go_roundw
          case rel => exact ⟨i + 1, by go_num, by omega, Kb hA, Kb hB, Kb hR, Kb hO, by rw [E7.out]; (with_reducible (repeat (first | exact hown | refine OR.drew ?_ | refine OR.drewN ?_ _ | refine OR.alloc ?_ _ | refine OR.b_ ?_ | refine OR.l_ ?_))), Kw⟩
          case measure => simp only [intOf]; omega
    · obtain rfl : i = R := by omega
      have hfin := hown.as (fillTo_all (mulL_len xs i C ys C2))
      obtain ⟨ra, rb, rc, rf, rl⟩ := hR.mx
      clear hown
      go_wp2_with fail
      refine ret_M (r := i) (c := C2) (A := Ao) (n := no) (cap := co) Try.results171 rfl (Kb hR) rfl ?_
      exact MR.mk (xs := mulL xs i C ys C2) rfl (OR.mono (B := w.heap.size + 1 + 1 + 1) (Ko hfin) (by omega)) Kw
end Go.Proofs.Ytacjonkehcamgaa

/-
  DERIVED. What the Hermite form leaves: rows that are not zeros ahead of rows of zeros. No program in sight. What BasisOf and KernelOf take of the Hermite form: rows 0 to t - 1, rows t and on. No program in sight. Slices of slices of ints; fromRows, takeRows. BasisOf of the program. BasisOf of the reference.
-/
namespace Go.Proofs.Ytacjonkehcamgaa
set_option linter.unusedVariables false
/-- Columns 0 to j - 1 are done, t rows have something in them. -/
structure ES (R j t : Nat) (f : Fn2) : Prop where
  z : ∀ i y, t ≤ i → i < R → y < j → f i y = 0
  p : ∀ i, i < t → ∃ y, y < j ∧ f i y ≠ 0
  le : t ≤ R
theorem opA_zero {f : Fn2} {R C i p x y : Nat} {q : Int} (ho : OKF R C (opA f i p q)) (hx : x < R) (hy : y < C) (h0 : f p y = 0) : opA f i p q x y = f x y := by
  by_cases hxi : x = i
  · subst hxi
    obtain ⟨-, -, he, -⟩ := opA_num (ho x y hx hy)
    rw [he, h0]; simp
  · exact opA_other hxi
theorem swS_zero {R C j p t y : Nat} {s : HS} (hn : s.NBS) (hy : y < C) (h0 : s.f p y = 0) : ∀ n, (swS j p t s n).OK R C → ∀ x, x < R → (swS j p t s n).f x y = s.f x y
  | 0, _, _, _ => rfl
  | n + 1, hk, x, hx => by
    have ih := swS_zero (j := j) (t := t) hn hy h0 n (swS_back hn hk) x hx
    rw [swS_succ] at hk ⊢
    by_cases hc : t + n ≠ p ∧ (swS j p t s n).f (t + n) j ≠ 0
    · rw [if_pos hc] at hk ⊢
      show opA _ _ _ _ x y = _
      rw [opA_zero hk.f hx hy (by rw [swS_p]; exact h0)]
      exact ih
    · rw [if_neg hc]; exact ih
theorem abS_zero {R C j t y : Nat} {s : HS} (hn : s.NBS) (hy : y < C) (h0 : s.f t y = 0) : ∀ n, n ≤ t → (abS j t s n).OK R C → ∀ x, x < R → (abS j t s n).f x y = s.f x y
  | 0, _, _, _, _ => rfl
  | n + 1, hl, hk, x, hx => by
    have ih := abS_zero (j := j) hn hy h0 n (by omega) (abS_back hn hk) x hx
    rw [abS_succ] at hk ⊢
    show opA _ _ _ _ x y = _
    rw [opA_zero hk.f hx hy (by rw [abS_late y n (by omega)]; exact h0)]
    exact ih
theorem hmIn_es {R C j t : Nat} (hj : j < C) : ∀ (k : Nat) (s : HS) (p : Nat) (s' : HS) (p' : Nat), hmMs R j t s p < k → GD R C s → ES R j t s.f → t ≤ p → p < R → s.f p j ≠ 0 → hmIn R C j t s p = some (s', p') →
    GD R C s' ∧ ES R j t s'.f ∧ t ≤ p' ∧ p' < R ∧ s'.f p' j ≠ 0 ∧ oth R s'.f j t p' = false
  | 0, _, _, _, _, hk, _, _, _, _, _, _ => absurd hk (Nat.not_lt_zero _)
  | k + 1, s, p, s', p', hk, hg, he, hp, hpR, hpj, h => by
    rcases ho : oth R s.f j t p with _ | _
    · rw [hmIn_done ho] at h
      cases h
      exact ⟨hg, he, hp, hpR, hpj, ho⟩
    · rcases hok : (swS j p t s (R - t)).ok R C with _ | _
      · rw [hmIn_bad ho hok] at h
        cases h
      · rw [hmIn_next hg.nb hj hpR hp hpj ho hok] at h
        have hk2 := (HS.ok_iff (swS_nb hg.nb _)).1 hok
        have hlt := hmMs_lt hg.nb hj hpR hp hpj ho hk2
        have hpp := swS_p (j := j) (p := p) (t := t) (s := s) j (R - t)
        rcases lst_cases R (swS j p t s (R - t)).f j t he.le with ⟨e, hz⟩ | ⟨q, e, h1, h2, h3⟩
        · exact absurd (hz p hp hpR) (by rw [hpp]; exact hpj)
        · rw [e, Int.toNat_natCast] at h hlt
          refine hmIn_es hj k _ q s' p' (by omega) ⟨hk2, swS_nb hg.nb _⟩ ⟨fun i y hi hR hy => ?_, fun i hi => ?_, he.le⟩ h1 h2 h3 h
          · rw [swS_zero hg.nb (by omega) (he.z p y hp hpR hy) _ hk2 i hR]
            exact he.z i y hi hR hy
          · obtain ⟨y, hy, hne⟩ := he.p i hi
            exact ⟨y, hy, by rw [swS_early y hi]; exact hne⟩
theorem hmFin_es {R C j t p : Nat} {s s' : HS} (hj : j < C) (hg : GD R C s) (he : ES R j t s.f) (hp : t ≤ p) (hpR : p < R) (hpj : s.f p j ≠ 0) (ho : oth R s.f j t p = false) (h : hmFin R C j t p s = some s') :
    GD R C s' ∧ ES R (j + 1) (t + 1) s'.f := by
  have htR : t < R := by omega
  unfold hmFin at h
  have g1 := hg.s1 hpR htR
  have g2 := g1.s2 (j := j) htR
  have hoz : ∀ i, t ≤ i → i < R → i ≠ p → s.f i j = 0 := fun i h1 h2 h3 => by
    refine Classical.byContradiction fun h4 => ?_
    rw [oth_iff.2 ⟨i, h1, h2, h3, h4⟩] at ho
    cases ho
  -- behind the exchange
  have e1z : ∀ i y, t ≤ i → i < R → y < j → (hmS1 t p s).f i y = 0 := fun i y h1 h2 h3 => by
    unfold hmS1
    split
    · exact he.z i y h1 h2 h3
    · show swF s.f p t i y = 0
      unfold swF
      split
      · exact he.z t y (Nat.le_refl _) htR h3
      · split
        · exact he.z p y hp hpR h3
        · exact he.z i y h1 h2 h3
  have e1j : ∀ i, t < i → i < R → (hmS1 t p s).f i j = 0 := fun i h1 h2 => by
    unfold hmS1
    split
    · rename_i e
      exact hoz i (by omega) h2 (by omega)
    · rename_i e
      show swF s.f p t i j = 0
      unfold swF
      split
      · exact hoz t (Nat.le_refl _) htR (fun e2 => e e2.symm)
      · rename_i e2
        rw [if_neg (by omega)]
        exact hoz i (by omega) h2 e2
  have e1e : ∀ i y, i < t → (hmS1 t p s).f i y = s.f i y := fun i y h1 => by
    unfold hmS1
    split
    · rfl
    · show swF s.f p t i y = _
      unfold swF
      rw [if_neg (by omega), if_neg (by omega)]
  have hpv := hmS1_piv t p j s
  generalize hmS1 t p s = s1 at *
  have hN : Num (s1.f t j) := g1.ok.f t j htR hj
  have hne2 := hmS2_piv hN (by rw [hpv]; exact hpj)
  have e2o : ∀ i y, i ≠ t → (hmS2 j t s1).f i y = s1.f i y := fun i y h1 => by
    unfold hmS2
    split
    · show opM s1.f t i y = _
      unfold opM
      rw [if_neg h1]
    · rfl
  have e2t : ∀ y, y < j → (hmS2 j t s1).f t y = 0 := fun y h1 => by
    have h0 := e1z t y (Nat.le_refl _) htR h1
    unfold hmS2
    split
    · show opM s1.f t t y = 0
      rw [opM_at (by rw [h0]; exact Num.zero), h0]; rfl
    · exact h0
  generalize hmS2 j t s1 = s2 at *
  split at h
  · rename_i hok
    cases h
    have hk := (HS.ok_iff (abS_nb g2.nb _)).1 hok
    refine ⟨⟨hk, abS_nb g2.nb _⟩, ⟨fun i y h1 h2 h3 => ?_, fun i h1 => ?_, by omega⟩⟩
    · rw [abS_late y t (by omega), e2o i y (by omega)]
      by_cases hy : y = j
      · subst hy; exact e1j i (by omega) h2
      · exact e1z i y (by omega) h2 (by omega)
    · by_cases hi : i = t
      · subst hi
        exact ⟨j, by omega, by rw [abS_late j i (Nat.le_refl _)]; exact hne2⟩
      · obtain ⟨y, hy, hne⟩ := he.p i (by omega)
        refine ⟨y, by omega, ?_⟩
        rw [abS_zero g2.nb (by omega) (e2t y hy) t (Nat.le_refl _) hk i (by omega), e2o i y hi, e1e i y (by omega)]
        exact hne
  · cases h
theorem hmOut_es {R C : Nat} : ∀ (m j t : Nat) (s : HS) (s' : HS) (t' : Nat), j + m = C → GD R C s → ES R j t s.f → hmOut R C m j t s = some (s', t') → GD R C s' ∧ ∃ j', j' ≤ C ∧ ES R j' t' s'.f ∧ (j' = C ∨ t' = R)
  | 0, j, t, s, s', t', hm, hg, he, h => by
    rw [hmOut_zero] at h
    cases h
    exact ⟨hg, j, by omega, he, .inl (by omega)⟩
  | m + 1, j, t, s, s', t', hm, hg, he, h => by
    by_cases ht : t < R
    · rcases lst_cases R s.f j t he.le with ⟨e, hz⟩ | ⟨p, e, h1, h2, h3⟩
      · rw [hmOut_skip ht (by omega)] at h
        refine hmOut_es m (j + 1) t s s' t' (by omega) hg ⟨fun i y h1 h2 h3 => ?_, fun i hi => ?_, he.le⟩ h
        · by_cases hy : y = j
          · subst hy; exact hz i h1 h2
          · exact he.z i y h1 h2 (by omega)
        · obtain ⟨y, hy, hne⟩ := he.p i hi
          exact ⟨y, by omega, hne⟩
      · rw [hmOut_go ht (by omega), e, Int.toNat_natCast] at h
        rcases hi : hmIn R C j t s p with _ | ⟨s1, p1⟩
        · rw [hi, hmGo_none] at h; cases h
        · rw [hi] at h
          obtain ⟨g1, e1, a1, a2, a3, a4⟩ := hmIn_es (by omega) _ s p s1 p1 (Nat.lt_succ_self _) hg he h1 h2 h3 hi
          rcases hf : hmFin R C j t p1 s1 with _ | s2
          · rw [hmGo_bad hf] at h; cases h
          · rw [hmGo_next hf] at h
            obtain ⟨g2, e2⟩ := hmFin_es (by omega) g1 e1 a1 a2 a3 a4 hf
            exact hmOut_es m (j + 1) (t + 1) s2 s' t' (by omega) g2 e2 h
    · rw [hmOut_full ht] at h
      cases h
      exact ⟨hg, j, by omega, he, .inr (by have := he.le; omega)⟩
/-- The rows from t on are zeros, those ahead are not. -/
theorem hmRun_rows {R C t : Nat} {f : Fn2} {s : HS} (hg : GD R C ⟨f, idF⟩) (h : hmRun R C f = some (s, t)) :
    GD R C s ∧ t ≤ R ∧ (∀ i y, t ≤ i → i < R → y < C → s.f i y = 0) ∧ ∀ i, i < t → ∃ y, y < C ∧ s.f i y ≠ 0 := by
  obtain ⟨g, j', hj, he, hx⟩ := hmOut_es C 0 0 ⟨f, idF⟩ s t (by omega) hg ⟨fun i y _ _ h => absurd h (Nat.not_lt_zero _), fun i h => absurd h (Nat.not_lt_zero _), Nat.zero_le _⟩ h
  refine ⟨g, he.le, fun i y h1 h2 h3 => ?_, fun i hi => ?_⟩
  · rcases hx with hx | hx
    · subst hx; exact he.z i y h1 h2 h3
    · omega
  · obtain ⟨y, hy, hne⟩ := he.p i hi
    exact ⟨y, by omega, hne⟩
end Go.Proofs.Ytacjonkehcamgaa
namespace Go.Proofs.Ytacjonkehcamgaa
set_option linter.unusedVariables false
theorem pv_tb {R C i : Nat} {f : Fn2} (hi : i < R) : pv (tb R C f) C i < C ↔ ∃ y, y < C ∧ f i y ≠ 0 := by
  constructor
  · intro h
    have := pv_ne (tb_len R C f) hi h
    rw [cel_tb hi h] at this
    exact ⟨_, h, this⟩
  · rintro ⟨y, hy, hne⟩
    rcases Nat.lt_or_ge (pv (tb R C f) C i) C with h | h
    · exact h
    · have := pv_zero (xs := tb R C f) (C := C) (i := i) (j := y) (by omega) hy
      rw [cel_tb hi hy] at this
      exact absurd this hne
theorem full_tb {R C t : Nat} {f : Fn2} (ht : t ≤ R) (hz : ∀ i y, t ≤ i → i < R → y < C → f i y = 0) (hp : ∀ i, i < t → ∃ y, y < C ∧ f i y ≠ 0) :
    ∀ k, k ≤ R → fullTo (tb R C f) C k = (List.range' 0 (min k t)).map Int.ofNat ∧ zeroTo (tb R C f) C k = (List.range' t (k - t)).map Int.ofNat ∧ lastR (tb R C f) C k = min k t
  | 0, _ => by simp [fullTo, zeroTo, lastR]
  | k + 1, hk => by
    obtain ⟨h1, h2, h3⟩ := full_tb ht hz hp k (by omega)
    by_cases hkt : k < t
    · have hpk : pv (tb R C f) C k < C := (pv_tb (by omega)).2 (hp k hkt)
      have e1 : min (k + 1) t = k + 1 := by omega
      have e2 : min k t = k := by omega
      have e3 : k + 1 - t = 0 := by omega
      have e4 : k - t = 0 := by omega
      rw [fullTo_yes hpk, zeroTo_yes hpk, h1, h2, e1, e2, e3, e4]
      refine ⟨?_, rfl, ?_⟩
      · rw [List.range'_concat]; simp
      · unfold lastR; rw [if_pos hpk]
    · have hpk : ¬ pv (tb R C f) C k < C := fun h => by
        obtain ⟨y, hy, hne⟩ := (pv_tb (by omega)).1 h
        exact hne (hz k y (by omega) (by omega) hy)
      have e1 : min (k + 1) t = t := by omega
      have e2 : min k t = t := by omega
      have e3 : k + 1 - t = (k - t) + 1 := by omega
      rw [fullTo_no hpk, zeroTo_no hpk, h1, h2, e1, e2, e3]
      refine ⟨rfl, ?_, ?_⟩
      · rw [List.range'_concat]
        have : t + 1 * (k - t) = k := by omega
        rw [this]; simp
      · unfold lastR; rw [if_neg hpk, h3, e2]
theorem rows_win (xs : List Int) (C a : Nat) : ∀ m, ((List.range' a m).map (rowL xs C)).flatten = (xs.drop (a * C)).take (m * C)
  | 0 => by simp
  | m + 1 => by
    rw [List.range'_concat, List.map_append, List.flatten_append, rows_win xs C a m, Nat.add_mul, Nat.one_mul, List.take_add, List.drop_drop, Nat.one_mul]
    congr 1
    simp [rowL, Nat.add_mul]
theorem tb_win {R C a m : Nat} (f : Fn2) (h : a + m ≤ R) : ((tb R C f).drop (a * C)).take (m * C) = tb m C (fun i j => f (a + i) j) := by
  have h1 := Nat.mul_le_mul_right C h
  rw [Nat.add_mul] at h1
  rw [tb_of (xs := ((tb R C f).drop (a * C)).take (m * C)) (R := m) (C := C) (by rw [List.length_take, List.length_drop, tb_len]; omega)]
  refine tb_ext fun i j hi hj => ?_
  have h2 := idx_nat hi hj
  have h3 : a * C + (i * C + j) = (a + i) * C + j := by rw [Nat.add_mul, Nat.add_assoc]
  rw [cel_nat, ← tb_at (R := R) (C := C) (f := f) (show a + i < R by omega) hj, ← h3]
  simp only [List.getD, List.getElem?_take, List.getElem?_drop, if_pos h2]
theorem tb_first {R C t : Nat} (f : Fn2) (h : t ≤ R) : (tb R C f).take (t * C) = tb t C f := by
  have := tb_win (C := C) (a := 0) (m := t) f (by omega : 0 + t ≤ R)
  rw [Nat.zero_mul, List.drop_zero] at this
  rw [this]
  exact tb_ext fun i j _ _ => by rw [Nat.zero_add]
theorem tb_last {R C t : Nat} (f : Fn2) (h : t ≤ R) : (tb R C f).drop (t * C) = tb (R - t) C (fun i j => f (t + i) j) := by
  have := tb_win (C := C) (a := t) (m := R - t) f (by omega : t + (R - t) ≤ R)
  rw [List.take_of_length_le] at this
  · exact this
  · rw [List.length_drop, tb_len, Nat.sub_mul]; omega
/-- A Hermite form's sizes, and its rows that are not zeros. -/
theorem hm_some {r c : Int} {xs : List Int} {s : HS} {t : Nat} (h : hmX r c xs = some (s, t)) :
    ∃ R C : Nat, r = R ∧ c = C ∧ R ≤ 24 ∧ C ≤ 24 ∧ t ≤ R ∧ lastR (tb R C s.f) C R = t ∧ fullTo (tb R C s.f) C R = (List.range' 0 t).map Int.ofNat ∧ zeroTo (tb R C s.f) C R = (List.range' t (R - t)).map Int.ofNat := by
  unfold hmX at h
  split at h
  · rename_i hm
    have M := isMat_iff.1 hm
    have h1 := M.r1
    have h2 := M.c1
    obtain ⟨R, rfl⟩ := nat_of M.r0
    obtain ⟨C, rfl⟩ := nat_of M.c0
    simp only [Int.toNat_natCast] at h
    obtain ⟨g1, g2, g3, g4⟩ := hmRun_rows (start_gd (R := R) (C := C) M.num) h
    obtain ⟨k1, k2, k3⟩ := full_tb g2 g3 g4 R (Nat.le_refl _)
    rw [Nat.min_eq_right g2] at k1 k3
    exact ⟨R, C, rfl, rfl, by omega, by omega, g2, k3, k1, k2⟩
  · cases h
/-- The basis: the rows that are not zeros. -/
def bsO (c : Int) : Option (HS × Nat) → Mx
  | some x => ⟨x.2, c, tb x.2 c.toNat x.1.f⟩
  | none => .none
def bsM (r c : Int) (xs : List Int) : Mx := bsO c (hmX r c xs)
def bsB (r c : Int) (xs : List Int) : Bool := (hmX r c xs).isSome
theorem bsM_len (r c : Int) (xs : List Int) : (bsM r c xs).xs.length ≤ 1048576 := by
  unfold bsM
  cases h : hmX r c xs with
  | none => exact Nat.zero_le _
  | some x =>
    obtain ⟨s, t⟩ := x
    obtain ⟨R, C, rfl, rfl, h1, h2, h3, _⟩ := hm_some h
    show (tb _ _ _).length ≤ _
    rw [tb_len, Int.toNat_natCast]
    have := Nat.mul_le_mul (show t ≤ 24 by omega) h2
    show t * C ≤ _
    omega
/-- The kernel: what makes the rows of zeros, in Hermite form. -/
def knO (r : Int) : Option (HS × Nat) → Mx
  | some x => bsM (r - x.2) r (tb (r.toNat - x.2) r.toNat fun i j => x.1.g (x.2 + i) j)
  | none => .none
def knP (r : Int) : Option (HS × Nat) → Bool
  | some x => bsB (r - x.2) r (tb (r.toNat - x.2) r.toNat fun i j => x.1.g (x.2 + i) j)
  | none => false
def knM (r c : Int) (xs : List Int) : Mx := knO r (hmX r c xs)
def knB (r c : Int) (xs : List Int) : Bool := knP r (hmX r c xs)
theorem knM_len (r c : Int) (xs : List Int) : (knM r c xs).xs.length ≤ 1048576 := by
  unfold knM
  cases h : hmX r c xs with
  | none => exact Nat.zero_le _
  | some x => exact bsM_len _ _ _
end Go.Proofs.Ytacjonkehcamgaa
namespace Go.Proofs.Ytacjonkehcamgaa
open Go.RowKit
set_option linter.unusedVariables false
set_option linter.unusedSimpArgs false
theorem sl_info : (Try.prog.info? 24).map (fun i => (i.zero, i.size, i.bytes)) = some (some (.slice none 0 0), 1, 24) := by kernel_rfl
/-- From block B on, the slice value v owns just these slice values. -/
def OS (w : World) (B : Nat) (v : Value) (vs : List Value) : Prop := w.ownsRow B 24 1 v vs.length vs
section
variable {w w' : World} {B : Nat} {v : Value} {vs : List Value}
theorem OS.kept {row : Option Nat} (h : OS w B v vs) (hg : w.grownBy w' row) (hne : v.ownBlock = none ∨ v.ownBlock ≠ row) : OS w' B v vs := World.ownsRow.kept h hg hne
theorem OS.alloc (h : OS w B v vs) (o : Obj) : OS (w.alloc o) B v vs := World.ownsRow.alloc h o
theorem OS.drew (h : OS w B v vs) : OS w.drew B v vs := h
theorem OS.drewN (h : OS w B v vs) (n : Nat) : OS (w.drewN n) B v vs := h
theorem OS.below {C : Nat} (h : OS w B v vs) (hb : Below C w w') (hC : w.heap.size ≤ C) : OS w' B v vs :=
  h.kept (row := none) ⟨hb.os, hb.tape, hb.output, hb.size, fun k hk _ => hb.block k (by omega)⟩ (by cases v.ownBlock <;> simp)
theorem OS.form (h : OS w B v vs) : (v = .slice none 0 0 ∧ vs = []) ∨ ∃ g cap, v = .slice (some ⟨g, 0, none⟩) vs.length cap ∧ B ≤ g ∧ g < w.heap.size ∧ vs.length ≤ cap ∧ cap ≤ maxLen := by
  rcases h.2 with ⟨h1, h2⟩ | ⟨g, cap, cur, h1, h2, h3, h4, h5, _⟩
  · exact .inl ⟨h1, List.eq_nil_of_length_eq_zero h2⟩
  · refine .inr ⟨g, cap, h1, h2, ?_, h4, h5⟩
    rcases Nat.lt_or_ge g w.heap.size with hlt | hge
    · exact hlt
    · rw [Array.getElem?_eq_none hge] at h3; cases h3
theorem OS.own (h : OS w B v vs) : Own v B w.heap.size := by
  intro g hg
  rcases h.form with ⟨h1, h2⟩ | ⟨g', cap', h1, h2, h3, _⟩
  · subst h1; cases hg
  · subst h1
    have e : g' = g := by simpa [Value.ownBlock] using hg
    subst e; exact ⟨h2, h3⟩
theorem OS.cell {g n cap : Nat} (h : OS w B (.slice (some ⟨g, 0, none⟩) n cap) vs) (k : Nat) (hk : k < vs.length) : w.cell? ⟨g, k, none⟩ = vs[k]? := by
  have hn : n = vs.length := by
    rcases h.2 with ⟨h1, _⟩ | ⟨g', cap', cur, h1, _⟩
    · cases h1
    · injection h1
  subst hn
  exact World.ownsRow.cellAt h k (by omega)
theorem OS.empty (w : World) (g : Nat) (hg : g = w.heap.size) {B : Nat} (hB : B ≤ w.heap.size) : OS (w.alloc (.cells #[] 24)) B (.slice (some ⟨g, 0, none⟩) 0 0) [] := by
  subst hg
  exact ⟨rfl, .inr ⟨w.heap.size, 0, #[], rfl, hB, heap_alloc_new w _, Nat.le_refl _, Nat.zero_le _, rfl, rfl⟩⟩
end
section
variable (w : World)
set_option maxRecDepth 100000 in
theorem wpList_append_sl {ops : Array Oper} {rest : List Oper} {o : Oper} {a : Act} {Q : Exit → Act → World → Prop} (hgd : o.guard = none) (s x : Operand)
    (ho : o.op = .call { callee := .builtin .append, args := #[s, x], argTypes := #[137, 137] })
    (B : Nat) (v : Value) (vs : List Value) (hs : a.eval s = v) (hown : OS w B v vs) (g : Nat) (y : Value) (hy : y.oneCell' = true) (hx : a.eval x = .slice (some ⟨g, 0, none⟩) 1 1) (hc : w.cell? ⟨g, 0, none⟩ = some y)
    (h63 : vs.length ≤ 100000000) (hbase : B ≤ w.heap.size)
    (h : ∀ v' w', OS w' B v' (vs ++ [y]) → w.grownBy w' v.ownBlock → (v'.ownBlock = v.ownBlock ∨ v'.ownBlock = some w.heap.size) → wpList Try.prog ops Q rest (a.put o.dst v') w') : wpList Try.prog ops Q (o :: rest) a w := by
  refine wpList_plain hgd fun _ hK => ?_
  obtain ⟨i0, hi, hz0, hz1, hz2⟩ := info_parts sl_info
  obtain ⟨v', w', hrun, h2, h3, _, h5⟩ := run_append_own_at (P := Try.prog) w B 137 o.type 24 i0 (.slice none 0 0) 1 24 Try.underlying137 hi hz0 hz1 hz2 rfl (by omega) v vs.length vs hown ⟨g, 0, none⟩ 1 1 [y] rfl (by
    intro j u hu
    rcases j with _ | j
    · simp at hu
      subst hu
      rw [show (⟨g, 0, none⟩ : Addr).add 0 = ⟨g, 0, none⟩ from Go.WideShapes.add_plain g 0 0, hc]
    · simp at hu) (by simp [hy]) (by unfold maxLen; omega) (by omega) hbase
  unfold Oper.wp execOp
  simp only [ho, resolve, invoke, builtin, Sem.run_bind, Sem.run_pure, Result.andThen_ok, List.map_toArray, List.map_cons, List.map_nil, hs, hx, hrun]
  exact hK _ _ (h v' w' (by
    unfold OS
    rw [List.length_append]
    exact h2) h3 h5)
end
/-- The slice value reads as these slice values. -/
def RS (w : World) (B : Nat) (A : Option Addr) (n : Nat) (vs : List Value) : Prop :=
  vs.length = n ∧ (0 < n → ∃ b o, A = some ⟨b, o, none⟩ ∧ b < B ∧ ∀ k, k < n → w.cell? ⟨b, o + k, none⟩ = vs[k]?)
/-- These slice values read as these rows. -/
def Rws (w : World) (B : Nat) (vs : List Value) (rs : List (List Int)) : Prop :=
  vs.length = rs.length ∧ ∀ k, k < rs.length → ∃ A m c, vs[k]? = some (.slice A m c) ∧ RI w B A m (rs.getD k [])
section
variable {w w' : World} {B n : Nat} {A : Option Addr} {vs : List Value} {rs : List (List Int)}
theorem RS.keep (h : RS w B A n vs) (hk : ∀ p : Addr, p.block < B → w'.cell? p = w.cell? p) : RS w' B A n vs :=
  ⟨h.1, fun hn => by
    obtain ⟨b, o, e, hb, hc⟩ := h.2 hn
    exact ⟨b, o, e, hb, fun k hkn => (hk ⟨b, o + k, none⟩ hb).trans (hc k hkn)⟩⟩
theorem RS.below {C : Nat} (h : RS w B A n vs) (hb : Below C w w') (hC : B ≤ C) : RS w' B A n vs := h.keep fun _ hp => hb.cell (by omega)
theorem RS.drewN (h : RS w B A n vs) (k : Nat) : RS (w.drewN k) B A n vs := h
theorem OS.reads {cap : Nat} (h : OS w B (.slice A n cap) vs) : RS w w.heap.size A n vs := by
  rcases h.form with ⟨h1, h2⟩ | ⟨g, cap', h1, h2, h3, _⟩
  · injection h1 with e1 e2 e3
    subst e1; subst e2; subst h2
    exact ⟨rfl, fun h => absurd h (by omega)⟩
  · injection h1 with e1 e2 e3
    subst e1; subst e2
    exact ⟨rfl, fun hn => ⟨g, 0, rfl, h3, fun k hk => by rw [Nat.zero_add]; exact h.cell k hk⟩⟩
theorem Rws.keep (h : Rws w B vs rs) (hk : ∀ p : Addr, p.block < B → w'.cell? p = w.cell? p) : Rws w' B vs rs :=
  ⟨h.1, fun k hkn => by
    obtain ⟨A, m, c, e, hr⟩ := h.2 k hkn
    exact ⟨A, m, c, e, hr.keep hk⟩⟩
theorem Rws.below {C : Nat} (h : Rws w B vs rs) (hb : Below C w w') (hC : B ≤ C) : Rws w' B vs rs := h.keep fun _ hp => hb.cell (by omega)
theorem Rws.drewN (h : Rws w B vs rs) (k : Nat) : Rws (w.drewN k) B vs rs := h
theorem Rws.more {B' : Nat} (h : Rws w B vs rs) (hB : B ≤ B') : Rws w B' vs rs :=
  ⟨h.1, fun k hkn => by
    obtain ⟨A, m, c, e, hr⟩ := h.2 k hkn
    exact ⟨A, m, c, e, hr.more hB⟩⟩
theorem Rws.nil_ (w : World) (B : Nat) : Rws w B [] [] := ⟨rfl, fun k h => absurd h (Nat.not_lt_zero _)⟩
theorem Rws.snoc {A : Option Addr} {m c : Nat} {r : List Int} (h : Rws w B vs rs) (hr : RI w B A m r) : Rws w B (vs ++ [.slice A m c]) (rs ++ [r]) := by
  refine ⟨by simp [h.1], fun k hk => ?_⟩
  have hl := h.1
  simp at hk
  by_cases hlt : k < rs.length
  · obtain ⟨A', m', c', e, hr'⟩ := h.2 k hlt
    refine ⟨A', m', c', ?_, ?_⟩
    · rw [List.getElem?_append_left (by omega)]; exact e
    · rw [List.getD, List.getElem?_append_left hlt]; exact hr'
  · obtain rfl : k = rs.length := by omega
    refine ⟨A, m, c, ?_, ?_⟩
    · rw [← hl]; simp
    · simpa using hr
end
theorem flat_take {rs : List (List Int)} {k : Nat} (h : k < rs.length) : (rs.take (k + 1)).flatten = (rs.take k).flatten ++ rs.getD k [] := by
  rw [List.take_succ_eq_append_getElem h, List.flatten_append]
  congr 1
  simp [List.getD, h]
theorem flat_len {rs : List (List Int)} {L : Nat} (h : ∀ k, k < rs.length → (rs.getD k []).length ≤ L) : ∀ k, k ≤ rs.length → (rs.take k).flatten.length ≤ k * L
  | 0, _ => by simp
  | k + 1, hk => by
    rw [flat_take (by omega), List.length_append, Nat.add_mul, Nat.one_mul]
    have := flat_len h k (by omega)
    have := h k (by omega)
    omega
set_option maxRecDepth 100000 in
set_option maxHeartbeats 4000000 in
theorem impl_fromRows (C n cap : Nat) (A : Option Addr) (vs : List Value) (rs : List (List Int)) (w : World) {B : Nat} (h : RS w B A n vs) (hr : Rws w B vs rs) (hB : B ≤ w.heap.size) (hn : n ≤ 1000) (hL : ∀ k, k < rs.length → (rs.getD k []).length ≤ 1000) :
    Calls Try.prog 226 #[.slice A n cap, .int .i64 C] w (MR ⟨n, C, rs.flatten⟩ w) := by
  have hlen : rs.length = n := by have := hr.1; have := h.1; omega
  have HL := Lib.hid hL
  have H := Lib.hid h
  have HR := Lib.hid hr
  have HE := Lib.hid hlen
  clear hL h hr hlen
  go_enter Try.func226, Try.ntmps226
  go_wp2_with fail
  go_loopw [15] (fun v wr => ∃ (k : Nat) (A' : Option Addr) (m c : Nat), v = .int .i64 k ∧ k ≤ n ∧ BM wr w.heap.size 0 0 none 0 0 ∧ BM wr (w.heap.size + 1 + 1) n C A' m c ∧ OR wr (w.heap.size + 1) (.slice A' m c) (rs.take k).flatten ∧ (∀ g, (Value.slice A' m c).ownBlock = some g → g ≠ w.heap.size + 1 + 1) ∧ Below w.heap.size w wr) (fun v _ => n - (intOf v).toNat)
  case atStart =>
    refine ⟨0, _, _, _, rfl, Nat.zero_le _, Ka, Ka, ?_, ?_, Kw⟩
    · rw [List.take_zero, List.flatten_nil]
      refine OR.alloc ?_ _
      exact OR.empty' _ (w.heap.size + 1) (by simp) (by simp)
    · intro g hg
      simp [Value.ownBlock] at hg
      omega
  case round =>
    obtain ⟨k, A', m, c, rfl, hk, hR, hO, ho, hne, hbw⟩ := hrel
    obtain ⟨ra, rb, rc, rf, rl⟩ := hR.mx
    obtain ⟨oa, ob, oc, of, ol⟩ := hO.mx
    by_cases hlt : k < n
    · have hkr : k < rs.length := by have := HE.out; omega
      obtain ⟨b, o, rfl, hbb, hcells⟩ := (H.out.below hbw hB).2 (by omega)
      obtain ⟨A1, m1, c1, e1, hri⟩ := HR.out.2 k hkr
      have ck := (hcells k hlt).trans e1
      have hri2 := Lib.hid (hri.below hbw hB)
      have E := Lib.hid (flat_take hkr)
      have hl1 := flat_len (L := 1000) HL.out k (by omega)
      have hl2 := HL.out k hkr
      have hl3 := hri.len
      clear hcells e1 hri hkr
      generalize hy : rs.getD k [] = ys at *
      clear hy
      generalize hz : (rs.take k).flatten = zs at *
      clear hz
      go_wp2_with (at_builtin; refine wpList_append_ints _ rfl (.tmp 20) (.tmp 21) rfl (w.heap.size + 1) _ zs rfl ?c1 B A1 m1 c1 ys rfl ?c2 ?c3 ?c4 ?_)
      case c1 => exact ho
      case c2 => exact hri2.out
      case c3 => omega
      case c4 => omega
      intro v1 w2 hown1 hgr hat
      obtain ⟨A2, m2, c2, rfl⟩ : ∃ A m c, v1 = .slice A m c := by
        rcases hown1.form with ⟨h1, _⟩ | ⟨g, cap, h1, _⟩
        · exact ⟨_, _, _, h1⟩
        · exact ⟨_, _, _, h1⟩
      have hR2 := hR.grown hgr (ho.ne_low (by omega))
      have hO2 := hO.grown hgr (fun e => hne _ e.symm rfl)
      have hne2 : ∀ g, (Value.slice A2 m2 c2).ownBlock = some g → g ≠ w.heap.size + 1 + 1 := by
        intro g hg
        rcases hat with e | e
        · exact hne g (e ▸ hg)
        · rw [e] at hg
          injection hg with hg
          omega
      have hb2 : Below w.heap.size w w2 := hbw.trans ((ho.below_grown hgr (by omega)).mono (by omega))
      have HNE := Lib.hid hne2
      clear hgr hat hR hO ho hne hne2 hbw ra rb rc rf rl oa ob oc of ol
      obtain ⟨ra, rb, rc, rf, rl⟩ := hR2.mx
      obtain ⟨oa, ob, oc, of, ol⟩ := hO2.mx
      go_wp2_with fail
      go_roundw
      case rel => exact ⟨k + 1, A2, m2, c2, by go_num, by omega, Kb hR2, hO2.put2, by rw [E.out]; exact OR.far hown1 (fun e => HNE.out _ e rfl) _, HNE.out, Kw⟩
      case measure => simp only [intOf]; omega
    · obtain rfl : k = n := by omega
      have HF := Lib.hid (show rs.take k = rs by rw [List.take_of_length_le (by have := HE.out; omega)])
      rw [HF.out] at ho
      have HNE := Lib.hid hne
      clear hne
      go_wp2_with fail
      refine ret_M (r := k) (c := C) (A := A') (n := m) (cap := c) Try.results226 rfl (BX.put (B3.of hR)) rfl ?_
      exact MR.mk rfl (OR.mono (B := w.heap.size + 1) (Ko ho) (by omega)) Kw
set_option maxRecDepth 100000 in
set_option maxHeartbeats 4000000 in
theorem impl_takeRows (R C : Nat) (A : Option Addr) (n cap : Nat) (xs : List Int) (A2 : Option Addr) (n2 cap2 : Nat) (ks : List Nat) (w : World) {B : Nat} (h : RI w B A n xs) (hB : B ≤ w.heap.size) (hnc : n ≤ cap) (hcap : cap ≤ 9223372036854775807)
    (hl : xs.length = R * C) (hR : R ≤ 24) (hC : C ≤ 24) (h2 : RI w B A2 n2 (ks.map fun k => ((k : Nat) : Int))) (hk : ∀ k, k < ks.length → ks.getD k 0 < R) (hn2 : n2 ≤ 1000) :
    Calls Try.prog 178 #[.agg #[.int .i64 R, .int .i64 C, .slice A n cap], .slice A2 n2 cap2] w (MR ⟨n2, C, (ks.map (rowL xs C)).flatten⟩ w) := by
  have hlen := h.len
  have hlk : ks.length = n2 := by have := h2.len; rw [List.length_map] at this; exact this
  have hln : n ≤ R * C ∧ R * C ≤ n := by omega
  have HLX := Lib.hid hl
  have H := Lib.hid h
  have H2 := Lib.hid h2
  have HK := Lib.hid hk
  have HE := Lib.hid hlk
  clear h h2 hk hl hlk hlen
  go_enter Try.func178, Try.ntmps178
  go_wp2_with fail
  go_loopw [5, 11] (fun vl u wr => ∃ (k : Nat) (vs : List Value), u = .int .i64 k ∧ k ≤ n2 ∧ OS wr (w.heap.size + 1 + 1) vl vs ∧ Rws wr B vs ((ks.take k).map (rowL xs C)) ∧ BM wr w.heap.size R C A n cap ∧ BM wr (w.heap.size + 1) 0 0 none 0 0 ∧ Below w.heap.size w wr) (fun _ v _ => n2 - (intOf v).toNat)
  case atStart =>
    refine ⟨0, [], rfl, Nat.zero_le _, ?_, Rws.nil_ _ _, Ka, Ka, Kw⟩
    exact OS.empty _ (w.heap.size + 1 + 1) (by simp) (by simp)
  case round =>
    obtain ⟨k, vs, rfl, hk, hL, hW, hO, hR0, hbw⟩ := hrel
    obtain ⟨oa, ob, oc, of, ol⟩ := hO.mx
    obtain ⟨ra, rb, rc, rf, rl⟩ := hR0.mx
    by_cases hlt : k < n2
    · obtain ⟨b, o, rfl, hbb, hcells⟩ := (H2.out.below hbw hB).2 (by omega)
      have ck := hcells k hlt
      have hkl : k < ks.length := by have := HE.out; omega
      have hi := HK.out k hkl
      have e1 : (ks.map fun k => ((k : Nat) : Int)).getD k 0 = ((ks.getD k 0 : Nat) : Int) := by simp [List.getD, hkl]
      have hl1 := hW.1
      rw [List.length_map, List.length_take] at hl1
      have E : Hid ((ks.take (k + 1)).map (rowL xs C) = (ks.take k).map (rowL xs C) ++ [rowL xs C (ks.getD k 0)]) := Lib.hid (by
        rw [List.take_succ_eq_append_getElem hkl, List.map_append]
        congr 1
        simp [List.getD, hkl])
      rw [e1] at ck
      have HW := Lib.hid hW
      clear hcells e1 hkl hW
      generalize ks.getD k 0 = i at *
      have HI : Hid (i * C + C ≤ n) := Lib.hid (by have h3 := Nat.mul_le_mul_right C (show i + 1 ≤ R by omega); rw [Nat.add_mul, Nat.one_mul] at h3; omega)
      go_wp2_with fail
      refine (impl_row R C i A n cap xs _ (B := B) (H.out.below hbw hB) (by omega) hnc hcap (by omega) (by omega) HI.out).mono ?_
      rintro e w1 ⟨A', cap', rfl, hri, hb, hc1, hc2⟩
      have hsz := hb.size
      (try simp at hsz)
      have hL1 : OS w1 (w.heap.size + 1 + 1) _ vs := hL.below hb (Nat.le_refl _)
      have hW1 : Rws w1 B vs _ := HW.out.below hb (by omega)
      have hO1 : BM w1 w.heap.size R C A n cap := Kb hO
      have hR1 : BM w1 (w.heap.size + 1) 0 0 none 0 0 := Kb hR0
      have hbw1 : Below w.heap.size w w1 := Kw
      have HRI := Lib.hid hri
      have HW1 := Lib.hid hW1
      clear hri hW1 hL hO hR0 hbw hb oa ob oc of ol ra rb rc rf rl
      obtain ⟨oa, ob, oc, of, ol⟩ := hO1.mx
      obtain ⟨ra, rb, rc, rf, rl⟩ := hR1.mx
      go_wp2_with (at_builtin; refine wpList_append_sl _ rfl (.tmp 15) (.tmp 19) rfl (w.heap.size + 1 + 1) _ vs rfl (hL1.alloc _) _ (.slice A' C cap') rfl rfl ?f1 ?f2 ?f3 ?_)
      case f1 => simp [go_sem]
      case f2 => omega
      case f3 => simp; omega
      intro v1 w2 hown1 hgr hat
      have hne1 : ∀ b, b < w.heap.size + 1 + 1 → some b ≠ (u5 : Value).ownBlock := fun b hb e => by have := (hL1.own b e.symm).1; omega
      have hO2 := (hO1.alloc (.cells #[.slice A' C cap'] 24)).grown hgr (hne1 _ (by omega))
      have hR2 := (hR1.alloc (.cells #[.slice A' C cap'] 24)).grown hgr (hne1 _ (by omega))
      have hb2 : Below (w.heap.size + 1 + 1) (w1.alloc (.cells #[.slice A' C cap'] 24)) w2 := only_below hgr (by simp; omega) (fun g e => (hL1.own g e).1)
      have hb3 : Below w.heap.size w w2 := (show Below w.heap.size w (w1.alloc (.cells #[.slice A' C cap'] 24)) from Kw).trans (hb2.mono (by omega))
      have hk2 : ∀ p : Addr, p.block < B → w2.cell? p = w1.cell? p := fun p hp => (hb2.cell (by omega)).trans (World.cell?_alloc_lt w1 _ p (by omega))
      have hW2 : Hid (Rws w2 B (vs ++ [.slice A' C cap']) ((ks.take (k + 1)).map (rowL xs C))) := Lib.hid (by
        rw [E.out]
        exact (HW1.out.keep hk2).snoc (HRI.out.keep hk2))
      clear hgr hat hL1 hO1 hR1 hbw1 HW1 HRI hk2 hb2 hne1 oa ob oc of ol ra rb rc rf rl
      go_wp2_with fail
      go_roundw
      case rel => exact ⟨k + 1, _, by go_num, by omega, hown1, hW2.out, Kb hO2, Kb hR2, Kw⟩
      case measure => simp only [intOf]; omega
    · obtain rfl : k = n2 := by omega
      obtain ⟨A3, m3, c3, rfl⟩ : ∃ A m c, u5 = .slice A m c := by
        rcases hL.form with ⟨h1, _⟩ | ⟨g, cap, h1, _⟩
        · exact ⟨_, _, _, h1⟩
        · exact ⟨_, _, _, h1⟩
      have hm3 : vs.length = m3 := hL.reads.1
      have hl1 := hW.1
      rw [List.take_of_length_le (by have := HE.out; omega)] at hW hl1
      rw [List.length_map, HE.out] at hl1
      obtain rfl : m3 = k := by omega
      have HRL : Hid (∀ j, j < (ks.map (rowL xs C)).length → ((ks.map (rowL xs C)).getD j []).length ≤ 1000) := Lib.hid (fun j hj => by
        rw [List.length_map] at hj
        have h4 := HK.out j hj
        have h3 := Nat.mul_le_mul_right C (show ks.getD j 0 + 1 ≤ R by omega)
        rw [Nat.add_mul, Nat.one_mul] at h3
        rw [show (ks.map (rowL xs C)).getD j [] = rowL xs C (ks.getD j 0) by simp [List.getD, hj], rowL_len (by have := HLX.out; omega)]
        omega)
      have HRS := Lib.hid hL.reads
      have HW := Lib.hid hW
      clear hW hL hm3 hl1
      go_wp2_with fail
      refine (impl_fromRows C m3 c3 A3 vs (ks.map (rowL xs C)) _ (B := wr.heap.size) HRS.out (HW.out.more (by omega)) (by simp) (by omega) HRL.out).mono ?_
      rintro e w1 ⟨A4, m4, c4, rfl, ho4, hb4⟩
      have hsz := hb4.size
      (try simp at hsz)
      have hR1 : BM w1 (w.heap.size + 1) 0 0 none 0 0 := Kb hR0
      have hbw1 : Below w.heap.size w w1 := Kw
      have hlw := hR0.lt
      clear hR0 hb4 hbw ra rb rc rf rl oa ob oc of ol hO
      obtain ⟨ra, rb, rc, rf, rl⟩ := hR1.mx
      go_wp2_with fail
      refine ret_M (r := m3) (c := C) (A := A4) (n := m4) (cap := c4) Try.results178 rfl (BX.put (B3.of hR1)) rfl ?_
      exact MR.mk rfl (OR.mono (B := wr.heap.size) (Ko ho4) (by omega)) Kw
end Go.Proofs.Ytacjonkehcamgaa
namespace Go.Proofs.Ytacjonkehcamgaa
open Go.RowKit
set_option linter.unusedVariables false
set_option linter.unusedSimpArgs false
theorem sliceForm_OR {w : World} {B : Nat} {v : Value} {xs : List Int} (h : OR w B v xs) : ∃ A m c, v = .slice A m c := by
  rcases h.form with ⟨h1, _⟩ | ⟨g, cap, h1, _⟩
  · exact ⟨_, _, _, h1⟩
  · exact ⟨_, _, _, h1⟩
set_option maxRecDepth 100000 in
set_option maxHeartbeats 8000000 in
theorem impl_BasisOf (r c : Int) (A : Option Addr) (n cap : Nat) (xs : List Int) (w : World) {B : Nat} (h : RI w B A n xs) (hB : B ≤ w.heap.size) (hn : n ≤ 1048576) :
    Calls Try.prog 86 #[.agg #[.int .i64 r, .int .i64 c, .slice A n cap]] w (MBR (bsM r c xs) (bsB r c xs) w) := by
  have hlen := h.len
  have H2 := Lib.hid (h.more hB)
  clear h
  unfold bsM bsB
  rcases hX : hmX r c xs with _ | ⟨s, t⟩
  · have HH : Hid (∀ w', RI w' w.heap.size A n xs → w.heap.size ≤ w'.heap.size → Calls Try.prog 50 #[.agg #[.int .i64 r, .int .i64 c, .slice A n cap]] w' (M2R ⟨0, 0, []⟩ ⟨0, 0, []⟩ false w')) := Lib.hid (fun w' k1 k2 => by
      have := impl_HermiteForm r c A n cap xs w' k1 k2 hn
      unfold hmM hmU at this
      rw [hX] at this
      exact this)
    clear hX
    go_enter Try.func86, Try.ntmps86
    go_wp2_with fail
    refine (HH.out _ (Kr H2.out) Ks).mono ?_
    rintro e w1 ⟨A1, n1, cap1, A2, n2, cap2, rfl, -, -, -, hb1⟩
    have hsz := hb1.size
    (try simp at hsz)
    have hR : BM w1 (w.heap.size + 1) 0 0 none 0 0 := Ka
    have hbw : Below w.heap.size w w1 := Kw
    clear hb1
    have hR2 : BM ((w1.alloc (.cells #[.int .i64 0, .int .i64 0, .slice A1 n1 cap1] 26)).alloc (.cells #[.int .i64 0, .int .i64 0, .slice A2 n2 cap2] 26)) (w.heap.size + 1) 0 0 none 0 0 := Kb hR
    have hbw2 : Below w.heap.size w ((w1.alloc (.cells #[.int .i64 0, .int .i64 0, .slice A1 n1 cap1] 26)).alloc (.cells #[.int .i64 0, .int .i64 0, .slice A2 n2 cap2] 26)) := Kw
    obtain ⟨ra, rb, rc, rf, rl⟩ := hR2.mx
    go_wp2_with fail
    refine ret_MB (r := 0) (c := 0) (A := none) (n := 0) (cap := 0) Try.results86 rfl (Kb hR2) rfl ?_
    exact MBR.mk rfl (OR.nil_ _ _) Kw
  · have HH : Hid (∀ w', RI w' w.heap.size A n xs → w.heap.size ≤ w'.heap.size → Calls Try.prog 50 #[.agg #[.int .i64 r, .int .i64 c, .slice A n cap]] w' (M2R ⟨r, c, tb r.toNat c.toNat s.f⟩ ⟨r, r, tb r.toNat r.toNat s.g⟩ true w')) := Lib.hid (fun w' k1 k2 => by
      have := impl_HermiteForm r c A n cap xs w' k1 k2 hn
      unfold hmM hmU at this
      rw [hX] at this
      exact this)
    obtain ⟨R, C, rfl, rfl, hR, hC, htR, -, hfull, -⟩ := hm_some hX
    simp only [Int.toNat_natCast] at HH
    have hRC := Nat.mul_le_mul hR hC
    have hV : bsO (C : Int) (some (s, t)) = ⟨t, C, tb t C s.f⟩ := by simp only [bsO, Int.toNat_natCast]
    have HF : Hid (((List.range' 0 t).map (rowL (tb R C s.f) C)).flatten = tb t C s.f) := Lib.hid (by rw [rows_win, Nat.zero_mul, List.drop_zero]; exact tb_first s.f htR)
    have HFU := Lib.hid hfull
    rw [hV]
    clear hX hV hfull
    generalize s.f = f at *
    generalize s.g = g at *
    go_enter Try.func86, Try.ntmps86
    go_wp2_with fail
    refine (HH.out _ (Kr H2.out) Ks).mono ?_
    rintro e w1 ⟨A1, n1, cap1, A2, n2, cap2, rfl, ho1, -, -, hb1⟩
    have hsz := hb1.size
    (try simp at hsz)
    have hR0 : BM w1 (w.heap.size + 1) 0 0 none 0 0 := Ka
    have hbw : Below w.heap.size w w1 := Kw
    have HLN : Hid (n1 = R * C) := Lib.hid (by have := ho1.lenEq; rw [tb_len] at this; exact this)
    have hln : n1 ≤ R * C ∧ R * C ≤ n1 := by have := HLN.out; omega
    have hcp := ho1.caps
    have ho : OR w1 (w.heap.size + 1 + 1) (.slice A1 n1 cap1) (tb R C f) := OR.mono (xs := tb R C f) ho1 Ks
    have hR2 : BM ((w1.alloc (.cells #[.int .i64 R, .int .i64 C, .slice A1 n1 cap1] 26)).alloc (.cells #[.int .i64 R, .int .i64 R, .slice A2 n2 cap2] 26)) (w.heap.size + 1) 0 0 none 0 0 := Kb hR0
    have hM2 : BM ((w1.alloc (.cells #[.int .i64 R, .int .i64 C, .slice A1 n1 cap1] 26)).alloc (.cells #[.int .i64 R, .int .i64 R, .slice A2 n2 cap2] 26)) w1.heap.size R C A1 n1 cap1 := Ka
    have ho2 : OR ((w1.alloc (.cells #[.int .i64 R, .int .i64 C, .slice A1 n1 cap1] 26)).alloc (.cells #[.int .i64 R, .int .i64 R, .slice A2 n2 cap2] 26)) (w.heap.size + 1 + 1) (.slice A1 n1 cap1) (tb R C f) := Ko ho
    have hbw2 : Below w.heap.size w ((w1.alloc (.cells #[.int .i64 R, .int .i64 C, .slice A1 n1 cap1] 26)).alloc (.cells #[.int .i64 R, .int .i64 R, .slice A2 n2 cap2] 26)) := Kw
    have hsz2 : w1.heap.size + 1 + 1 ≤ (((w1.alloc (.cells #[.int .i64 R, .int .i64 C, .slice A1 n1 cap1] 26)).alloc (.cells #[.int .i64 R, .int .i64 R, .slice A2 n2 cap2] 26))).heap.size := by simp
    clear hb1 ho1 ho hR0 hbw
    go_wp2_with fail
    generalize ((w1.alloc (.cells #[.int .i64 R, .int .i64 C, .slice A1 n1 cap1] 26)).alloc (.cells #[.int .i64 R, .int .i64 R, .slice A2 n2 cap2] 26)) = w2 at *
    generalize w1.heap.size = bH at *
    obtain ⟨ra, rb, rc, rf, rl⟩ := hR2.mx
    obtain ⟨oa, ob, oc, of, ol⟩ := hM2.mx
    go_wp2_with fail
    refine (impl_splitRows R C A1 n1 cap1 (tb R C f) _ (B := w2.heap.size) ho2.reads (Nat.le_refl _) (by omega) hcp.1 hcp.2 (tb_len _ _ _) hR hC).mono ?_
    rintro e w3 ⟨A3, n3, cap3, A4, n4, cap4, rfl, hf3, -, hb3⟩
    have hR3 : BM w3 (w.heap.size + 1) 0 0 none 0 0 := Kb hR2
    have hM3 : BM w3 bH R C A1 n1 cap1 := Kb hM2
    have ho3 : OR w3 (w.heap.size + 1 + 1) (.slice A1 n1 cap1) (tb R C f) := Ko ho2
    have hbw3 : Below w.heap.size w w3 := Kw
    have hsz3 := hb3.size
    have hlr := hR2.lt
    rw [HFU.out] at hf3
    have hn3 : n3 = t := by have := hf3.lenEq; rw [List.length_map, List.length_range'] at this; exact this
    have HF3 := Lib.hid hf3
    subst hn3
    clear hR2 hM2 ho2 hbw2 hb3 hf3 ra rb rc rf rl oa ob oc of ol
    obtain ⟨ra, rb, rc, rf, rl⟩ := hR3.mx
    obtain ⟨oa, ob, oc, of, ol⟩ := hM3.mx
    have HO3 := Lib.hid ho3
    clear ho3
    go_wp2_with fail
    refine (impl_takeRows R C A1 n1 cap1 (tb R C f) A3 n3 cap3 (List.range' 0 n3) _ (B := w3.heap.size) HO3.out.reads (Nat.le_refl _) hcp.1 hcp.2 (tb_len _ _ _) hR hC HF3.out.reads (fun k hk => by rw [List.length_range'] at hk; simp [List.getD, hk]; omega) (by omega)).mono ?_
    rw [HF.out]
    rintro e w4 ⟨A5, n5, c5, rfl, ho5, hb5⟩
    have hsz5 := hb5.size
    have hR4 : BM w4 (w.heap.size + 1) 0 0 none 0 0 := Kb hR3
    have hbw4 : Below w.heap.size w w4 := Kw
    clear hR3 hM3 hbw3 hb5 ra rb rc rf rl oa ob oc of ol
    obtain ⟨ra, rb, rc, rf, rl⟩ := hR4.mx
    go_wp2_with fail
    refine ret_MB (r := n3) (c := C) (A := A5) (n := n5) (cap := c5) Try.results86 rfl (BX.put (B3.of hR4)) rfl ?_
    exact MBR.mk rfl (OR.mono (B := w3.heap.size) (Ko ho5) (by omega)) Kw
end Go.Proofs.Ytacjonkehcamgaa
namespace Go.Proofs.Ytacjonkehcamgaa
open Go.RowKit
theorem RI.upto {w : World} {B n m : Nat} {A : Option Addr} {xs : List Int} (h : RI w B A n xs) (hm : m ≤ n) : RI w B A m (xs.take m) := by
  refine ⟨by rw [List.length_take, h.len]; omega, fun h0 => ?_⟩
  obtain ⟨b, o, e, hb, hc⟩ := h.2 (by omega)
  refine ⟨b, o, e, hb, fun k hk => ?_⟩
  rw [hc k (by omega)]
  simp [List.getD, hk]
theorem RI.from_ {w : World} {B n m : Nat} {A : Option Addr} {xs : List Int} (h : RI w B A n xs) (hm : m ≤ n) : RI w B (A.map fun x => x.add m) (n - m) (xs.drop m) := by
  refine ⟨by rw [List.length_drop, h.len], fun h0 => ?_⟩
  obtain ⟨b, o, rfl, hb, hc⟩ := h.2 (by omega)
  refine ⟨b, o + m, by simp [addr_add], hb, fun k hk => ?_⟩
  have := hc (m + k) (by omega)
  rw [Nat.add_assoc, this]
  simp [List.getD]
theorem OR.sliceForm {w : World} {B : Nat} {v : Value} {xs : List Int} (h : OR w B v xs) : ∃ A m c, v = .slice A m c := by
  rcases h.form with ⟨h1, _⟩ | ⟨g, cap, h1, _⟩
  · exact ⟨_, _, _, h1⟩
  · exact ⟨_, _, _, h1⟩
set_option linter.unusedVariables false
set_option linter.unusedSimpArgs false
set_option maxRecDepth 100000 in
set_option maxHeartbeats 8000000 in
theorem spec_BasisOf (r c : Int) (A : Option Addr) (n cap : Nat) (xs : List Int) (w : World) {B : Nat} (h : RI w B A n xs) (hB : B ≤ w.heap.size) (hn : n ≤ 1048576) :
    Calls Try.prog 87 #[.agg #[.int .i64 r, .int .i64 c, .slice A n cap]] w (MBR (bsM r c xs) (bsB r c xs) w) := by
  have hlen := h.len
  have H2 := Lib.hid (h.more hB)
  clear h
  unfold bsM bsB
  rcases hX : hmX r c xs with _ | ⟨s, t⟩
  · have HH : Hid (∀ w', RI w' w.heap.size A n xs → w.heap.size ≤ w'.heap.size → Calls Try.prog 51 #[.agg #[.int .i64 r, .int .i64 c, .slice A n cap]] w' (M2R ⟨0, 0, []⟩ ⟨0, 0, []⟩ false w')) := Lib.hid (fun w' k1 k2 => by
      have := spec_HermiteForm r c A n cap xs w' k1 k2 hn
      unfold hmM hmU at this
      rw [hX] at this
      exact this)
    clear hX
    go_enter Try.func87, Try.ntmps87
    go_wp2_with fail
    refine (HH.out _ (Kr H2.out) Ks).mono ?_
    rintro e w1 ⟨A1, n1, cap1, A2, n2, cap2, rfl, -, -, -, hb1⟩
    have hsz := hb1.size
    (try simp at hsz)
    have hR : BM w1 (w.heap.size + 1) 0 0 none 0 0 := Ka
    have hbw : Below w.heap.size w w1 := Kw
    clear hb1
    have hR2 : BM ((w1.alloc (.cells #[.int .i64 0, .int .i64 0, .slice A1 n1 cap1] 26)).alloc (.cells #[.int .i64 0, .int .i64 0, .slice A2 n2 cap2] 26)) (w.heap.size + 1) 0 0 none 0 0 := Kb hR
    have hbw2 : Below w.heap.size w ((w1.alloc (.cells #[.int .i64 0, .int .i64 0, .slice A1 n1 cap1] 26)).alloc (.cells #[.int .i64 0, .int .i64 0, .slice A2 n2 cap2] 26)) := Kw
    obtain ⟨ra, rb, rc, rf, rl⟩ := hR2.mx
    go_wp2_with fail
    refine ret_MB (r := 0) (c := 0) (A := none) (n := 0) (cap := 0) Try.results87 rfl (Kb hR2) rfl ?_
    exact MBR.mk rfl (OR.nil_ _ _) Kw
  · have HH : Hid (∀ w', RI w' w.heap.size A n xs → w.heap.size ≤ w'.heap.size → Calls Try.prog 51 #[.agg #[.int .i64 r, .int .i64 c, .slice A n cap]] w' (M2R ⟨r, c, tb r.toNat c.toNat s.f⟩ ⟨r, r, tb r.toNat r.toNat s.g⟩ true w')) := Lib.hid (fun w' k1 k2 => by
      have := spec_HermiteForm r c A n cap xs w' k1 k2 hn
      unfold hmM hmU at this
      rw [hX] at this
      exact this)
    obtain ⟨R, C, rfl, rfl, hR, hC, htR, hlast, -, -⟩ := hm_some hX
    simp only [Int.toNat_natCast] at HH
    have HL := Lib.hid hlast
    have HF := Lib.hid (tb_first (C := C) s.f htR)
    have hRC := Nat.mul_le_mul hR hC
    have htC := Nat.mul_le_mul_right C htR
    have hV : bsO (C : Int) (some (s, t)) = ⟨t, C, tb t C s.f⟩ := by simp only [bsO, Int.toNat_natCast]
    rw [hV]
    clear hX hlast hV
    generalize s.f = f at *
    generalize s.g = g at *
    go_enter Try.func87, Try.ntmps87
    go_wp2_with fail
    refine (HH.out _ (Kr H2.out) Ks).mono ?_
    rintro e w1 ⟨A1, n1, cap1, A2, n2, cap2, rfl, ho1, -, -, hb1⟩
    have hsz := hb1.size
    (try simp at hsz)
    have hR0 : BM w1 (w.heap.size + 1) 0 0 none 0 0 := Ka
    have hbw : Below w.heap.size w w1 := Kw
    have HLN : Hid (n1 = R * C) := Lib.hid (by have := ho1.lenEq; rw [tb_len] at this; exact this)
    have hln : n1 ≤ R * C ∧ R * C ≤ n1 := by have := HLN.out; omega
    have hcp := ho1.caps
    have ho : OR w1 (w.heap.size + 1 + 1) (.slice A1 n1 cap1) (tb R C f) := OR.mono (xs := tb R C f) ho1 Ks
    have hR2 : BM ((w1.alloc (.cells #[.int .i64 R, .int .i64 C, .slice A1 n1 cap1] 26)).alloc (.cells #[.int .i64 R, .int .i64 R, .slice A2 n2 cap2] 26)) (w.heap.size + 1) 0 0 none 0 0 := Kb hR0
    have hM2 : BM ((w1.alloc (.cells #[.int .i64 R, .int .i64 C, .slice A1 n1 cap1] 26)).alloc (.cells #[.int .i64 R, .int .i64 R, .slice A2 n2 cap2] 26)) w1.heap.size R C A1 n1 cap1 := Ka
    have ho2 : OR ((w1.alloc (.cells #[.int .i64 R, .int .i64 C, .slice A1 n1 cap1] 26)).alloc (.cells #[.int .i64 R, .int .i64 R, .slice A2 n2 cap2] 26)) (w.heap.size + 1 + 1) (.slice A1 n1 cap1) (tb R C f) := Ko ho
    have HO : Hid (Own (.slice A1 n1 cap1) (w.heap.size + 1 + 1) w1.heap.size) := Lib.hid ho.own
    have hbw2 : Below w.heap.size w ((w1.alloc (.cells #[.int .i64 R, .int .i64 C, .slice A1 n1 cap1] 26)).alloc (.cells #[.int .i64 R, .int .i64 R, .slice A2 n2 cap2] 26)) := Kw
    have hsz2 : w1.heap.size + 1 + 1 ≤ ((w1.alloc (.cells #[.int .i64 R, .int .i64 C, .slice A1 n1 cap1] 26)).alloc (.cells #[.int .i64 R, .int .i64 R, .slice A2 n2 cap2] 26)).heap.size := by simp
    clear hb1 ho1 ho hR0 hbw
    go_wp2_with fail
    generalize ((w1.alloc (.cells #[.int .i64 R, .int .i64 C, .slice A1 n1 cap1] 26)).alloc (.cells #[.int .i64 R, .int .i64 R, .slice A2 n2 cap2] 26)) = w2 at *
    generalize w1.heap.size = bH at *
    obtain ⟨ra, rb, rc, rf, rl⟩ := hR2.mx
    obtain ⟨oa, ob, oc, of, ol⟩ := hM2.mx
    go_wp2_with fail
    refine (spec_l12Rows R C A1 n1 cap1 (tb R C f) _ (B := w2.heap.size) ho2.reads (Nat.le_refl _) (by omega) (tb_len _ _ _) hR hC).mono ?_
    rw [HL.out]
    rintro e w3 ⟨rfl, hb3⟩
    have hR3 : BM w3 (w.heap.size + 1) 0 0 none 0 0 := Kb hR2
    have hM3 : BM w3 bH R C A1 n1 cap1 := Kb hM2
    have ho3 : OR w3 (w.heap.size + 1 + 1) (.slice A1 n1 cap1) (tb R C f) := Ko ho2
    have hbw3 : Below w.heap.size w w3 := Kw
    have hsz3 := hb3.size
    have hlr := hR2.lt
    clear hR2 hM2 ho2 hbw2 hb3 ra rb rc rf rl oa ob oc of ol
    obtain ⟨ra, rb, rc, rf, rl⟩ := hR3.mx
    obtain ⟨oa, ob, oc, of, ol⟩ := hM3.mx
    go_wp2_with fail
    have e1 : (t : Int) * (C : Int) = ((t * C : Nat) : Int) := by rw [Int.natCast_mul]
    have e2 : 0 ≤ (t : Int) * (C : Int) ∧ (t : Int) * (C : Int) ≤ n1 ∧ (t : Int) * (C : Int) ≤ cap1 ∧ (t : Int) * (C : Int) ≤ 10000 := by omega
    obtain ⟨e3, e4, e5, e6⟩ := e2
    have e7 : IntKind.i64.wrap ((t : Int) * (C : Int)) = (t : Int) * (C : Int) := IntWalk.i64_in _ (by omega)
    have HQ : Hid (((t : Int) * (C : Int)).toNat = t * C) := Lib.hid (by omega)
    have hsl : RI w3 w3.heap.size A1 (((t : Int) * (C : Int)).toNat) (tb t C f) := by
      rw [HQ.out, ← HF.out]
      exact ho3.reads.upto (by have := HLN.out; omega)
    have HSL := Lib.hid hsl
    have hws : w.heap.size ≤ w3.heap.size := by omega
    have hne1 : ¬ bH = w.heap.size + 1 := by omega
    have hne2 : ¬ w.heap.size + 1 = bH := by omega
    clear hsl e1
    ((refine wp_region_held_drew (S := (fun w' => w'.cell? ⟨bH, 1, none⟩ = some (.int .i64 C) ∧ w'.cell? ⟨bH, 2, none⟩ = some (.slice A1 n1 cap1))) (by kernel_rfl) ?_ (fun hHeld => ?_)); ((focus ((try dsimp only); ((first | go_keep | exact ⟨x1, x2⟩ | (simp [go_sem, hne1, hne2, x1, x2]; done)))))); ((refine tk_ (i := 0) (v := ?_) (y := Or.inl ⟨by rfl, ?_⟩) (h := ?_); rotate_left; (focus (((intro w hSw; (try dsimp only at hSw); go_simp) <;> (try with_reducible rfl)); done)); (try simp only [Act.put, p1_, p2_, p3_]))); ((refine tk_ (i := 1) (v := ?_) (y := Or.inl ⟨by rfl, ?_⟩) (h := ?_); rotate_left; (focus (((intro w hSw; (try dsimp only at hSw); go_simp) <;> (try with_reducible rfl)); done)); (try simp only [Act.put, p1_, p2_, p3_]))); ((refine tk_ (i := 2) (v := ?_) (y := Or.inl ⟨by rfl, ?_⟩) (h := ?_); rotate_left; (focus (((intro w hSw; (try dsimp only at hSw); go_simp) <;> (try with_reducible rfl)); done)); (try simp only [Act.put, p1_, p2_, p3_]))); ((refine tk_ (i := 4) (v := ?_) (y := Or.inl ⟨by rfl, ?_⟩) (h := ?_); rotate_left; (focus (((intro w hSw; (try dsimp only at hSw); go_simp) <;> (try with_reducible rfl)); done)); (try simp only [Act.put, p1_, p2_, p3_]))); ((refine tk_ (i := 5) (v := ?_) (y := Or.inl ⟨by rfl, ?_⟩) (h := ?_); rotate_left; (focus (((intro w hSw; (try dsimp only at hSw); go_simp) <;> (try with_reducible rfl)); done)); (try simp only [Act.put, p1_, p2_, p3_]))); ((refine tk_ (i := 6) (v := ?_) (y := Or.inl ⟨by rfl, ?_⟩) (h := ?_); rotate_left; (focus (((intro w hSw; (try dsimp only at hSw); go_simp) <;> (try with_reducible rfl)); done)); (try simp only [Act.put, p1_, p2_, p3_]))); ((refine tk_ (i := 7) (v := ?_) (y := Or.inl ⟨by rfl, ?_⟩) (h := ?_); rotate_left; (focus (((intro w hSw; (try dsimp only at hSw); go_simp) <;> (try with_reducible rfl)); done)); (try simp only [Act.put, p1_, p2_, p3_]))); ((refine tk_ (i := 8) (v := ?_) (y := Or.inl ⟨by rfl, ?_⟩) (h := ?_); rotate_left; (focus (((intro w hSw; (try dsimp only at hSw); go_simp) <;> (try with_reducible rfl)); done)); (try simp only [Act.put, p1_, p2_, p3_]))); ((refine tk_ (i := 9) (v := ?_) (y := Or.inl ⟨by rfl, ?_⟩) (h := ?_); rotate_left; (focus (((intro w hSw; (try dsimp only at hSw); go_simp) <;> (try with_reducible rfl)); done)); (try simp only [Act.put, p1_, p2_, p3_]))); ((refine tk_ (i := 10) (v := ?_) (y := Or.inl ⟨by rfl, ?_⟩) (h := ?_); rotate_left; (focus (((intro w hSw; (try dsimp only at hSw); go_simp) <;> (try with_reducible rfl)); done)); (try simp only [Act.put, p1_, p2_, p3_]))); ((refine wpAnyH_ready (rs := [3]) (by kernel_rfl) (by simp) ?_; refine AllReadyH.cons (by simp only [e1_, e2_, e3_]; try rfl) (fun K hK => ?_) AllReadyH.nil; go_simp; (try go_wp2_with fail); refine hK.out _ _ ?_ (fun hHeld => ?_); (focus ((try dsimp only); ((first | go_keep | exact ⟨x1, x2⟩ | (simp [go_sem, hne1, hne2, x1, x2]; done))))); clear hK K; (try simp only [Act.put, p1_, p2_, p3_]))); ((refine wpAnyH_ready (rs := [11]) (by kernel_rfl) (by simp) ?_; refine AllReadyH.cons (by simp only [e1_, e2_, e3_]; try rfl) (fun K hK => ?_) AllReadyH.nil; (refine step_append_ints _ rfl (.tmp 22) (.tmp 29) rfl w3.heap.size _ [] rfl (by first | exact OR.drew (OR.empty' _ w3.heap.size (by simp) Ks) | exact OR.empty' _ w3.heap.size (by simp) Ks) w3.heap.size A1 _ _ (tb t C f) rfl (Kr HSL.out) (by have := HSL.out.len; simp; omega) Ks ?_; intro v1 w4 hown hgr hat; simp only [List.nil_append] at hown; go_loud (obtain ⟨A5, n5, c5, rfl⟩ := hown.sliceForm); go_loud (have hb4 : Below w3.heap.size _ w4 := only_below hgr Ks (by intro g h; cases h; exact Nat.le_refl _)); have hR4 : BM w4 (w.heap.size + 1) 0 0 none 0 0 := (Kb hR3); have hM4 : BM w4 bH R C A1 n1 cap1 := (Kb hM3); have hbw4 : Below w.heap.size w w4 := (by refine Below.trans ?_ (hb4.mono (by omega)); (repeat (first | (with_reducible (first | exact Below.refl _ _ | assumption | refine below_drewN ?_ _ | refine Below.drew ?_ | refine Below.alloc ?_ ?_ _ | refine Below.setCell ?_ ?_ _ | refine below_i ?_)) | go_size))); obtain ⟨x0, x1, x2, xf, xl⟩ := hM4.mx; obtain ⟨y0, y1, y2, yf, yl⟩ := hR4.mx); refine hK.out _ _ ?_ (fun hHeld => ?_); (focus ((try dsimp only); ((first | go_keep | exact ⟨x1, x2⟩ | (simp [go_sem, hne1, hne2, x1, x2]; done))))); clear hK K; (try simp only [Act.put, p1_, p2_, p3_]))); ((refine tk_ (i := 12) (v := ?_) (y := Or.inl ⟨by rfl, ?_⟩) (h := ?_); rotate_left; (focus (((intro w hSw; (try dsimp only at hSw); go_simp) <;> (try with_reducible rfl)); done)); (try simp only [Act.put, p1_, p2_, p3_]))); ((refine wpAnyH_ready (rs := [13]) (by kernel_rfl) (by simp) ?_; refine AllReadyH.cons (by simp only [e1_, e2_, e3_]; try rfl) (fun K hK => ?_) AllReadyH.nil; go_simp; (try go_wp2_with fail); refine hK.out _ _ ?_ (fun hHeld => ?_); (focus ((try dsimp only); ((first | go_keep | exact ⟨x1, x2⟩ | (simp [go_sem, hne1, hne2, x1, x2]; done))))); clear hK K; (try simp only [Act.put, p1_, p2_, p3_]))); ((refine tk_ (i := 14) (v := ?_) (y := Or.inl ⟨by rfl, ?_⟩) (h := ?_); rotate_left; (focus (((intro w hSw; (try dsimp only at hSw); go_simp) <;> (try with_reducible rfl)); done)); (try simp only [Act.put, p1_, p2_, p3_]))); (refine wpAnyH_done (by kernel_rfl) ?_ _))
    go_wp2_with fail
    refine ret_MB (r := t) (c := C) (A := A5) (n := n5) (cap := c5) Try.results87 rfl (BX.put (B3.of hR4)) rfl ?_
    exact MBR.mk rfl (OR.mono (B := w3.heap.size) (Ko hown) (by omega)) Kw
end Go.Proofs.Ytacjonkehcamgaa

/-
  DERIVED. MultiplyMatrices of the reference.
-/
namespace Go.Proofs.Ytacjonkehcamgaa
open Go.RowKit
set_option linter.unusedVariables false
set_option linter.unusedSimpArgs false
set_option maxRecDepth 100000 in
set_option maxHeartbeats 8000000 in
theorem spec_MultiplyMatrices (r c r2 c2 : Int) (A A' : Option Addr) (n cap n' cap' : Nat) (xs ys : List Int) (w : World) {B B' : Nat} (h : RI w B A n xs) (h' : RI w B' A' n' ys) (hB : B ≤ w.heap.size) (hB' : B' ≤ w.heap.size) (hn : n ≤ 1048576) (hn' : n' ≤ 1048576) :
    Calls Try.prog 228 #[.agg #[.int .i64 r, .int .i64 c, .slice A n cap], .agg #[.int .i64 r2, .int .i64 c2, .slice A' n' cap']] w (MBR (mulM r c xs r2 c2 ys) (mulB r c xs r2 c2 ys) w) := by
  have hlen := h.len
  have hlen' := h'.len
  have H2 := Lib.hid (h.more hB)
  have H3 := Lib.hid (h'.more hB')
  clear h h' hB hB'
  rcases mul_cases r c xs r2 c2 ys with ⟨hb0, hm⟩ | ⟨hb0, hm, hm2⟩ | ⟨hb0, hm, hm2, hne⟩ | ⟨hb0, hm, hm2, hne⟩
  · rw [mulM_no hb0, hb0]
    have HM := Lib.hid hm
    clear hb0 hm
    go_enter Try.func228, Try.ntmps228
    go_wp2_with fail
    (refine (spec_IsMatrix r c A n cap xs _ (C := w.heap.size) (Kr H2.out) Ks hn).mono ?_; rw [HM.out]; rintro e w1 ⟨rfl, hb⟩; have hsz := hb.size; simp at hsz; have hA : BM w1 w.heap.size r c A n cap := Ka; have hB : BM w1 (w.heap.size + 1) r2 c2 A' n' cap' := Ka; have hR : BM w1 (w.heap.size + 1 + 1) 0 0 none 0 0 := Ka; have hbw : Below w.heap.size w w1 := Kw; obtain ⟨aa, ab, ac, af, al⟩ := hA.mx; obtain ⟨ba, bb, bc, bf, bl⟩ := hB.mx; obtain ⟨ra, rb, rc, rf, rl⟩ := hR.mx)
    go_wp2_with fail
    refine ret_MB (r := 0) (c := 0) (A := none) (n := 0) (cap := 0) Try.results228 rfl (Kb hR) rfl ?_
    exact MBR.mk rfl (OR.nil_ _ _) Kw
  · rw [mulM_no hb0, hb0]
    have HM := Lib.hid hm
    have HM2 := Lib.hid hm2
    clear hb0 hm hm2
    go_enter Try.func228, Try.ntmps228
    go_wp2_with fail
    (refine (spec_IsMatrix r c A n cap xs _ (C := w.heap.size) (Kr H2.out) Ks hn).mono ?_; rw [HM.out]; rintro e w1 ⟨rfl, hb⟩; have hsz := hb.size; simp at hsz; have hA : BM w1 w.heap.size r c A n cap := Ka; have hB : BM w1 (w.heap.size + 1) r2 c2 A' n' cap' := Ka; have hR : BM w1 (w.heap.size + 1 + 1) 0 0 none 0 0 := Ka; have hbw : Below w.heap.size w w1 := Kw; obtain ⟨aa, ab, ac, af, al⟩ := hA.mx; obtain ⟨ba, bb, bc, bf, bl⟩ := hB.mx; obtain ⟨ra, rb, rc, rf, rl⟩ := hR.mx)
    go_wp2_with fail
    (refine (spec_IsMatrix r2 c2 A' n' cap' ys _ (C := w.heap.size) (Kr H3.out) Ks hn').mono ?_; rw [HM2.out]; rintro e w2 ⟨rfl, hb2⟩; have hsz2 := hb2.size; have hA2 : BM w2 w.heap.size r c A n cap := (Kb hA); have hB2 : BM w2 (w.heap.size + 1) r2 c2 A' n' cap' := (Kb hB); have hR2 : BM w2 (w.heap.size + 1 + 1) 0 0 none 0 0 := (Kb hR); have hbw2 : Below w.heap.size w w2 := Kw; clear hA hB hR hbw aa ab ac af al ba bb bc bf bl ra rb rc rf rl; obtain ⟨aa, ab, ac, af, al⟩ := hA2.mx; obtain ⟨ba, bb, bc, bf, bl⟩ := hB2.mx; obtain ⟨ra, rb, rc, rf, rl⟩ := hR2.mx)
    go_wp2_with fail
    refine ret_MB (r := 0) (c := 0) (A := none) (n := 0) (cap := 0) Try.results228 rfl (Kb hR2) rfl ?_
    exact MBR.mk rfl (OR.nil_ _ _) Kw
  · rw [mulM_no hb0, hb0]
    have HM := Lib.hid hm
    have HM2 := Lib.hid hm2
    have hnb : (c != r2) = true := by simpa using hne
    clear hb0 hm hm2 hne
    go_enter Try.func228, Try.ntmps228
    go_wp2_with fail
    (refine (spec_IsMatrix r c A n cap xs _ (C := w.heap.size) (Kr H2.out) Ks hn).mono ?_; rw [HM.out]; rintro e w1 ⟨rfl, hb⟩; have hsz := hb.size; simp at hsz; have hA : BM w1 w.heap.size r c A n cap := Ka; have hB : BM w1 (w.heap.size + 1) r2 c2 A' n' cap' := Ka; have hR : BM w1 (w.heap.size + 1 + 1) 0 0 none 0 0 := Ka; have hbw : Below w.heap.size w w1 := Kw; obtain ⟨aa, ab, ac, af, al⟩ := hA.mx; obtain ⟨ba, bb, bc, bf, bl⟩ := hB.mx; obtain ⟨ra, rb, rc, rf, rl⟩ := hR.mx)
    go_wp2_with fail
    (refine (spec_IsMatrix r2 c2 A' n' cap' ys _ (C := w.heap.size) (Kr H3.out) Ks hn').mono ?_; rw [HM2.out]; rintro e w2 ⟨rfl, hb2⟩; have hsz2 := hb2.size; have hA2 : BM w2 w.heap.size r c A n cap := (Kb hA); have hB2 : BM w2 (w.heap.size + 1) r2 c2 A' n' cap' := (Kb hB); have hR2 : BM w2 (w.heap.size + 1 + 1) 0 0 none 0 0 := (Kb hR); have hbw2 : Below w.heap.size w w2 := Kw; clear hA hB hR hbw aa ab ac af al ba bb bc bf bl ra rb rc rf rl; obtain ⟨aa, ab, ac, af, al⟩ := hA2.mx; obtain ⟨ba, bb, bc, bf, bl⟩ := hB2.mx; obtain ⟨ra, rb, rc, rf, rl⟩ := hR2.mx)
    go_wp2_with fail
    refine ret_MB (r := 0) (c := 0) (A := none) (n := 0) (cap := 0) Try.results228 rfl (Kb hR2) rfl ?_
    exact MBR.mk rfl (OR.nil_ _ _) Kw
  · subst hne
    have M := isMat_iff.1 hm
    have M2 := isMat_iff.1 hm2
    have HM := Lib.hid hm
    have HM2 := Lib.hid hm2
    have HB0 := Lib.hid hb0
    have HMM := Lib.hid M
    have HMM2 := Lib.hid M2
    obtain ⟨R, rfl⟩ := nat_of M.r0
    obtain ⟨C, rfl⟩ := nat_of M.c0
    obtain ⟨C2, rfl⟩ := nat_of M2.c0
    have hR' := M.r1
    have hC := M.c1
    have hC2 := M2.c1
    have hl1 : (n : Int) ≤ (R : Int) * (C : Int) ∧ (R : Int) * (C : Int) ≤ n := by have := M.len; omega
    have hl2 : (n' : Int) ≤ (C : Int) * (C2 : Int) ∧ (C : Int) * (C2 : Int) ≤ n' := by have := M2.len; omega
    have hLL : Hid ((mulL xs R C ys C2).length ≤ 576) := Lib.hid (by rw [mulL_len]; have := Nat.mul_le_mul (show R ≤ 24 by omega) (show C2 ≤ 24 by omega); omega)
    clear hm hm2 hb0 M M2 hlen hlen'
    go_enter Try.func228, Try.ntmps228
    go_wp2_with fail
    (refine (spec_IsMatrix R C A n cap xs _ (C := w.heap.size) (Kr H2.out) Ks hn).mono ?_; rw [HM.out]; rintro e w1 ⟨rfl, hb⟩; have hsz := hb.size; simp at hsz; have hA : BM w1 w.heap.size R C A n cap := Ka; have hB : BM w1 (w.heap.size + 1) C C2 A' n' cap' := Ka; have hR : BM w1 (w.heap.size + 1 + 1) 0 0 none 0 0 := Ka; have hbw : Below w.heap.size w w1 := Kw; obtain ⟨aa, ab, ac, af, al⟩ := hA.mx; obtain ⟨ba, bb, bc, bf, bl⟩ := hB.mx; obtain ⟨ra, rb, rc, rf, rl⟩ := hR.mx)
    go_wp2_with fail
    (refine (spec_IsMatrix C C2 A' n' cap' ys _ (C := w.heap.size) (Kr H3.out) Ks hn').mono ?_; rw [HM2.out]; rintro e w2 ⟨rfl, hb2⟩; have hsz2 := hb2.size; have hA2 : BM w2 w.heap.size R C A n cap := (Kb hA); have hB2 : BM w2 (w.heap.size + 1) C C2 A' n' cap' := (Kb hB); have hR2 : BM w2 (w.heap.size + 1 + 1) 0 0 none 0 0 := (Kb hR); have hbw2 : Below w.heap.size w w2 := Kw; clear hA hB hR hbw aa ab ac af al ba bb bc bf bl ra rb rc rf rl; obtain ⟨aa, ab, ac, af, al⟩ := hA2.mx; obtain ⟨ba, bb, bc, bf, bl⟩ := hB2.mx; obtain ⟨ra, rb, rc, rf, rl⟩ := hR2.mx)
    go_wp2_with fail
    refine (spec_l3Mul R C C2 A A' n cap n' cap' xs ys _ (B := w.heap.size) (B' := w.heap.size) (Kr H2.out) (Kr H3.out) Ks Ks hn hn' HMM.out HMM2.out).mono ?_
    rintro e w3 ⟨Ao, no, co, rfl, hown, hb3⟩
    have hsz3 := hb3.size
    have hno : no ≤ 1048576 := by have h8 : no = (mulL xs R C ys C2).length := hown.lenEq; have h9 := hLL.out; omega
    have hR3 : BM w3 (w.heap.size + 1 + 1) 0 0 none 0 0 := Kb hR2
    have hbw3 : Below w.heap.size w w3 := Kw
    have hown3 : OR w3 (w.heap.size + 1 + 1 + 1) (.slice Ao no co) (mulL xs R C ys C2) := hown.mono (by omega)
    clear hA2 hB2 hR2 hbw2 aa ab ac af al ba bb bc bf bl ra rb rc rf rl hown hb hb2 hb3
    go_wp2_with fail
    rcases hres : isMat R C2 (mulL xs R C ys C2) with _ | _
    all_goals
      have HRES := Lib.hid hres
      refine (spec_l3Done R C2 Ao no co _ _ (OR.reads (B := w.heap.size + 1 + 1 + 1) (Ko hown3)) (Nat.le_refl _) hno).mono ?_
      rw [HRES.out]
      first | rw [chkV_t] | rw [chkV_f]
      rintro e w5 ⟨rfl, hb5⟩
      have hsz5 := hb5.size
      have hR5 : BM w5 (w.heap.size + 1 + 1) 0 0 none 0 0 := Kb hR3
      have hfin5 : OR w5 (w.heap.size + 1 + 1 + 1) (.slice Ao no co) (mulL xs R C ys C2) := Ko hown3
      have hbw5 : Below w.heap.size w w5 := Kw
      obtain ⟨ra, rb, rc, rf, rl⟩ := hR5.mx
      clear hR3 hbw3 hb5 hres hown3
      go_wp2_with fail
    · have hb6 : mulB R C xs C C2 ys = false := by rw [HB0.out]; simpa using HRES.out
      rw [mulM_no hb6, hb6]
      refine ret_MB (r := 0) (c := 0) (A := none) (n := 0) (cap := 0) Try.results228 rfl (Kb hR5) rfl ?_
      exact MBR.mk rfl (OR.nil_ _ _) Kw
    · have hb6 : mulB R C xs C C2 ys = true := by rw [HB0.out]; simpa using HRES.out
      rw [mulM_yes hb6, hb6]
      refine ret_MB (r := R) (c := C2) (A := Ao) (n := no) (cap := co) Try.results228 rfl (Kb hR5) rfl ?_
      exact MBR.mk (xs := mulL xs R C ys C2) (by simp) (OR.mono (B := w.heap.size + 1 + 1 + 1) (Ko hfin5) (by omega)) Kw
end Go.Proofs.Ytacjonkehcamgaa

/-
  DERIVED. l14Times, IsSolution of the reference.
-/
namespace Go.Proofs.Ytacjonkehcamgaa
open Go.RowKit
set_option linter.unusedVariables false
set_option linter.unusedSimpArgs false
/-- The call returned an own slice and a flag. -/
def IBR (ys : List Int) (b : Bool) (w : World) (e : Ending) (w' : World) : Prop :=
  ∃ A n cap, e = .returned (.tuple #[.slice A n cap, .bool b]) ∧ OR w' w.heap.size (.slice A n cap) ys ∧ Below w.heap.size w w'
theorem IBR.mk {ys zs : List Int} {b : Bool} {A : Option Addr} {n cap : Nat} {w w' : World} (hz : ys = zs) (ho : OR w' w.heap.size (.slice A n cap) zs) (hb : Below w.heap.size w w') :
    IBR ys b w (.returned (.tuple #[.slice A n cap, .bool b])) w' := by subst hz; exact ⟨A, n, cap, rfl, ho, hb⟩
/-- Numbers solve a system. -/
def solB (r c : Int) (xs b x : List Int) : Bool := mulB r c xs x.length 1 x && eqB (mulM r c xs x.length 1 x).xs b
theorem mulM_len (r c : Int) (xs : List Int) (r2 c2 : Int) (ys : List Int) : (mulM r c xs r2 c2 ys).xs.length ≤ 576 := by
  unfold mulM
  split
  · rename_i h
    unfold mulB at h
    simp only [Bool.and_eq_true] at h
    have M := isMat_iff.1 h.1.1.1
    have M2 := isMat_iff.1 h.1.1.2
    show (mulL xs r.toNat c.toNat ys c2.toNat).length ≤ 576
    rw [mulL_len]
    have := Nat.mul_le_mul (show r.toNat ≤ 24 by have := M.r1; omega) (show c2.toNat ≤ 24 by have := M2.c1; omega)
    omega
  · simp [Mx.none]
set_option maxRecDepth 100000 in
set_option maxHeartbeats 4000000 in
theorem spec_l14Times (r c : Int) (A A3 : Option Addr) (n cap n3 cap3 : Nat) (xs x : List Int) (w : World) {B B3' : Nat} (h : RI w B A n xs) (h3 : RI w B3' A3 n3 x) (hB : B ≤ w.heap.size) (hB3 : B3' ≤ w.heap.size) (hn : n ≤ 1048576) (hn3 : n3 ≤ 1048576) :
    Calls Try.prog 193 #[.agg #[.int .i64 r, .int .i64 c, .slice A n cap], .slice A3 n3 cap3] w (IBR (mulM r c xs n3 1 x).xs (mulB r c xs n3 1 x) w) := by
  have H1 := Lib.hid (h.more hB)
  have H3 := Lib.hid (h3.more hB3)
  clear h h3 hB hB3
  rcases hres : mulB r c xs n3 1 x with _ | _
  all_goals
    have HRES := Lib.hid hres
    have HN := mulM_no (r := r) (c := c) (xs := xs) (r2 := n3) (c2 := 1) (ys := x)
    clear hres
    have HNO := Lib.hid HN
    clear HN
    go_enter Try.func193, Try.ntmps193
    go_wp2_with fail
    refine (spec_MultiplyMatrices r c n3 1 A A3 n cap n3 cap3 xs x _ (B := w.heap.size) (B' := w.heap.size) (Kr H1.out) (Kr H3.out) Ks Ks hn hn3).mono ?_
    rw [HRES.out]
    rintro e w2 ⟨Ar, nr, cr, rfl, ho, hb2⟩
    have hs2 := hb2.size
    simp at hs2
    have hbw2 : Below w.heap.size w w2 := Kw
    have hown : OR w2 w.heap.size (.slice Ar nr cr) (mulM r c xs n3 1 x).xs := ho.mono Ks
    clear ho hb2
    go_wp2_with fail
    go_ret2
  · exact IBR.mk (by rw [HNO.out HRES.out]; rfl) (OR.empty' _ _ (by simp) Ks) Kw
  · exact IBR.mk rfl (Ko hown) Kw
end Go.Proofs.Ytacjonkehcamgaa

/-
  DERIVED. FactorsOf of both.
-/
namespace Go.Proofs.Ytacjonkehcamgaa
open Go.RowKit
set_option linter.unusedVariables false
set_option linter.unusedSimpArgs false
theorem OR.shapeF {w : World} {B : Nat} {v : Value} {xs : List Int} (h : OR w B v xs) : ∃ A c, v = .slice A xs.length c := by
  rcases h.form with ⟨h1, h2⟩ | ⟨g, cap, h1, _⟩
  · subst h2; exact ⟨none, 0, h1⟩
  · exact ⟨_, _, h1⟩
/-- A number of the diagonal; 0 beyond it. -/
def dgF (R C : Nat) (f : Fn2) (i : Nat) : Int := if i < R ∧ i < C then f i i else 0
theorem dgF_in {R C i : Nat} {f : Fn2} (h : i < R) (h2 : i < C) : dgF R C f i = f i i := by unfold dgF; rw [if_pos ⟨h, h2⟩]
theorem dgF_out {R C i : Nat} {f : Fn2} (h : ¬ (i < R ∧ i < C)) : dgF R C f i = 0 := by unfold dgF; rw [if_neg h]
theorem dgF_num {R C i : Nat} {f : Fn2} (h : OKF R C f) : Num (dgF R C f i) := by
  unfold dgF
  split
  · rename_i h2; exact h i i h2.1 h2.2
  · unfold Num; omega
def facK (d : Nat → Int) : Nat → List Int
  | 0 => []
  | n + 1 => facK d n ++ (if d n = 0 then [] else [d n])
theorem facK_skip {d : Nat → Int} {n : Nat} (h : d n = 0) : facK d (n + 1) = facK d n := by
  show facK d n ++ (if _ then _ else _) = _
  rw [if_pos h, List.append_nil]
theorem facK_add {d : Nat → Int} {n : Nat} (h : d n ≠ 0) : facK d (n + 1) = facK d n ++ [d n] := by
  show facK d n ++ (if _ then _ else _) = _
  rw [if_neg h]
theorem facK_len (d : Nat → Int) : ∀ n, (facK d n).length ≤ n
  | 0 => Nat.le_refl _
  | n + 1 => by
    have := facK_len d n
    by_cases h : d n = 0
    · rw [facK_skip h]; omega
    · rw [facK_add h, List.length_append, List.length_singleton]; omega
theorem facK_beyond {d : Nat → Int} {m : Nat} (h : ∀ i, m ≤ i → d i = 0) : ∀ k, facK d (m + k) = facK d m
  | 0 => rfl
  | k + 1 => by rw [show m + (k + 1) = m + k + 1 by omega, facK_skip (h _ (by omega)), facK_beyond h k]
def facO (r c : Int) : Option SS → List Int
  | some s => facK (dgF r.toNat c.toNat s.f) (min r.toNat c.toNat)
  | none => []
def facV (r c : Int) (xs : List Int) : List Int := facO r c (sfX r c xs)
theorem facO_rows (R C : Nat) (s : SS) : facO R C (some s) = facK (dgF R C s.f) R := by
  show facK (dgF R C s.f) (min R C) = _
  have := facK_beyond (d := dgF R C s.f) (m := min R C) (fun i hi => dgF_out (by omega)) (R - min R C)
  rw [show min R C + (R - min R C) = R by omega] at this
  exact this.symm
theorem facV_len (r c : Int) (xs : List Int) : (facV r c xs).length ≤ 1048576 := by
  unfold facV
  rcases h : sfX r c xs with _ | s
  · exact Nat.zero_le _
  · rcases hm : isMat r c xs with _ | _
    · rw [sfX_no hm] at h; cases h
    · have M := isMat_iff.1 hm
      have h1 := facK_len (dgF r.toNat c.toNat s.f) (min r.toNat c.toNat)
      have := M.r1
      show (facK _ _).length ≤ _
      omega
theorem impl_diagonal (R C i : Nat) (A : Option Addr) (n cap : Nat) (f : Fn2) (w : World) {B : Nat} (h : OR w B (.slice A n cap) (tb R C f)) (hi : i ≤ 100) (hR : R ≤ 24) (hC : C ≤ 24) :
    Calls Try.prog 101 #[.agg #[.int .i64 R, .int .i64 C, .slice A n cap], .int .i64 i] w (BV (.int .i64 (dgF R C f i)) w) := by
  by_cases h1 : i < R
  · by_cases h2 : i < C
    · rw [dgF_in h1 h2]
      generalize hv : f i i = v
      have HV := Lib.hid hv
      clear hv
      go_enter Try.func101, Try.ntmps101
      go_wp2_with fail
      refine (impl_at_tb R C i i A n cap f v HV.out _ (B := B) (Ko h) (by omega) (by omega) h1 h2).mono ?_
      rintro e w1 ⟨rfl, hb1⟩
      go_wp2_with fail
      go_ret
      exact BV.mk rfl Kw
    · rw [dgF_out (by omega)]
      go_enter Try.func101, Try.ntmps101
      go_wp2_with fail
      go_ret
      exact BV.mk rfl Kw
  · rw [dgF_out (by omega)]
    go_enter Try.func101, Try.ntmps101
    go_wp2_with fail
    go_ret
    exact BV.mk rfl Kw
end Go.Proofs.Ytacjonkehcamgaa

/-
  DERIVED. The Hermite form, the echelon form and the Smith form have as many rows that are not zeros. No program in sight.
-/
namespace Go.Proofs.Ytacjonkehcamgaa
set_option linter.unusedVariables false
/-- The rank is r. -/
structure RKE (R C : Nat) (f : Fn2) (r : Nat) : Prop where
  up : RKs R C r f
  dn : ∀ n, RKs R C n f → r ≤ n
theorem RKE.uniq {R C : Nat} {f : Fn2} {r s : Nat} (h : RKE R C f r) (k : RKE R C f s) : r = s := Nat.le_antisymm (h.dn _ k.up) (k.dn _ h.up)
theorem RKE.turn {R C : Nat} {f : Fn2} {r : Nat} (h : RKE R C f r) : RKE C R (fun a b => f b a) r := ⟨h.up.turn, fun n hn => h.dn n hn.turn⟩
theorem RKE.congr {R C : Nat} {f g : Fn2} {r : Nat} (h : RKE R C f r) (e : EqM R C g f) : RKE R C g r := ⟨h.up.congr e, fun n hn => h.dn n (hn.congr fun i j hi hj => (e i j hi hj).symm)⟩
theorem QSP.rk {R S C n : Nat} {f g : Fn2} (q : QSP R S C f g) : RKs R C n f ↔ RKs S C n g := ⟨fun h => h.span q.2, fun h => h.span q.1⟩
theorem RKE.span {R S C r : Nat} {f g : Fn2} (h : RKE S C g r) (q : QSP R S C f g) : RKE R C f r := ⟨q.rk.2 h.up, fun n hn => h.dn n (q.rk.1 hn)⟩
theorem EF.rke {R C r : Nat} {p : Nat → Nat} {f : Fn2} (H : EF R C r p f) : RKE R C f r := ⟨H.rk, fun _ hn => H.rk_le hn⟩
theorem eo_rke {R C : Nat} {xs : List Int} {s : QSt} (h : eoX R C xs = some s) : RKE R C (fun i j => cel xs C i j) s.ps.length := ⟨(eo_rk h).1, (eo_rk h).2⟩
theorem HF.rke {R C t : Nat} {p : Nat → Nat} {f : Fn2} (H : HF R C t p f) : RKE R C f t := by
  have hle := H.le
  have hi : Ind t C f := fun z hz k hk => by
    have := H.coef (c := fun k => if k < t then z k else 0) (v := fun _ => 0) (fun y hy => by
      have hs : ∀ m, t ≤ m → sumTo (fun k => (if k < t then z k else 0) * f k y) m = sumTo (fun k => z k * f k y) t := fun m => by
        induction m with
        | zero => intro hm; obtain rfl : t = 0 := by omega
                  rfl
        | succ m ih =>
          intro hm
          by_cases e : t = m + 1
          · subst e
            exact sumTo_congr (m + 1) fun k hk => by rw [if_pos hk]
          · rw [sumTo_succ, ih (by omega), if_neg (by omega), Int.zero_mul, Int.add_zero]
      rw [hs R hle, hz y hy]) t (Nat.le_refl _) (fun k hk => by have := H.pos k hk; show (0 : Int).natAbs < _; omega) k hk
    simpa [hk] using this
  exact ⟨⟨f, fun i hi => by
    rcases Nat.lt_or_ge i t with h | h
    · exact QS.row h
    · exact QS.zero fun y hy => H.zero i y h hi hy⟩, fun n hn => hi.rk_le hle hn⟩
theorem gd_startR {R C : Nat} {xs : List Int} (M : IsM R C xs) : GD R C ⟨fun i j => cel xs C i j, idF⟩ :=
  ⟨⟨fun i j hi hj => by show Num (cel xs C i j); rw [cel_nat]; exact M.nums _, fun i j _ _ => by show Num (idF i j); unfold idF; split <;> exact ⟨by decide, by decide⟩⟩, ⟨fun i j => by
    show NB (cel xs C i j)
    rw [cel_nat]
    have := M.nums (i * C + j)
    exact .inr ⟨by omega, by omega⟩, fun i j => by show NB (idF i j); unfold idF; split <;> exact .inr ⟨by decide, by decide⟩⟩⟩
theorem hm_rke {R C : Nat} {xs : List Int} {s : HS} {t : Nat} (h : hmX R C xs = some (s, t)) : RKE R C (fun i j => cel xs C i j) t := by
  unfold hmX at h
  split at h
  · rename_i hm
    have M := isMat_iff.1 hm
    simp only [Int.toNat_natCast] at h
    obtain ⟨⟨p, H⟩, a2, -, -⟩ := hmRun_he (gd_startR M) h
    exact H.rke.span (QSP.of a2)
  · cases h
theorem rk_add {R C n i j : Nat} {t : Int} {f : Fn2} (hk : OKF R C (opA f i j t)) (hi : i < R) (hj : j < R) (hij : i ≠ j) : RKs R C n (opA f i j t) ↔ RKs R C n f := by
  have K : CMB C f (opA f i j t) i j 1 1 t := ⟨by decide, by decide, fun c hc => by rw [opA_val hk hi hc]; grind, fun x hx => by funext y; exact opA_other hx⟩
  exact (K.span hi hj hij).rk.symm
theorem rk_swap {R C n i j : Nat} {f : Fn2} (hi : i < R) (hj : j < R) : RKs R C n (swF f i j) ↔ RKs R C n f := (QSP.swap hi hj).rk.symm
theorem rk_neg {R C n i : Nat} {f : Fn2} (hk : OKF R C f) (hi : i < R) : RKs R C n (opM f i) ↔ RKs R C n f := by
  refine (QSP.scale (f := f) (g := opM f i) fun x hx => ?_).rk.symm
  by_cases e : x = i
  · subst e
    exact ⟨-1, by decide, fun y hy => by rw [opM_at (hk x y hx hy)]; omega⟩
  · exact ⟨1, by decide, fun y hy => by unfold opM; rw [if_neg e]; omega⟩
theorem rk_tp {R C n : Nat} {f : Fn2} : RKs C R n (tp f) ↔ RKs R C n f := ⟨fun h => h.turn, fun h => h.turn⟩
def PRK (R C : Nat) (f0 : Fn2) (s : SS) : Prop := ∀ n, RKs R C n s.f ↔ RKs R C n f0
theorem PRK.stays (R C t0 : Nat) (f0 : Fn2) : Stays R C t0 (PRK R C f0) where
  radd := fun s i j t hi hj _ _ hij hg hk hP n => (rk_add (f := s.f) hk.f hi hj hij).trans (hP n)
  rswap := fun s i j hi hj _ _ hij hg hP n => (rk_swap (f := s.f) hi hj).trans (hP n)
  rneg := fun s i hi _ hg hP n => (rk_neg (f := s.f) hg.ok.f hi).trans (hP n)
  cadd := fun s i j t hi hj _ _ hij hg hk hP n => by
    show RKs R C n (tp (opA (tp s.f) i j t)) ↔ _
    exact ((rk_tp (f := opA (tp s.f) i j t)).trans ((rk_add (f := tp s.f) (tp_ok hk.f) hi hj hij).trans rk_tp)).trans (hP n)
  cswap := fun s i j hi hj _ _ hij hg hP n => by
    show RKs R C n (tp (swF (tp s.f) i j)) ↔ _
    exact ((rk_tp (f := swF (tp s.f) i j)).trans ((rk_swap (f := tp s.f) hi hj).trans rk_tp)).trans (hP n)
/-- In a chain of divisors those that are not 0 come first. -/
theorem chain_len {d : Nat → Int} : ∀ m, (∀ a, a + 1 < m → d a ∣ d (a + 1)) → ∃ k, k ≤ m ∧ (∀ a, a < k → d a ≠ 0) ∧ (∀ a, k ≤ a → a < m → d a = 0) ∧ (facK d m).length = k
  | 0, _ => ⟨0, Nat.le_refl _, fun a ha => absurd ha (Nat.not_lt_zero _), fun a _ ha => absurd ha (Nat.not_lt_zero _), rfl⟩
  | m + 1, h => by
    obtain ⟨k, h1, h2, h3, h4⟩ := chain_len m fun a ha => h a (by omega)
    by_cases hd : d m = 0
    · refine ⟨k, by omega, h2, fun a ha hm => ?_, by rw [facK_skip hd]; exact h4⟩
      by_cases e : a = m
      · rw [e]; exact hd
      · exact h3 a ha (by omega)
    · have hk : k = m := by
        rcases Nat.lt_or_ge k m with hlt | hge
        · exfalso
          have h5 := h3 (m - 1) (by omega) (by omega)
          have h6 := h (m - 1) (by omega)
          rw [show m - 1 + 1 = m by omega, h5] at h6
          exact hd (Int.zero_dvd.1 h6)
        · omega
      subst hk
      refine ⟨k + 1, Nat.le_refl _, fun a ha => ?_, fun a ha hm => by omega, ?_⟩
      · by_cases e : a = k
        · rw [e]; exact hd
        · exact h2 a (by omega)
      · show (facK d k ++ (if d k = 0 then [] else [d k])).length = k + 1
        rw [if_neg hd, List.length_append, h4]; rfl
theorem sf_rke {R C : Nat} {xs : List Int} {s : SS} (h : sfX R C xs = some s) : RKE R C (fun i j => cel xs C i j) (facV R C xs).length := by
  have hP : PRK R C (fun i j => cel xs C i j) s := Stays.all (fun t => PRK.stays R C t _) h (fun n => Iff.rfl)
  obtain ⟨d1, d2⟩ := sfX_dia h
  have hdg := sfX_diag h
  obtain ⟨k, h1, h2, h3, h4⟩ := chain_len (d := dgF R C s.f) (min R C) (fun a ha => by
    rw [dgF_in (by omega) (by omega), dgF_in (by omega) (by omega)]
    exact d2 a (by omega) (by omega))
  have hl : (facV R C xs).length = k := by
    unfold facV
    rw [h]
    show (facK (dgF (R : Int).toNat (C : Int).toNat s.f) (min (R : Int).toNat (C : Int).toNat)).length = k
    simp only [Int.toNat_natCast]
    exact h4
  have H : EF R C k id s.f := by
    refine ⟨by omega, fun i hi => by show i < C; omega, fun i j hij _ => hij, fun i y hi hy => ?_, fun i hi => ?_, fun i x hi hx hne => ?_, fun i y h5 h6 h7 => ?_⟩
    · have hy' : y < i := hy
      exact hdg i y (by omega) (by omega) (by omega)
    · have := h2 i hi
      rwa [dgF_in (by omega) (by omega)] at this
    · show s.f x i = 0
      exact hdg x i hx (by omega) hne
    · by_cases e : i = y
      · subst e
        have := h3 i h5 (by omega)
        rwa [dgF_in h6 h7] at this
      · exact hdg i y h6 h7 e
  rw [hl]
  exact ⟨(hP k).1 H.rk, fun n hn => H.rk_le ((hP n).2 hn)⟩
end Go.Proofs.Ytacjonkehcamgaa

/-
  DERIVED. The law FnCore: a system that is written, read, solved by all roads, put in and written again.
-/
import Derived.Test.YtlggfmfelakadaaGreatDoorc9
import Derived.Test.YtlggfmfelakadaaGreatDoorc1
import Derived.Test.YtlggfmfelakadaaGreatDoorc7
import Derived.Test.YtlggfmfelakadaaGreatDoorSolDIx
import Derived.Test.YtlggfmfelakadaaGreatDoorLfIx
import Derived.Test.YtlggfmfelakadaaGreatDoorDbJx
import Derived.Test.YtlggfmfelakadaaGreatDoorIsRatx
import Derived.Test.YtlggfmfelakadaaGreatDoorc3
namespace Go.Proofs.YtlggfmfelakadaaGreatDoor
open Go.RowKit
set_option linter.unusedVariables false
set_option linter.unusedSimpArgs false
theorem lsN_le2 {r : Int} {o : Option (List Int)} (h : r ≤ 1000) : lsN r o ≤ 1000 := by unfold lsN; split <;> omega
set_option maxRecDepth 100000 in
set_option maxHeartbeats 16000000 in
theorem law_FnCore (w : World) (A : Option Addr) (n cap : Nat) (xs : List Int) (hnc : n ≤ cap) (hcm : cap ≤ maxLen) (hby : RB w w.heap.size A n xs) (hv : LV w) :
    Calls Tryz.prog 3 #[.slice A n cap] w fun e w' => e = .returned (.bool true) ∧ Below w.heap.size w w' := by
  by_cases hn : 1048576 < n
  · go_enter Tryz.func3, Tryz.ntmps3
    go_wp2_with (go_at_call 4; refine (laws_big A n cap _).mono ?_; rintro e w1 ⟨rfl, rfl⟩)
    go_ret
    exact ⟨rfl, Below.refl _ _⟩
  · go_enter Tryz.func3, Tryz.ntmps3
    go_wp2_with (go_at_call 4; refine (laws_big A n cap _).mono ?_; rintro e w1 ⟨rfl, rfl⟩)
    refine (spec_DrawSolveByLifting n cap A xs _ hby (by omega)).mono ?_
    rintro e w1 ⟨r, c, A1, n1, c1, ys, Ab, nb, cb, zs, rfl, ho1, ho2, hl1, hl2, hr1, hbw0⟩
    have hsz := hbw0.size
    have e1 := ho1.lenEq
    have e2 := ho2.lenEq
    obtain ⟨e3, e4⟩ := ho1.caps
    obtain ⟨e5, e6⟩ := ho2.caps
    have H1 : Hid (RI (w1.alloc (.cells #[.int .i64 r, .int .i64 c, .slice A1 n1 c1] 26)) (w1.alloc (.cells #[.int .i64 r, .int .i64 c, .slice A1 n1 c1] 26)).heap.size A1 n1 ys) := Lib.hid ((ho1.alloc _).reads)
    have HB : Hid (RI (w1.alloc (.cells #[.int .i64 r, .int .i64 c, .slice A1 n1 c1] 26)) (w1.alloc (.cells #[.int .i64 r, .int .i64 c, .slice A1 n1 c1] 26)).heap.size Ab nb zs) := Lib.hid ((ho2.alloc _).reads)
    have hM : BM (w1.alloc (.cells #[.int .i64 r, .int .i64 c, .slice A1 n1 c1] 26)) w1.heap.size r c A1 n1 c1 := Ka
    have n1x : n1 ≤ 17 := by omega
    have nbx : nb ≤ 1001 := by omega
    have HB0 : Hid (Below w.heap.size w (w1.alloc (.cells #[.int .i64 r, .int .i64 c, .slice A1 n1 c1] 26))) := Lib.hid (hbw0.alloc hsz _)
    have hv0 := LV.below hv HB0.out hv.lo
    have HNB := Lib.hid e2
    clear hbw0 ho1 ho2 hby e1 e2 hl1 hl2
    obtain ⟨ma, mb, mc, mf, ml⟩ := hM.mx
    go_wp2_with fail
    generalize (w1.alloc (.cells #[.int .i64 r, .int .i64 c, .slice A1 n1 c1] 26)) = w0 at *
    generalize w1.heap.size = bM at *
    have hbw : Below w0.heap.size w0 w0 := Below.refl _ _
    have hs0 : w.heap.size ≤ w0.heap.size := by have := HB0.out.size; omega
    have hlM := hM.lt
    clear hsz
    have hPA := impl_ParseMatrix_any r c ys
    have hPB := impl_ParseMatrix_any 1 nb zs
    have hst0 : isMat r c ys = false → fmT r c ys = [] := fun h => by unfold fmT; rw [h]; rfl
    have htt0 : isMat 1 nb zs = false → fmT 1 nb zs = [] := fun h => by unfold fmT; rw [h]; rfl
    have hma : isMat r c ys = true → pmX r c ys = ⟨r, c, ys⟩ := fun h => by unfold pmX; rw [if_pos h]
    have hmb : isMat 1 nb zs = true → pmX 1 nb zs = ⟨1, nb, zs⟩ := fun h => by unfold pmX; rw [if_pos h]
    have hFA := fun A n cap w B h h2 h3 h4 h5 h6 => impl_FormatMatrix_any r c A n cap ys w (B := B) h h2 h3 h4 h5 h6
    have hFB := fun A n cap w B h h2 h3 h4 h5 h6 => impl_FormatMatrix_any 1 nb A n cap zs w (B := B) h h2 h3 h4 h5 h6
    obtain ⟨st, h4⟩ : ∃ b, fmT r c ys = b := ⟨_, rfl⟩
    obtain ⟨tt, h5⟩ : ∃ b, fmT 1 nb zs = b := ⟨_, rfl⟩
    obtain ⟨⟨r', c', ys'⟩, h6⟩ : ∃ b, pmX r c ys = b := ⟨_, rfl⟩
    obtain ⟨⟨r2, c2, zs'⟩, h7⟩ : ∃ b, pmX 1 nb zs = b := ⟨_, rfl⟩
    obtain ⟨b1, h8⟩ : ∃ b, isMat r c ys = b := ⟨_, rfl⟩
    obtain ⟨b2, h9⟩ : ∃ b, isMat 1 nb zs = b := ⟨_, rfl⟩
    rw [h4, h6, h8] at hPA
    rw [h5, h7, h9] at hPB
    rw [h4, h8] at hst0
    rw [h5, h9] at htt0
    rw [h6, h8] at hma
    rw [h7, h9] at hmb
    rw [h4] at hFA
    rw [h5] at hFB
    have HS := Lib.hid (And.intro hst0 (And.intro htt0 (And.intro hma hmb)))
    have K8 := Lib.hid (And.intro h8 h9)
    clear hst0 htt0 hma hmb h4 h5 h6 h7 h8 h9
    refine (hFA A1 n1 c1 _ w0.heap.size (Kr H1.out) Ks e3 e4 (by omega) hv0).mono ?_
    rintro e w2 ⟨rfl, hb2⟩
    have hszw2 := hb2.size; (try simp at hszw2); have hM_1 : BM w2 bM r c A1 n1 c1 := (Kb hM); have H1_1 : Hid (RI w2 w0.heap.size A1 n1 ys) := Lib.hid (Kr H1.out); have HB_1 : Hid (RI w2 w0.heap.size Ab nb zs) := Lib.hid (Kr HB.out); have hbw_1 : Below w0.heap.size w0 w2 := Kw; clear hM hbw H1 HB ma mb mc mf ml hb2; have hM := hM_1; have H1 := H1_1; have HB := HB_1; have hbw := hbw_1; clear hM_1 H1_1 HB_1 hbw_1; obtain ⟨ma, mb, mc, mf, ml⟩ := hM.mx
    go_wp2_with fail
    refine (laws_row Ab nb cb _).mono ?_
    rintro e w3 ⟨rfl, hb3⟩
    have hszw3 := hb3.size; (try simp at hszw3); have hM_1 : BM w3 bM r c A1 n1 c1 := (Kb hM); have H1_1 : Hid (RI w3 w0.heap.size A1 n1 ys) := Lib.hid (Kr H1.out); have HB_1 : Hid (RI w3 w0.heap.size Ab nb zs) := Lib.hid (Kr HB.out); have hbw_1 : Below w0.heap.size w0 w3 := Kw; clear hM hbw H1 HB ma mb mc mf ml hb3; have hM := hM_1; have H1 := H1_1; have HB := HB_1; have hbw := hbw_1; clear hM_1 H1_1 HB_1 hbw_1; obtain ⟨ma, mb, mc, mf, ml⟩ := hM.mx
    go_wp2_with fail
    refine (hFB Ab nb cb _ w0.heap.size (Kr HB.out) Ks e5 e6 (by omega) (LV.below hv0 (C := w0.heap.size) Kw hv0.lo)).mono ?_
    rintro e w4 ⟨rfl, hb4⟩
    have hszw4 := hb4.size; (try simp at hszw4); have hM_1 : BM w4 bM r c A1 n1 c1 := (Kb hM); have H1_1 : Hid (RI w4 w0.heap.size A1 n1 ys) := Lib.hid (Kr H1.out); have HB_1 : Hid (RI w4 w0.heap.size Ab nb zs) := Lib.hid (Kr HB.out); have hbw_1 : Below w0.heap.size w0 w4 := Kw; clear hM hbw H1 HB ma mb mc mf ml hb4; have hM := hM_1; have H1 := H1_1; have HB := HB_1; have hbw := hbw_1; clear hM_1 H1_1 HB_1 hbw_1; obtain ⟨ma, mb, mc, mf, ml⟩ := hM.mx
    go_wp2_with fail
    refine (hPA _ (LV.below hv0 (C := w0.heap.size) Kw hv0.lo)).mono ?_
    rintro e w5 ⟨An, nn, cn, rfl, hon, hb5⟩
    dsimp only at hon ⊢
    have HN : Hid (RI w5 w5.heap.size An nn ys') := Lib.hid hon.reads
    have HNC := Lib.hid hon.caps
    clear hon
    have hszw5 := hb5.size; (try simp at hszw5); have hM_1 : BM w5 bM r c A1 n1 c1 := (Kb hM); have H1_1 : Hid (RI w5 w0.heap.size A1 n1 ys) := Lib.hid (Kr H1.out); have HB_1 : Hid (RI w5 w0.heap.size Ab nb zs) := Lib.hid (Kr HB.out); have hbw_1 : Below w0.heap.size w0 w5 := Kw; clear hM hbw H1 HB ma mb mc mf ml hb5; have hM := hM_1; have H1 := H1_1; have HB := HB_1; have hbw := hbw_1; clear hM_1 H1_1 HB_1 hbw_1; obtain ⟨ma, mb, mc, mf, ml⟩ := hM.mx
    go_wp2_with fail
    refine (hPB _ (LV.below hv0 (C := w0.heap.size) Kw hv0.lo)).mono ?_
    rintro e w6 ⟨Ac, nc, cc, rfl, hoc, hb6⟩
    dsimp only at hoc ⊢
    have hM7 : BM w6 w5.heap.size r' c' An nn cn := Ka
    have HN6 : Hid (RI w6 w5.heap.size An nn ys') := Lib.hid (Kr HN.out)
    have HC : Hid (RI w6 w6.heap.size Ac nc zs') := Lib.hid hoc.reads
    have HCC := Lib.hid hoc.caps
    clear HN hoc
    have hszw6 := hb6.size; (try simp at hszw6); have hM_1 : BM w6 bM r c A1 n1 c1 := (Kb hM); have H1_1 : Hid (RI w6 w0.heap.size A1 n1 ys) := Lib.hid (Kr H1.out); have HB_1 : Hid (RI w6 w0.heap.size Ab nb zs) := Lib.hid (Kr HB.out); have hbw_1 : Below w0.heap.size w0 w6 := Kw; clear hM hbw H1 HB ma mb mc mf ml hb6; have hM := hM_1; have H1 := H1_1; have HB := HB_1; have hbw := hbw_1; clear hM_1 H1_1 HB_1 hbw_1; obtain ⟨ma, mb, mc, mf, ml⟩ := hM.mx
    have hs56 : w5.heap.size < w6.heap.size := hM7.lt
    clear hPA hPB hFB
    rcases b1 with _ | _
    · have hse := HS.out.1 rfl
      subst hse
      go_wp2_with fail
      refine (spec_IsMatrix r c A1 n1 c1 ys _ (C := w0.heap.size) (Kr H1.out) Ks (by omega)).mono ?_
      rw [K8.out.1]
      rintro e w7 ⟨rfl, hb7⟩
      go_wp2_with fail
      go_ret
      exact ⟨rfl, HB0.out.trans (Below.mono (B := w0.heap.size) Kw hs0)⟩
    · rcases b2 with _ | _
      · have hse := HS.out.2.1 rfl
        subst hse
        go_wp2_with fail
        refine (spec_IsMatrix r c A1 n1 c1 ys _ (C := w0.heap.size) (Kr H1.out) Ks (by omega)).mono ?_
        rw [K8.out.1]
        rintro e w7 ⟨rfl, hb7⟩
        have hszw7 := hb7.size; (try simp at hszw7); have hM_1 : BM w7 bM r c A1 n1 c1 := (Kb hM); have H1_1 : Hid (RI w7 w0.heap.size A1 n1 ys) := Lib.hid (Kr H1.out); have HB_1 : Hid (RI w7 w0.heap.size Ab nb zs) := Lib.hid (Kr HB.out); have hbw_1 : Below w0.heap.size w0 w7 := Kw; clear hM hbw H1 HB ma mb mc mf ml hb7; have hM := hM_1; have H1 := H1_1; have HB := HB_1; have hbw := hbw_1; clear hM_1 H1_1 HB_1 hbw_1; obtain ⟨ma, mb, mc, mf, ml⟩ := hM.mx
        go_wp2_with fail
        refine (laws_row Ab nb cb _).mono ?_
        rintro e w8 ⟨rfl, hb8⟩
        have hszw8 := hb8.size; (try simp at hszw8); have hM_1 : BM w8 bM r c A1 n1 c1 := (Kb hM); have H1_1 : Hid (RI w8 w0.heap.size A1 n1 ys) := Lib.hid (Kr H1.out); have HB_1 : Hid (RI w8 w0.heap.size Ab nb zs) := Lib.hid (Kr HB.out); have hbw_1 : Below w0.heap.size w0 w8 := Kw; clear hM hbw H1 HB ma mb mc mf ml hb8; have hM := hM_1; have H1 := H1_1; have HB := HB_1; have hbw := hbw_1; clear hM_1 H1_1 HB_1 hbw_1; obtain ⟨ma, mb, mc, mf, ml⟩ := hM.mx
        go_wp2_with fail
        refine (spec_IsMatrix 1 nb Ab nb cb zs _ (C := w0.heap.size) (Kr HB.out) Ks (by omega)).mono ?_
        rw [K8.out.2]
        rintro e w9 ⟨rfl, hb9⟩
        have hszw9 := hb9.size; (try simp at hszw9); have hM_1 : BM w9 bM r c A1 n1 c1 := (Kb hM); have H1_1 : Hid (RI w9 w0.heap.size A1 n1 ys) := Lib.hid (Kr H1.out); have HB_1 : Hid (RI w9 w0.heap.size Ab nb zs) := Lib.hid (Kr HB.out); have hbw_1 : Below w0.heap.size w0 w9 := Kw; clear hM hbw H1 HB ma mb mc mf ml hb9; have hM := hM_1; have H1 := H1_1; have HB := HB_1; have hbw := hbw_1; clear hM_1 H1_1 HB_1 hbw_1; obtain ⟨ma, mb, mc, mf, ml⟩ := hM.mx
        go_wp2_with fail
        go_ret
        exact ⟨rfl, HB0.out.trans (Below.mono (B := w0.heap.size) Kw hs0)⟩
      · obtain ⟨hs1, hs2⟩ := HS.out.2.2
        have k1 := hs1 rfl
        have k2 := hs2 rfl
        injection k1 with k1a k1b k1c
        injection k2 with k2a k2b k2c
        subst k1a; subst k1b; subst k1c; subst k2a; subst k2b; subst k2c
        obtain ⟨pa, pb, pc, pf, pl⟩ := hM7.mx
        have hnn : nn ≤ 17 := by have a := HN6.out.1; have b := H1.out.1; omega
        have hnc2 : nc ≤ 1001 := by have a := HC.out.1; have b := HB.out.1; omega
        go_wp2_with fail
        refine (impl_SolveByLifting r' c' An Ac nn cn nc cc ys' zs' _ (B := w5.heap.size) (B' := w6.heap.size) (Kr HN6.out) (Kr HC.out) Ks Ks (by omega) (by omega)).mono ?_
        obtain ⟨o, ho⟩ : ∃ o, lsX r' c' ys' zs' = o := ⟨_, rfl⟩
        rw [ho]
        have HO := Lib.hid ho
        clear ho
        rintro e w7 ⟨Ax, mx_, cx, rfl, hof, hb7⟩
        have hM77 : BM w7 w5.heap.size r' c' An nn cn := Kb hM7
        have HN7 : Hid (RI w7 w5.heap.size An nn ys') := Lib.hid (Kr HN6.out)
        have HX : Hid (RI w7 w7.heap.size Ax (mx_ * 2) (o.getD [])) := Lib.hid hof.reads
        have hml := hof.lenEq
        have hmx : lsN r' o ≤ 1000 := lsN_le2 (by omega)
        have hm3 : mx_ ≤ 1000 := by omega
        have HML := Lib.hid hml
        clear hof HN6 HC hM7 pa pb pc pf pl hml hmx
        have hszw7 := hb7.size; (try simp at hszw7); have hM_1 : BM w7 bM r' c' A1 n1 c1 := (Kb hM); have H1_1 : Hid (RI w7 w0.heap.size A1 n1 ys') := Lib.hid (Kr H1.out); have HB_1 : Hid (RI w7 w0.heap.size Ab nb zs') := Lib.hid (Kr HB.out); have hbw_1 : Below w0.heap.size w0 w7 := Kw; clear hM hbw H1 HB ma mb mc mf ml hb7; have hM := hM_1; have H1 := H1_1; have HB := HB_1; have hbw := hbw_1; clear hM_1 H1_1 HB_1 hbw_1; obtain ⟨ma, mb, mc, mf, ml⟩ := hM.mx
        go_wp2_with fail
        refine (impl_SolveByDeterminants r' c' A1 Ab n1 c1 nb cb ys' zs' _ (B := w0.heap.size) (B' := w0.heap.size) (Kr H1.out) (Kr HB.out) Ks Ks (by omega) (by omega)).mono ?_
        obtain ⟨s1, h1⟩ : ∃ b, sdB r' c' ys' zs' = b := ⟨_, rfl⟩
        obtain ⟨s2, h2⟩ : ∃ b, sdN r' c' ys' zs' = b := ⟨_, rfl⟩
        obtain ⟨s3, h3⟩ : ∃ b, sdV r' c' ys' zs' = b := ⟨_, rfl⟩
        have hs2 : s2 ≤ 1048576 := by rw [← h2]; exact sdN_len
        rw [h1, h2, h3]
        have HSD := Lib.hid (And.intro h1 (And.intro h2 h3))
        clear h1 h2 h3
        rintro e w8 ⟨Ay, my, cy, rfl, hog, hb8⟩
        have hM8 : BM w8 w5.heap.size r' c' An nn cn := Kb hM77
        have HN8 : Hid (RI w8 w5.heap.size An nn ys') := Lib.hid (Kr HN7.out)
        have HX8 : Hid (RI w8 w7.heap.size Ax (mx_ * 2) (o.getD [])) := Lib.hid (Kr HX.out)
        have HY8 : Hid (RI w8 w8.heap.size Ay (my * 2) s3) := Lib.hid hog.reads
        have HMY := Lib.hid hog.lenEq
        clear hog hM77 HN7 HX
        have hszw8 := hb8.size; (try simp at hszw8); have hM_1 : BM w8 bM r' c' A1 n1 c1 := (Kb hM); have H1_1 : Hid (RI w8 w0.heap.size A1 n1 ys') := Lib.hid (Kr H1.out); have HB_1 : Hid (RI w8 w0.heap.size Ab nb zs') := Lib.hid (Kr HB.out); have hbw_1 : Below w0.heap.size w0 w8 := Kw; clear hM hbw H1 HB ma mb mc mf ml hb8; have hM := hM_1; have H1 := H1_1; have HB := HB_1; have hbw := hbw_1; clear hM_1 H1_1 HB_1 hbw_1; obtain ⟨ma, mb, mc, mf, ml⟩ := hM.mx
        rcases o with _ | q
        · have hz : mx_ = 0 := HML.out
          subst hz
          go_wp2_with fail
          go_ret
          exact ⟨rfl, HB0.out.trans (Below.mono (B := w0.heap.size) Kw hs0)⟩
        · have HCR := Lib.hid (core_crv HO.out)
          have HMR : Hid (mx_ = r'.toNat) := Lib.hid HML.out
          have HXq : Hid (RI w8 w7.heap.size Ax (mx_ * 2) q) := Lib.hid HX8.out
          have HYq := HY8
          have hs8 : w0.heap.size ≤ w8.heap.size := hbw.size
          have hs78 : w7.heap.size ≤ w8.heap.size := hszw8
          have hlM8 := hM.lt
          have hlN8 := hM8.lt
          have HMY2 := HMY
          clear HML HX8 HMY HS K8
          go_wp2_with fail
          go_loopw [15] (fun v wr => ∃ k : Nat, v = .int .i64 k ∧ k ≤ mx_ ∧ Below w8.heap.size w8 wr) (fun v _ => mx_ - (intOf v).toNat)
          case atStart => exact ⟨0, rfl, Nat.zero_le _, Below.refl _ _⟩
          case round =>
            obtain ⟨k, rfl, hk, hcur⟩ := hrel
            have hszr := hcur.size
            have hvr : LV wr := LV.below hv0 (C := w0.heap.size) (hbw.trans (hcur.mono hs8)) hv0.lo
            clear ma mb mc mf ml
            by_cases hlt : k < mx_
            · have hok := HCR.out.ok k (by have := HMR.out; omega)
              obtain ⟨b, o, rfl, hbb, hcells⟩ := HXq.out.2 (by omega)
              have hc1 := (hcur.cell (p := ⟨b, o + k * 2, none⟩) (by show b < _; omega)).trans (hcells (k * 2) (by omega))
              have hc2 := (hcur.cell (p := ⟨b, o + k * 2 + 1, none⟩) (by show b < _; omega)).trans (hcells (k * 2 + 1) (by omega))
              clear hcells
              unfold fl at hok
              generalize q.getD (k * 2) 0 = x at *
              generalize q.getD (k * 2 + 1) 0 = y at *
              have HOK := Lib.hid hok
              clear hok
              go_wp2_with fail
              refine (impl_FormatRatio x y HOK.out _ hvr).mono ?_
              rintro e w9 ⟨rfl, hb9⟩
              have hb9s := hb9.size
              have hc3 := (hb9.cell (p := ⟨b, o + k * 2, none⟩) (by show b < _; omega)).trans hc1
              have hc4 := (hb9.cell (p := ⟨b, o + k * 2 + 1, none⟩) (by show b < _; omega)).trans hc2
              have hcur9 : Below w8.heap.size w8 w9 := hcur.trans (hb9.mono hszr)
              have hv9 : LV w9 := LV.below hv0 (C := w0.heap.size) (hbw.trans (hcur9.mono hs8)) hv0.lo
              clear hc1 hc2
              go_wp2_with fail
              refine (impl_ParseRatio x y HOK.out _ hv9).mono ?_
              rintro e w10 ⟨rfl, hb10⟩
              have hb10s := hb10.size
              have hszr9 := hcur9.size
              have hc1 := (hb10.cell (p := ⟨b, o + k * 2, none⟩) (by show b < _; omega)).trans hc3
              have hc2 := (hb10.cell (p := ⟨b, o + k * 2 + 1, none⟩) (by show b < _; omega)).trans hc4
              have hcur10 : Below w8.heap.size w8 w10 := hcur9.trans (hb10.mono hszr9)
              have hszr10 := hcur10.size
              clear hc3 hc4 hb9 hb10 hvr hv9 hcur hcur9
              go_wp2_with fail
              have hbA : Below w10.heap.size w10 (w10.alloc (.cells #[.int .i64 x, .int .i64 y] 38)) := Kw
              have hc3 := (hbA.cell (p := ⟨b, o + k * 2, none⟩) (by show b < _; omega)).trans hc1
              have hc4 := (hbA.cell (p := ⟨b, o + k * 2 + 1, none⟩) (by show b < _; omega)).trans hc2
              have hQ : BQ (w10.alloc (.cells #[.int .i64 x, .int .i64 y] 38)) w10.heap.size x y := by (with_reducible (repeat (first | assumption | refine Blk.new_at _ _ _ _ Ks | refine Blk.below ?_ (by assumption) Ks | apply Blk.drew | apply Blk.drewN | refine Blk.far ?_ (by simp only [ne_eq]; omega) _ | apply Blk.alloc)))
              obtain ⟨q0, q1, qf, ql⟩ := hQ.cells
              have hcurA : Below w8.heap.size w8 (w10.alloc (.cells #[.int .i64 x, .int .i64 y] 38)) := hcur10.trans (hbA.mono hszr10)
              clear hbA hc1 hc2 hcur10 hQ
              generalize (w10.alloc (.cells #[.int .i64 x, .int .i64 y] 38)) = wA at *
              go_quiet (fail)
              go_wp2_with fail
              go_roundw
              case rel => exact ⟨k + 1, by go_num, by omega, Kw⟩
              case measure => simp only [intOf]; omega
            · have hM_r : BM wr bM r' c' A1 n1 c1 := BX.below hM hcur hlM8
              have hN_r : BM wr w5.heap.size r' c' An nn cn := BX.below hM8 hcur hlN8
              obtain ⟨ma, mb, mc, mf, ml⟩ := hM_r.mx
              obtain ⟨pa, pb, pc, pf, pl⟩ := hN_r.mx
              go_wp2_with fail
              refine (impl_DetImages r' c' An nn cn ys' _ (B := w5.heap.size) (RI.below HN8.out hcur (by omega)) (by omega) (by omega) HNC.out.1 (by have := HNC.out.2; omega)).mono ?_
              obtain ⟨od, hod⟩ : ∃ b, dbV r' c' ys' = b := ⟨_, rfl⟩
              have hdt := HCR.out.dt
              rw [hod] at hdt ⊢
              obtain ⟨dv, hd1⟩ : ∃ b, od.getD 0 = b := ⟨_, rfl⟩
              obtain ⟨ib, hd2⟩ : ∃ b, od.isSome = b := ⟨_, rfl⟩
              have hdz : ib = true → dv ≠ 0 := by
                intro hi
                rcases od with _ | d
                · rw [hi] at hd2; cases hd2
                · rw [← hd1]; exact hdt d rfl
              rw [hd1, hd2]
              have HDT := Lib.hid hdz
              clear hod hdt hdz hd1 hd2
              rintro e w11 ⟨rfl, hb11⟩
              have hcur_1 : Below w8.heap.size w8 w11 := Kw; have hsz_w11 := hcur_1.size; have hM_w11 : BM w11 bM r' c' A1 n1 c1 := (BX.below hM hcur_1 hlM8); have hN_w11 : BM w11 w5.heap.size r' c' An nn cn := (BX.below hM8 hcur_1 hlN8); (try clear ma mb mc mf ml); (try clear pa pb pc pf pl); obtain ⟨ma, mb, mc, mf, ml⟩ := hM_w11.mx; obtain ⟨pa, pb, pc, pf, pl⟩ := hN_w11.mx; clear hcur hb11; have hcur := hcur_1; clear hcur_1
              go_wp2_with fail
              have hir := HCR.out.ir
              refine (impl_IsRational r' c' A1 Ab Ax n1 c1 nb cb mx_ cx ys' zs' q _ (RI.below H1.out hcur (by omega)) (RI.below HB.out hcur (by omega)) (RI.below HXq.out hcur (by omega)) (by omega) (by omega) (by omega) (by omega) (by omega) (by omega)).mono ?_
              rw [hir]
              have HI := Lib.hid hir
              clear hir
              rintro e w12 ⟨rfl, hb12⟩
              have hcur_1 : Below w8.heap.size w8 w12 := Kw; have hsz_w12 := hcur_1.size; have hM_w12 : BM w12 bM r' c' A1 n1 c1 := (BX.below hM hcur_1 hlM8); have hN_w12 : BM w12 w5.heap.size r' c' An nn cn := (BX.below hM8 hcur_1 hlN8); (try clear ma mb mc mf ml); (try clear pa pb pc pf pl); obtain ⟨ma, mb, mc, mf, ml⟩ := hM_w12.mx; obtain ⟨pa, pb, pc, pf, pl⟩ := hN_w12.mx; clear hcur hb12; have hcur := hcur_1; clear hcur_1
              rcases s1 with _ | _
              · rcases ib with _ | _
                · go_wp2_with fail
                  refine (hFA An nn cn _ w5.heap.size (RI.below HN8.out hcur (by omega)) (by omega) HNC.out.1 (by have := HNC.out.2; omega) (by omega) (LV.below hv0 (C := w0.heap.size) (hbw.trans (hcur.mono hs8)) hv0.lo)).mono ?_
                  rintro e w14 ⟨rfl, hb14⟩
                  have hcur_1 : Below w8.heap.size w8 w14 := Kw; have hsz_w14 := hcur_1.size; have hM_w14 : BM w14 bM r' c' A1 n1 c1 := (BX.below hM hcur_1 hlM8); have hN_w14 : BM w14 w5.heap.size r' c' An nn cn := (BX.below hM8 hcur_1 hlN8); (try clear ma mb mc mf ml); (try clear pa pb pc pf pl); obtain ⟨ma, mb, mc, mf, ml⟩ := hM_w14.mx; obtain ⟨pa, pb, pc, pf, pl⟩ := hN_w14.mx; clear hcur hb14; have hcur := hcur_1; clear hcur_1
                  go_wp2_with fail
                  go_ret
                  have hbw := hbw.trans (hcur.mono hs8)
                  exact ⟨rfl, HB0.out.trans (Below.mono (B := w0.heap.size) Kw hs0)⟩
                · have hz := HDT.out rfl
                  have hz1 : (dv == 0) = false := by rw [beq_eq_false_iff_ne]; exact hz
                  have hz2 : (dv != 0) = true := by simp [hz]
                  go_wp2_with fail
                  refine (hFA An nn cn _ w5.heap.size (RI.below HN8.out hcur (by omega)) (by omega) HNC.out.1 (by have := HNC.out.2; omega) (by omega) (LV.below hv0 (C := w0.heap.size) (hbw.trans (hcur.mono hs8)) hv0.lo)).mono ?_
                  rintro e w14 ⟨rfl, hb14⟩
                  have hcur_1 : Below w8.heap.size w8 w14 := Kw; have hsz_w14 := hcur_1.size; have hM_w14 : BM w14 bM r' c' A1 n1 c1 := (BX.below hM hcur_1 hlM8); have hN_w14 : BM w14 w5.heap.size r' c' An nn cn := (BX.below hM8 hcur_1 hlN8); (try clear ma mb mc mf ml); (try clear pa pb pc pf pl); obtain ⟨ma, mb, mc, mf, ml⟩ := hM_w14.mx; obtain ⟨pa, pb, pc, pf, pl⟩ := hN_w14.mx; clear hcur hb14; have hcur := hcur_1; clear hcur_1
                  go_wp2_with fail
                  go_ret
                  have hbw := hbw.trans (hcur.mono hs8)
                  exact ⟨rfl, HB0.out.trans (Below.mono (B := w0.heap.size) Kw hs0)⟩
              · obtain ⟨hq1, hq2⟩ := HCR.out.sd HSD.out.1
                rw [HSD.out.2.1] at hq1
                rw [HSD.out.2.2] at hq2
                have hmy : my = mx_ := HMY2.trans (hq1.trans HMR.out.symm)
                clear HMY2 HMR
                subst hq2
                subst hmy
                go_wp2_with fail
                refine (laws_sameRatios Ax Ay _ _ _ _ _ (RI.below HXq.out hcur (by omega)) (RI.below HYq.out hcur (by omega)) (by omega) (by omega) (by omega)).mono ?_
                rintro e w13 ⟨rfl, hb13⟩
                have hcur_1 : Below w8.heap.size w8 w13 := Kw; have hsz_w13 := hcur_1.size; have hM_w13 : BM w13 bM r' c' A1 n1 c1 := (BX.below hM hcur_1 hlM8); have hN_w13 : BM w13 w5.heap.size r' c' An nn cn := (BX.below hM8 hcur_1 hlN8); (try clear ma mb mc mf ml); (try clear pa pb pc pf pl); obtain ⟨ma, mb, mc, mf, ml⟩ := hM_w13.mx; obtain ⟨pa, pb, pc, pf, pl⟩ := hN_w13.mx; clear hcur hb13; have hcur := hcur_1; clear hcur_1
                rcases ib with _ | _
                · go_wp2_with fail
                  refine (hFA An nn cn _ w5.heap.size (RI.below HN8.out hcur (by omega)) (by omega) HNC.out.1 (by have := HNC.out.2; omega) (by omega) (LV.below hv0 (C := w0.heap.size) (hbw.trans (hcur.mono hs8)) hv0.lo)).mono ?_
                  rintro e w14 ⟨rfl, hb14⟩
                  have hcur_1 : Below w8.heap.size w8 w14 := Kw; have hsz_w14 := hcur_1.size; have hM_w14 : BM w14 bM r' c' A1 n1 c1 := (BX.below hM hcur_1 hlM8); have hN_w14 : BM w14 w5.heap.size r' c' An nn cn := (BX.below hM8 hcur_1 hlN8); (try clear ma mb mc mf ml); (try clear pa pb pc pf pl); obtain ⟨ma, mb, mc, mf, ml⟩ := hM_w14.mx; obtain ⟨pa, pb, pc, pf, pl⟩ := hN_w14.mx; clear hcur hb14; have hcur := hcur_1; clear hcur_1
                  go_wp2_with fail
                  go_ret
                  have hbw := hbw.trans (hcur.mono hs8)
                  exact ⟨rfl, HB0.out.trans (Below.mono (B := w0.heap.size) Kw hs0)⟩
                · have hz := HDT.out rfl
                  have hz1 : (dv == 0) = false := by rw [beq_eq_false_iff_ne]; exact hz
                  have hz2 : (dv != 0) = true := by simp [hz]
                  go_wp2_with fail
                  refine (hFA An nn cn _ w5.heap.size (RI.below HN8.out hcur (by omega)) (by omega) HNC.out.1 (by have := HNC.out.2; omega) (by omega) (LV.below hv0 (C := w0.heap.size) (hbw.trans (hcur.mono hs8)) hv0.lo)).mono ?_
                  rintro e w14 ⟨rfl, hb14⟩
                  have hcur_1 : Below w8.heap.size w8 w14 := Kw; have hsz_w14 := hcur_1.size; have hM_w14 : BM w14 bM r' c' A1 n1 c1 := (BX.below hM hcur_1 hlM8); have hN_w14 : BM w14 w5.heap.size r' c' An nn cn := (BX.below hM8 hcur_1 hlN8); (try clear ma mb mc mf ml); (try clear pa pb pc pf pl); obtain ⟨ma, mb, mc, mf, ml⟩ := hM_w14.mx; obtain ⟨pa, pb, pc, pf, pl⟩ := hN_w14.mx; clear hcur hb14; have hcur := hcur_1; clear hcur_1
                  go_wp2_with fail
                  go_ret
                  have hbw := hbw.trans (hcur.mono hs8)
                  exact ⟨rfl, HB0.out.trans (Below.mono (B := w0.heap.size) Kw hs0)⟩
end Go.Proofs.YtlggfmfelakadaaGreatDoor

/-
  DERIVED. HermiteForm of the reference.
-/
import Derived.Test.YtpecjobpihinoaaHmS
import Derived.Test.YtpecjobpihinoaaIden
import Derived.Test.YtpecjobpihinoaaCopyS
namespace Go.Proofs.Ytpecjobpihinoaa
open Go.RowKit
set_option linter.unusedVariables false
set_option linter.unusedSimpArgs false
/-- The call's own variables: its argument and its two results. -/
structure HVS (w wr : World) (r c : Int) (A : Option Addr) (n cap : Nat) : Prop where
  m : BM wr w.heap.size r c A n cap
  r1 : BM wr (w.heap.size + 1) 0 0 none 0 0
  r2 : BM wr (w.heap.size + 1 + 1) 0 0 none 0 0
  b : Below w.heap.size w wr
section
variable {w wr w' : World} {r c : Int} {A : Option Addr} {n cap : Nat}
theorem HVS.lt (h : HVS w wr r c A n cap) : w.heap.size + 1 + 1 < wr.heap.size := h.r2.lt
theorem HVS.below {D : Nat} (h : HVS w wr r c A n cap) (hD : Below D wr w') (hs : w.heap.size + 1 + 1 + 1 ≤ D) : HVS w w' r c A n cap :=
  ⟨h.m.below hD (by omega), h.r1.below hD (by omega), h.r2.below hD (by omega), h.b.trans (hD.mono (by omega))⟩
theorem HVS.drew (h : HVS w wr r c A n cap) : HVS w wr.drew r c A n cap := ⟨h.m.drew, h.r1.drew, h.r2.drew, h.b.drew⟩
theorem HVS.drewN (h : HVS w wr r c A n cap) (q : Nat) : HVS w (wr.drewN q) r c A n cap := ⟨h.m.drewN q, h.r1.drewN q, h.r2.drewN q, below_drewN h.b q⟩
theorem HVS.alloc (h : HVS w wr r c A n cap) (o : Obj) : HVS w (wr.alloc o) r c A n cap :=
  have hl := h.lt
  ⟨h.m.alloc o, h.r1.alloc o, h.r2.alloc o, Below.alloc h.b (by omega) o⟩
end
set_option maxRecDepth 100000 in
set_option maxHeartbeats 8000000 in
theorem spec_HermiteForm (r c : Int) (A : Option Addr) (n cap : Nat) (xs : List Int) (w : World) {B : Nat} (h : RI w B A n xs) (hB : B ≤ w.heap.size) (hn : n ≤ 1048576) :
    Calls Try.prog 25 #[.agg #[.int .i64 r, .int .i64 c, .slice A n cap]] w (M2R (hmM r c xs) (hmU r c xs) (hmX r c xs).isSome w) := by
  unfold hmM hmU
  have hlen := h.len
  have H2 := Lib.hid (h.more hB)
  clear h
  rcases hm : isMat r c xs with _ | _
  · have HM := Lib.hid hm
    have HX := Lib.hid (hmX_no hm)
    clear hm
    generalize hmX r c xs = X at *
    go_enter Try.func25, Try.ntmps25
    go_wp2_with fail
    refine (spec_IsMatrix r c A n cap xs _ (C := w.heap.size) (by (repeat (first | (with_reducible exact H2.out) | (with_reducible refine RI.drew ?_) | (with_reducible refine RI.drewN ?_ _) | (with_reducible refine RI.alloc ?_ (by first | omega | (simp; done) | (simp; omega)) _) | (with_reducible refine RI.setCell ?_ (by first | omega | (simp; done) | (simp; omega)) _) | (with_reducible refine RI.below ?_ (by assumption) (by first | omega | (simp; done) | (simp; omega)))))) (by first | omega | (simp; done) | (simp; omega)) hn).mono ?_
    rw [HM.out]
    rintro e w1 ⟨rfl, hb1⟩
    have hV : HVS w w1 r c A n cap := ⟨by (repeat (first | (with_reducible assumption) | (with_reducible refine BX.new _ _ _ _ _ _ _ _ (by first | omega | (simp; done) | (simp; omega))) | (with_reducible refine BX.below ?_ (by assumption) (by first | omega | (simp; done) | (simp; omega))) | (with_reducible apply BX.drew) | (with_reducible apply BX.drewN) | (with_reducible refine BX.put ?_) | (with_reducible refine BX.put2 ?_) | (with_reducible refine BX.far ?_ (by simp only [ne_eq]; omega) _) | (with_reducible apply BX.alloc) | (with_reducible refine B3.new _ _ _ _ _ _ (by first | omega | (simp; done) | (simp; omega))) | (with_reducible refine B3.of (by assumption)) | (with_reducible refine B3.below ?_ (by assumption) (by first | omega | (simp; done) | (simp; omega))) | (with_reducible apply B3.drew) | (with_reducible apply B3.drewN) | (with_reducible refine B3.far ?_ (by simp only [ne_eq]; omega) _) | (with_reducible apply B3.alloc))), by (repeat (first | (with_reducible assumption) | (with_reducible refine BX.new _ _ _ _ _ _ _ _ (by first | omega | (simp; done) | (simp; omega))) | (with_reducible refine BX.below ?_ (by assumption) (by first | omega | (simp; done) | (simp; omega))) | (with_reducible apply BX.drew) | (with_reducible apply BX.drewN) | (with_reducible refine BX.put ?_) | (with_reducible refine BX.put2 ?_) | (with_reducible refine BX.far ?_ (by simp only [ne_eq]; omega) _) | (with_reducible apply BX.alloc) | (with_reducible refine B3.new _ _ _ _ _ _ (by first | omega | (simp; done) | (simp; omega))) | (with_reducible refine B3.of (by assumption)) | (with_reducible refine B3.below ?_ (by assumption) (by first | omega | (simp; done) | (simp; omega))) | (with_reducible apply B3.drew) | (with_reducible apply B3.drewN) | (with_reducible refine B3.far ?_ (by simp only [ne_eq]; omega) _) | (with_reducible apply B3.alloc))), by (repeat (first | (with_reducible assumption) | (with_reducible refine BX.new _ _ _ _ _ _ _ _ (by first | omega | (simp; done) | (simp; omega))) | (with_reducible refine BX.below ?_ (by assumption) (by first | omega | (simp; done) | (simp; omega))) | (with_reducible apply BX.drew) | (with_reducible apply BX.drewN) | (with_reducible refine BX.put ?_) | (with_reducible refine BX.put2 ?_) | (with_reducible refine BX.far ?_ (by simp only [ne_eq]; omega) _) | (with_reducible apply BX.alloc) | (with_reducible refine B3.new _ _ _ _ _ _ (by first | omega | (simp; done) | (simp; omega))) | (with_reducible refine B3.of (by assumption)) | (with_reducible refine B3.below ?_ (by assumption) (by first | omega | (simp; done) | (simp; omega))) | (with_reducible apply B3.drew) | (with_reducible apply B3.drewN) | (with_reducible refine B3.far ?_ (by simp only [ne_eq]; omega) _) | (with_reducible apply B3.alloc))), by (repeat (first | (with_reducible exact Below.refl _ _) | (with_reducible assumption) | (with_reducible refine below_drewN ?_ _) | (with_reducible refine Below.drew ?_) | (with_reducible refine Below.alloc ?_ ?_ _) | (with_reducible refine Below.setCell ?_ ?_ _) | (with_reducible refine below_into ?_ (by assumption) (by first | omega | (simp; done) | (simp; omega))) | go_size))⟩
    obtain ⟨r0a, r0b, r0c, r0f, r0l⟩ := hV.r1.mx
    obtain ⟨r1a, r1b, r1c, r1f, r1l⟩ := hV.r2.mx
    obtain ⟨ma, mb, mc, mf, ml⟩ := hV.m.mx
    have hvr1 := hV.r1
    have hvr2 := hV.r2
    have hbw := hV.b
    go_wp2_with fail
    refine ret_M2 (r := 0) (c := 0) (A := none) (n := 0) (cap := 0) (r' := 0) (c' := 0) (A' := none) (n' := 0) (cap' := 0) Try.results25 rfl rfl (by (repeat (first | (with_reducible exact hvr1) | (with_reducible refine BX.new _ _ _ _ _ _ _ _ (by first | omega | (simp; done) | (simp; omega))) | (with_reducible refine BX.below ?_ (by assumption) (by first | omega | (simp; done) | (simp; omega))) | (with_reducible apply BX.drew) | (with_reducible apply BX.drewN) | (with_reducible refine BX.put ?_) | (with_reducible refine BX.put2 ?_) | (with_reducible refine BX.far ?_ (by simp only [ne_eq]; omega) _) | (with_reducible apply BX.alloc) | (with_reducible refine B3.new _ _ _ _ _ _ (by first | omega | (simp; done) | (simp; omega))) | (with_reducible exact B3.of hvr1) | (with_reducible refine B3.below ?_ (by assumption) (by first | omega | (simp; done) | (simp; omega))) | (with_reducible apply B3.drew) | (with_reducible apply B3.drewN) | (with_reducible refine B3.far ?_ (by simp only [ne_eq]; omega) _) | (with_reducible apply B3.alloc)))) (by (repeat (first | (with_reducible exact hvr2) | (with_reducible refine BX.new _ _ _ _ _ _ _ _ (by first | omega | (simp; done) | (simp; omega))) | (with_reducible refine BX.below ?_ (by assumption) (by first | omega | (simp; done) | (simp; omega))) | (with_reducible apply BX.drew) | (with_reducible apply BX.drewN) | (with_reducible refine BX.put ?_) | (with_reducible refine BX.put2 ?_) | (with_reducible refine BX.far ?_ (by simp only [ne_eq]; omega) _) | (with_reducible apply BX.alloc) | (with_reducible refine B3.new _ _ _ _ _ _ (by first | omega | (simp; done) | (simp; omega))) | (with_reducible exact B3.of hvr2) | (with_reducible refine B3.below ?_ (by assumption) (by first | omega | (simp; done) | (simp; omega))) | (with_reducible apply B3.drew) | (with_reducible apply B3.drewN) | (with_reducible refine B3.far ?_ (by simp only [ne_eq]; omega) _) | (with_reducible apply B3.alloc)))) rfl ?_
    exact M2R.none_ HX.out (by (repeat (first | (with_reducible exact Below.refl _ _) | (with_reducible assumption) | (with_reducible refine below_drewN ?_ _) | (with_reducible refine Below.drew ?_) | (with_reducible refine Below.alloc ?_ ?_ _) | (with_reducible refine Below.setCell ?_ ?_ _) | (with_reducible refine below_into ?_ (by assumption) (by first | omega | (simp; done) | (simp; omega))) | go_size)))
  · have M := isMat_iff.1 hm
    obtain ⟨R, rfl⟩ := nat_of M.r0
    obtain ⟨C, rfl⟩ := nat_of M.c0
    have hR : R ≤ 24 := by have := M.r1; omega
    have hC : C ≤ 24 := by have := M.c1; omega
    have hlx : xs.length = R * C := by have := M.len; rw [← Int.natCast_mul] at this; omega
    have HG0 := Lib.hid (start_gd (R := R) (C := C) M.num)
    have HX := Lib.hid (hmX_yes hm)
    have HT := Lib.hid (tb_of hlx)
    have HM := Lib.hid hm
    clear M hm hlx
    generalize hmX (R : Int) (C : Int) xs = X at *
    generalize hf : (fun (i j : Nat) => cel xs C i j) = f0 at HG0 HX HT
    clear hf
    have HH : Hid (∀ (Aa : Option Addr) (na capa : Nat) (A2 : Option Addr) (n2 cap2 : Nat) (w' : World) (B0 : Nat), OR w' B0 (.slice Aa na capa) (tb R C f0) → OR w' B0 (.slice A2 n2 cap2) (tb R R idF) → Apart (.slice Aa na capa) (.slice A2 n2 cap2) → B0 ≤ w'.heap.size → Calls Try.prog 67 #[.agg #[.int .i64 R, .int .i64 C, .slice Aa na capa], .agg #[.int .i64 R, .int .i64 R, .slice A2 n2 cap2]] w' (HmR (.slice Aa na capa) (.slice A2 n2 cap2) B0 R C X w')) :=
      Lib.hid (fun Aa na capa A2 n2 cap2 w' B0 k1 k2 k3 k4 => by rw [HX.out]; exact spec_l12Hermite R C Aa na capa A2 n2 cap2 ⟨f0, idF⟩ w' k1 k2 k3 k4 HG0.out hC hR)
    clear HX HG0
    go_enter Try.func25, Try.ntmps25
    go_wp2_with fail
    refine (spec_IsMatrix R C A n cap xs _ (C := w.heap.size) (by (repeat (first | (with_reducible exact H2.out) | (with_reducible refine RI.drew ?_) | (with_reducible refine RI.drewN ?_ _) | (with_reducible refine RI.alloc ?_ (by first | omega | (simp; done) | (simp; omega)) _) | (with_reducible refine RI.setCell ?_ (by first | omega | (simp; done) | (simp; omega)) _) | (with_reducible refine RI.below ?_ (by assumption) (by first | omega | (simp; done) | (simp; omega)))))) (by first | omega | (simp; done) | (simp; omega)) hn).mono ?_
    rw [HM.out]
    rintro e w1 ⟨rfl, hb1⟩
    have hV : HVS w w1 R C A n cap := ⟨by (repeat (first | (with_reducible assumption) | (with_reducible refine BX.new _ _ _ _ _ _ _ _ (by first | omega | (simp; done) | (simp; omega))) | (with_reducible refine BX.below ?_ (by assumption) (by first | omega | (simp; done) | (simp; omega))) | (with_reducible apply BX.drew) | (with_reducible apply BX.drewN) | (with_reducible refine BX.put ?_) | (with_reducible refine BX.put2 ?_) | (with_reducible refine BX.far ?_ (by simp only [ne_eq]; omega) _) | (with_reducible apply BX.alloc) | (with_reducible refine B3.new _ _ _ _ _ _ (by first | omega | (simp; done) | (simp; omega))) | (with_reducible refine B3.of (by assumption)) | (with_reducible refine B3.below ?_ (by assumption) (by first | omega | (simp; done) | (simp; omega))) | (with_reducible apply B3.drew) | (with_reducible apply B3.drewN) | (with_reducible refine B3.far ?_ (by simp only [ne_eq]; omega) _) | (with_reducible apply B3.alloc))), by (repeat (first | (with_reducible assumption) | (with_reducible refine BX.new _ _ _ _ _ _ _ _ (by first | omega | (simp; done) | (simp; omega))) | (with_reducible refine BX.below ?_ (by assumption) (by first | omega | (simp; done) | (simp; omega))) | (with_reducible apply BX.drew) | (with_reducible apply BX.drewN) | (with_reducible refine BX.put ?_) | (with_reducible refine BX.put2 ?_) | (with_reducible refine BX.far ?_ (by simp only [ne_eq]; omega) _) | (with_reducible apply BX.alloc) | (with_reducible refine B3.new _ _ _ _ _ _ (by first | omega | (simp; done) | (simp; omega))) | (with_reducible refine B3.of (by assumption)) | (with_reducible refine B3.below ?_ (by assumption) (by first | omega | (simp; done) | (simp; omega))) | (with_reducible apply B3.drew) | (with_reducible apply B3.drewN) | (with_reducible refine B3.far ?_ (by simp only [ne_eq]; omega) _) | (with_reducible apply B3.alloc))), by (repeat (first | (with_reducible assumption) | (with_reducible refine BX.new _ _ _ _ _ _ _ _ (by first | omega | (simp; done) | (simp; omega))) | (with_reducible refine BX.below ?_ (by assumption) (by first | omega | (simp; done) | (simp; omega))) | (with_reducible apply BX.drew) | (with_reducible apply BX.drewN) | (with_reducible refine BX.put ?_) | (with_reducible refine BX.put2 ?_) | (with_reducible refine BX.far ?_ (by simp only [ne_eq]; omega) _) | (with_reducible apply BX.alloc) | (with_reducible refine B3.new _ _ _ _ _ _ (by first | omega | (simp; done) | (simp; omega))) | (with_reducible refine B3.of (by assumption)) | (with_reducible refine B3.below ?_ (by assumption) (by first | omega | (simp; done) | (simp; omega))) | (with_reducible apply B3.drew) | (with_reducible apply B3.drewN) | (with_reducible refine B3.far ?_ (by simp only [ne_eq]; omega) _) | (with_reducible apply B3.alloc))), by (repeat (first | (with_reducible exact Below.refl _ _) | (with_reducible assumption) | (with_reducible refine below_drewN ?_ _) | (with_reducible refine Below.drew ?_) | (with_reducible refine Below.alloc ?_ ?_ _) | (with_reducible refine Below.setCell ?_ ?_ _) | (with_reducible refine below_into ?_ (by assumption) (by first | omega | (simp; done) | (simp; omega))) | go_size))⟩
    have hri : RI w1 w.heap.size A n xs := by (repeat (first | (with_reducible exact H2.out) | (with_reducible refine RI.drew ?_) | (with_reducible refine RI.drewN ?_ _) | (with_reducible refine RI.alloc ?_ (by first | omega | (simp; done) | (simp; omega)) _) | (with_reducible refine RI.setCell ?_ (by first | omega | (simp; done) | (simp; omega)) _) | (with_reducible refine RI.below ?_ (by assumption) (by first | omega | (simp; done) | (simp; omega)))))
    clear hb1
    obtain ⟨ma, mb, mc, mf, ml⟩ := hV.m.mx
    have hlow := hV.lt
    go_wp2_with fail
    refine (spec_l3Copy R C A n cap xs _ (B := w.heap.size) (by (repeat (first | (with_reducible exact hri) | (with_reducible refine RI.drew ?_) | (with_reducible refine RI.drewN ?_ _) | (with_reducible refine RI.alloc ?_ (by first | omega | (simp; done) | (simp; omega)) _) | (with_reducible refine RI.setCell ?_ (by first | omega | (simp; done) | (simp; omega)) _) | (with_reducible refine RI.below ?_ (by assumption) (by first | omega | (simp; done) | (simp; omega)))))) (by first | omega | (simp; done) | (simp; omega)) hn).mono ?_
    rintro e w2 ⟨Aa, na, capa, rfl, -, hoa, hb2⟩
    have hV2 : HVS w w2 R C A n cap := by (repeat (first | (with_reducible exact hV) | (with_reducible refine HVS.below ?_ (by assumption) (by first | omega | (simp; done) | (simp; omega))) | (with_reducible refine HVS.drew ?_) | (with_reducible refine HVS.drewN ?_ _) | (with_reducible refine HVS.alloc ?_ _)))
    clear ma mb mc mf ml
    rw [HT.out] at hoa
    have hs2 := hb2.size
    (try simp at hs2)
    obtain ⟨B0, hB0, hB2, hBw⟩ : ∃ B0, w.heap.size + 1 + 1 + 1 ≤ B0 ∧ B0 ≤ w2.heap.size ∧ OR w2 B0 (.slice Aa na capa) (tb R C f0) := ⟨_, hlow, hs2, hoa⟩
    have HOA := Lib.hid hBw.own
    clear hV hb2 hri hoa
    have hV := hV2
    clear hV2
    have hlow2 := hV.lt
    obtain ⟨ma, mb, mc, mf, ml⟩ := hV.m.mx
    go_wp2_with fail
    refine (spec_IdentityMatrix R _ hR).mono ?_
    rintro e w3 ⟨A2, n2, cap2, rfl, ho2, hb3⟩
    have hs3 := hb3.size
    simp at hs3
    have h5 : BM w3 w2.heap.size R C Aa na capa := by (repeat (first | (with_reducible assumption) | (with_reducible refine BX.new _ _ _ _ _ _ _ _ (by first | omega | (simp; done) | (simp; omega))) | (with_reducible refine BX.below ?_ (by assumption) (by first | omega | (simp; done) | (simp; omega))) | (with_reducible apply BX.drew) | (with_reducible apply BX.drewN) | (with_reducible refine BX.put ?_) | (with_reducible refine BX.put2 ?_) | (with_reducible refine BX.far ?_ (by simp only [ne_eq]; omega) _) | (with_reducible apply BX.alloc) | (with_reducible refine B3.new _ _ _ _ _ _ (by first | omega | (simp; done) | (simp; omega))) | (with_reducible refine B3.of (by assumption)) | (with_reducible refine B3.below ?_ (by assumption) (by first | omega | (simp; done) | (simp; omega))) | (with_reducible apply B3.drew) | (with_reducible apply B3.drewN) | (with_reducible refine B3.far ?_ (by simp only [ne_eq]; omega) _) | (with_reducible apply B3.alloc)))
    have hoa : OR w3 B0 (.slice Aa na capa) (tb R C f0) := by (repeat (first | (with_reducible exact hBw) | (with_reducible refine OR.drew ?_) | (with_reducible refine OR.drewN ?_ _) | (with_reducible refine OR.alloc ?_ _) | (with_reducible refine OR.below ?_ (by assumption) (by first | omega | (simp; done) | (simp; omega))) | (with_reducible refine OR.low ?_ (by first | omega | (simp only []; omega) | (simp; omega)) _)))
    have HOB : Hid (Own (.slice A2 n2 cap2) (w2.heap.size + 1) w3.heap.size) := Lib.hid ((OR.own (xs := tb R R idF) ho2).wide (by simp) (Nat.le_refl _))
    have ho2' : OR w3 B0 (.slice A2 n2 cap2) (tb R R idF) := OR.mono (xs := tb R R idF) ho2 (by simp; omega)
    have hV3 : HVS w w3 R C A n cap := by (repeat (first | (with_reducible exact hV) | (with_reducible refine HVS.below ?_ (by assumption) (by first | omega | (simp; done) | (simp; omega))) | (with_reducible refine HVS.drew ?_) | (with_reducible refine HVS.drewN ?_ _) | (with_reducible refine HVS.alloc ?_ _)))
    clear ma mb mc mf ml
    clear hV hBw ho2 hb3
    have hV := hV3
    clear hV3
    have HAP : Hid (Apart (.slice Aa na capa) (.slice A2 n2 cap2)) := Lib.hid (fun g e1 e2 => by have := HOA.out g e1; have := HOB.out g e2; omega)
    obtain ⟨ma, mb, mc, mf, ml⟩ := hV.m.mx
    obtain ⟨la, lb, lc, lf, ll⟩ := h5.mx
    go_wp2_with fail
    refine (HH.out Aa na capa A2 n2 cap2 (w3.alloc (.cells #[.int .i64 R, .int .i64 R, .slice A2 n2 cap2] 28)) B0 (by (repeat (first | (with_reducible exact hoa) | (with_reducible refine OR.drew ?_) | (with_reducible refine OR.drewN ?_ _) | (with_reducible refine OR.alloc ?_ _) | (with_reducible refine OR.below ?_ (by assumption) (by first | omega | (simp; done) | (simp; omega))) | (with_reducible refine OR.low ?_ (by first | omega | (simp only []; omega) | (simp; omega)) _)))) (by (repeat (first | (with_reducible exact ho2') | (with_reducible refine OR.drew ?_) | (with_reducible refine OR.drewN ?_ _) | (with_reducible refine OR.alloc ?_ _) | (with_reducible refine OR.below ?_ (by assumption) (by first | omega | (simp; done) | (simp; omega))) | (with_reducible refine OR.low ?_ (by first | omega | (simp only []; omega) | (simp; omega)) _)))) HAP.out (by first | omega | (simp; done) | (simp; omega))).mono ?_
    rcases hs : X with _ | ⟨s, t⟩
    · have HXN := Lib.hid hs
      have hv : X.isSome = false := by rw [hs]; rfl
      rw [← hs]
      clear hs HH
      rintro e w4 ⟨he, -, hb4, -⟩
      rw [hv] at he
      subst he
      have hV4 : HVS w w4 R C A n cap := by (repeat (first | (with_reducible exact hV) | (with_reducible refine HVS.below ?_ (by assumption) (by first | omega | (simp; done) | (simp; omega))) | (with_reducible refine HVS.drew ?_) | (with_reducible refine HVS.drewN ?_ _) | (with_reducible refine HVS.alloc ?_ _)))
      clear ma mb mc mf ml
      clear la lb lc lf ll
      clear hV h5 hb4 hv hoa ho2'
      obtain ⟨r0a, r0b, r0c, r0f, r0l⟩ := hV4.r1.mx
      obtain ⟨r1a, r1b, r1c, r1f, r1l⟩ := hV4.r2.mx
      have hvr1 := hV4.r1
      have hvr2 := hV4.r2
      have hbw := hV4.b
      go_wp2_with fail
      refine ret_M2 (r := 0) (c := 0) (A := none) (n := 0) (cap := 0) (r' := 0) (c' := 0) (A' := none) (n' := 0) (cap' := 0) Try.results25 rfl rfl (by (repeat (first | (with_reducible exact hvr1) | (with_reducible refine BX.new _ _ _ _ _ _ _ _ (by first | omega | (simp; done) | (simp; omega))) | (with_reducible refine BX.below ?_ (by assumption) (by first | omega | (simp; done) | (simp; omega))) | (with_reducible apply BX.drew) | (with_reducible apply BX.drewN) | (with_reducible refine BX.put ?_) | (with_reducible refine BX.put2 ?_) | (with_reducible refine BX.far ?_ (by simp only [ne_eq]; omega) _) | (with_reducible apply BX.alloc) | (with_reducible refine B3.new _ _ _ _ _ _ (by first | omega | (simp; done) | (simp; omega))) | (with_reducible exact B3.of hvr1) | (with_reducible refine B3.below ?_ (by assumption) (by first | omega | (simp; done) | (simp; omega))) | (with_reducible apply B3.drew) | (with_reducible apply B3.drewN) | (with_reducible refine B3.far ?_ (by simp only [ne_eq]; omega) _) | (with_reducible apply B3.alloc)))) (by (repeat (first | (with_reducible exact hvr2) | (with_reducible refine BX.new _ _ _ _ _ _ _ _ (by first | omega | (simp; done) | (simp; omega))) | (with_reducible refine BX.below ?_ (by assumption) (by first | omega | (simp; done) | (simp; omega))) | (with_reducible apply BX.drew) | (with_reducible apply BX.drewN) | (with_reducible refine BX.put ?_) | (with_reducible refine BX.put2 ?_) | (with_reducible refine BX.far ?_ (by simp only [ne_eq]; omega) _) | (with_reducible apply BX.alloc) | (with_reducible refine B3.new _ _ _ _ _ _ (by first | omega | (simp; done) | (simp; omega))) | (with_reducible exact B3.of hvr2) | (with_reducible refine B3.below ?_ (by assumption) (by first | omega | (simp; done) | (simp; omega))) | (with_reducible apply B3.drew) | (with_reducible apply B3.drewN) | (with_reducible refine B3.far ?_ (by simp only [ne_eq]; omega) _) | (with_reducible apply B3.alloc)))) rfl ?_
      exact M2R.none_ HXN.out (by (repeat (first | (with_reducible exact Below.refl _ _) | (with_reducible assumption) | (with_reducible refine below_drewN ?_ _) | (with_reducible refine Below.drew ?_) | (with_reducible refine Below.alloc ?_ ?_ _) | (with_reducible refine Below.setCell ?_ ?_ _) | (with_reducible refine below_into ?_ (by assumption) (by first | omega | (simp; done) | (simp; omega))) | go_size)))
    · have HXS := Lib.hid hs
      have hv : X.isSome = true := by rw [hs]; rfl
      rw [← hs]
      clear hs HH
      rintro e w4 ⟨he, ⟨f', g', k1, k2, k3⟩, hb4, hk4⟩
      rw [hv] at he
      subst he
      obtain ⟨rfl, rfl⟩ := k3 s t HXS.out
      have hV4 : HVS w w4 R C A n cap := by (repeat (first | (with_reducible exact hV) | (with_reducible refine HVS.below ?_ (by assumption) (by first | omega | (simp; done) | (simp; omega))) | (with_reducible refine HVS.drew ?_) | (with_reducible refine HVS.drewN ?_ _) | (with_reducible refine HVS.alloc ?_ _)))
      have n1 : ∀ k, w2.heap.size ≤ k → some k ≠ (Value.slice Aa na capa).ownBlock := fun k hk e => by have := HOA.out k e.symm; omega
      have n2' : ∀ k, k ≤ w2.heap.size ∨ w3.heap.size ≤ k → some k ≠ (Value.slice A2 n2 cap2).ownBlock := fun k hk e => by have := HOB.out k e.symm; omega
      have hm1 : BM w4 w2.heap.size R C Aa na capa := (hk4 _ (by simp; omega) (n1 _ (Nat.le_refl _)) (n2' _ (.inl (Nat.le_refl _)))).trans (show BM _ w2.heap.size R C Aa na capa by (repeat (first | (with_reducible exact h5) | (with_reducible refine BX.new _ _ _ _ _ _ _ _ (by first | omega | (simp; done) | (simp; omega))) | (with_reducible refine BX.below ?_ (by assumption) (by first | omega | (simp; done) | (simp; omega))) | (with_reducible apply BX.drew) | (with_reducible apply BX.drewN) | (with_reducible refine BX.put ?_) | (with_reducible refine BX.put2 ?_) | (with_reducible refine BX.far ?_ (by simp only [ne_eq]; omega) _) | (with_reducible apply BX.alloc) | (with_reducible refine B3.new _ _ _ _ _ _ (by first | omega | (simp; done) | (simp; omega))) | (with_reducible exact B3.of h5) | (with_reducible refine B3.below ?_ (by assumption) (by first | omega | (simp; done) | (simp; omega))) | (with_reducible apply B3.drew) | (with_reducible apply B3.drewN) | (with_reducible refine B3.far ?_ (by simp only [ne_eq]; omega) _) | (with_reducible apply B3.alloc))))
      have hm2 : BM w4 w3.heap.size R R A2 n2 cap2 := (hk4 _ (by simp) (n1 _ (by omega)) (n2' _ (.inr (Nat.le_refl _)))).trans (show BM _ w3.heap.size R R A2 n2 cap2 by (repeat (first | (with_reducible assumption) | (with_reducible refine BX.new _ _ _ _ _ _ _ _ (by first | omega | (simp; done) | (simp; omega))) | (with_reducible refine BX.below ?_ (by assumption) (by first | omega | (simp; done) | (simp; omega))) | (with_reducible apply BX.drew) | (with_reducible apply BX.drewN) | (with_reducible refine BX.put ?_) | (with_reducible refine BX.put2 ?_) | (with_reducible refine BX.far ?_ (by simp only [ne_eq]; omega) _) | (with_reducible apply BX.alloc) | (with_reducible refine B3.new _ _ _ _ _ _ (by first | omega | (simp; done) | (simp; omega))) | (with_reducible refine B3.of (by assumption)) | (with_reducible refine B3.below ?_ (by assumption) (by first | omega | (simp; done) | (simp; omega))) | (with_reducible apply B3.drew) | (with_reducible apply B3.drewN) | (with_reducible refine B3.far ?_ (by simp only [ne_eq]; omega) _) | (with_reducible apply B3.alloc))))
      clear ma mb mc mf ml
      clear la lb lc lf ll
      clear hV h5 hb4 hv hoa ho2' hk4 n1 n2' k3
      obtain ⟨r0a, r0b, r0c, r0f, r0l⟩ := hV4.r1.mx
      obtain ⟨r1a, r1b, r1c, r1f, r1l⟩ := hV4.r2.mx
      obtain ⟨ua, ub, uc, uf, ul⟩ := hm1.mx
      obtain ⟨va, vb, vc, vf, vl⟩ := hm2.mx
      have hvr1 := B3.of hV4.r1
      have hvr2 := B3.of hV4.r2
      have hbw := hV4.b
      have HAO := Lib.hid (HOA.out)
      go_wp2_with fail
      go_region
      go_wp2_with fail
      refine ret_M2 (r := R) (c := C) (A := Aa) (n := na) (cap := capa) (r' := R) (c' := R) (A' := A2) (n' := n2) (cap' := cap2) Try.results25 rfl rfl (by (repeat (first | (with_reducible exact hvr1) | (with_reducible refine BX.new _ _ _ _ _ _ _ _ (by first | omega | (simp; done) | (simp; omega))) | (with_reducible refine BX.below ?_ (by assumption) (by first | omega | (simp; done) | (simp; omega))) | (with_reducible apply BX.drew) | (with_reducible apply BX.drewN) | (with_reducible refine BX.put ?_) | (with_reducible refine BX.put2 ?_) | (with_reducible refine BX.far ?_ (by simp only [ne_eq]; omega) _) | (with_reducible apply BX.alloc) | (with_reducible refine B3.new _ _ _ _ _ _ (by first | omega | (simp; done) | (simp; omega))) | (with_reducible exact B3.of hvr1) | (with_reducible refine B3.below ?_ (by assumption) (by first | omega | (simp; done) | (simp; omega))) | (with_reducible apply B3.drew) | (with_reducible apply B3.drewN) | (with_reducible refine B3.far ?_ (by simp only [ne_eq]; omega) _) | (with_reducible apply B3.alloc)))) (by (repeat (first | (with_reducible exact hvr2) | (with_reducible refine BX.new _ _ _ _ _ _ _ _ (by first | omega | (simp; done) | (simp; omega))) | (with_reducible refine BX.below ?_ (by assumption) (by first | omega | (simp; done) | (simp; omega))) | (with_reducible apply BX.drew) | (with_reducible apply BX.drewN) | (with_reducible refine BX.put ?_) | (with_reducible refine BX.put2 ?_) | (with_reducible refine BX.far ?_ (by simp only [ne_eq]; omega) _) | (with_reducible apply BX.alloc) | (with_reducible refine B3.new _ _ _ _ _ _ (by first | omega | (simp; done) | (simp; omega))) | (with_reducible exact B3.of hvr2) | (with_reducible refine B3.below ?_ (by assumption) (by first | omega | (simp; done) | (simp; omega))) | (with_reducible apply B3.drew) | (with_reducible apply B3.drewN) | (with_reducible refine B3.far ?_ (by simp only [ne_eq]; omega) _) | (with_reducible apply B3.alloc)))) rfl ?_
      exact M2R.some_ HXS.out (OR.mono (B := B0) (by (repeat (first | (with_reducible exact k1) | (with_reducible refine OR.drew ?_) | (with_reducible refine OR.drewN ?_ _) | (with_reducible refine OR.alloc ?_ _) | (with_reducible refine OR.below ?_ (by assumption) (by first | omega | (simp; done) | (simp; omega))) | (with_reducible refine OR.low ?_ (by first | omega | (simp only []; omega) | (simp; omega)) _)))) (by omega)) (OR.mono (B := B0) (by (repeat (first | (with_reducible exact k2) | (with_reducible refine OR.drew ?_) | (with_reducible refine OR.drewN ?_ _) | (with_reducible refine OR.alloc ?_ _) | (with_reducible refine OR.below ?_ (by assumption) (by first | omega | (simp; done) | (simp; omega))) | (with_reducible refine OR.low ?_ (by first | omega | (simp only []; omega) | (simp; omega)) _)))) (by omega)) HAP.out (by (repeat (first | (with_reducible exact Below.refl _ _) | (with_reducible assumption) | (with_reducible refine below_drewN ?_ _) | (with_reducible refine Below.drew ?_) | (with_reducible refine Below.alloc ?_ ?_ _) | (with_reducible refine Below.setCell ?_ ?_ _) | (with_reducible refine below_into ?_ (by assumption) (by first | omega | (simp; done) | (simp; omega))) | go_size)))
theorem hm_len {r c : Int} {xs : List Int} {x : HS × Nat} (h : hmX r c xs = some x) : r.toNat ≤ 24 ∧ c.toNat ≤ 24 := by
  unfold hmX at h
  split at h
  · rename_i hm
    have M := isMat_iff.1 hm
    have h1 := M.r1
    have h2 := M.c1
    omega
  · cases h
theorem hmM_len (r c : Int) (xs : List Int) : (hmM r c xs).xs.length ≤ 1048576 := by
  unfold hmM
  cases h : hmX r c xs with
  | none => exact Nat.zero_le _
  | some x =>
    have hl := hm_len h
    show (tb _ _ _).length ≤ _
    rw [tb_len]
    exact Nat.le_trans (Nat.mul_le_mul hl.1 hl.2) (by omega)
theorem hmU_len (r c : Int) (xs : List Int) : (hmU r c xs).xs.length ≤ 1048576 := by
  unfold hmU
  cases h : hmX r c xs with
  | none => exact Nat.zero_le _
  | some x =>
    have hl := hm_len h
    show (tb _ _ _).length ≤ _
    rw [tb_len]
    exact Nat.le_trans (Nat.mul_le_mul hl.1 hl.1) (by omega)
end Go.Proofs.Ytpecjobpihinoaa

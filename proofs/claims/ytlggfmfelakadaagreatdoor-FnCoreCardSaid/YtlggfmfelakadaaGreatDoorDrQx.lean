/-
  DERIVED. Square matrices that are drawn, numbers that may be primes; what is drawn for solutions modulo a prime.
-/
import Derived.Test.YtlggfmfelakadaaGreatDoorDrMx
namespace Go.Proofs.YtlggfmfelakadaaGreatDoor
open Go.RowKit
set_option linter.unusedVariables false
set_option linter.unusedSimpArgs false
set_option maxRecDepth 100000 in
set_option maxHeartbeats 8000000 in
theorem spec_l3Square (b n cap : Nat) (A : Option Addr) (xs : List Int) (w : World) {B : Nat} (hct : CT w w B b n cap A xs) :
    Calls Tryz.prog 50 #[.pointer (some ⟨b, 0, none⟩)] w (DRV (MAny w.heap.size 17) B b n cap A xs w) := by
  have hb := hct.hb
  have hsz := hct.size
  go_enter Tryz.func50, Tryz.ntmps50
  go_wp2_with fail
  refine (spec_l1Below b n cap A xs 5 _ (CT.self (w0 := w) (B := B) (by (with_reducible (repeat (first | exact hct | refine CT.drew ?_ | refine CT.drewN ?_ _ | refine CT.alloc ?_ _ | refine CT.far ?_ Ks _ | refine CT.below ?_ (by assumption) Ks)))))).mono ?_
  rintro e w2 ⟨v, rfl, ⟨r, rfl, hr0, hr1⟩, hc1⟩
  have hct_1 : CT w w2 B b n cap A xs := CT.trans (by (with_reducible (repeat (first | exact hct | refine CT.drew ?_ | refine CT.drewN ?_ _ | refine CT.alloc ?_ _ | refine CT.far ?_ Ks _ | refine CT.below ?_ (by assumption) Ks)))) hc1
  have hR1 : BM w2 w.heap.size 0 0 none 0 0 := BX.grown Ka hc1.gr (by simp; omega)
  clear hct hc1
  have hct := hct_1
  clear hct_1
  have hR2 := hR1
  have hs2 := hct.size
  go_wp2_with fail
  refine (spec_l1PickInt b n cap A xs (some ⟨w2.heap.size, 0, none⟩) _ _ [1, 3, 9] _ (B2 := w2.heap.size + 1) (CT.self (w0 := w) (B := B) (by (with_reducible (repeat (first | exact hct | refine CT.drew ?_ | refine CT.drewN ?_ _ | refine CT.alloc ?_ _ | refine CT.far ?_ Ks _ | refine CT.below ?_ (by assumption) Ks))))) ?h2 ?h3 ?h4 ?h5 ?h6).mono ?h7
  case h2 => exact RI.lit (Blk.new _ _ _)
  case h3 => exact Ks
  case h4 => exact not_at Ks
  case h5 => decide
  case h6 => decide
  rintro e w3 ⟨v, rfl, ⟨most, rfl, hy⟩, hc1⟩
  have hmost : 0 ≤ most ∧ most ≤ 100 := by
    simp only [List.mem_cons, List.not_mem_nil, or_false] at hy
    omega
  have hct_1 : CT w w3 B b n cap A xs := CT.trans (by (with_reducible (repeat (first | exact hct | refine CT.drew ?_ | refine CT.drewN ?_ _ | refine CT.alloc ?_ _ | refine CT.far ?_ Ks _ | refine CT.below ?_ (by assumption) Ks)))) hc1
  have hR3 : BM w3 w.heap.size 0 0 none 0 0 := BX.grown (Kb hR2) hc1.gr (by simp; omega)
  clear hct hc1 hR2 hy
  have hct := hct_1
  clear hct_1
  have hs3 := hct.size
  have hrr : r < 5 := by omega
  obtain ⟨R, rfl⟩ := nat_of hr0
  have hR5 : R ≤ 4 := by omega
  have hRC : R * R ≤ 4 * 4 := Nat.mul_le_mul hR5 hR5
  clear hr0 hr1 hrr hR1
  go_wp2_with fail
  refine (spec_l3Draw b n cap A xs R R most _ (CT.self (w0 := w) (B := B) (by (with_reducible (repeat (first | exact hct | refine CT.drew ?_ | refine CT.drewN ?_ _ | refine CT.alloc ?_ _ | refine CT.far ?_ Ks _ | refine CT.below ?_ (by assumption) Ks))))) (by omega) (by omega) hmost).mono ?_
  rintro e w4 ⟨v, rfl, ⟨Am, nm, cm, ys, rfl, ho_, hl, -⟩, hc1⟩
  have hsz4 := hc1.size
  have hRl := hR3.lt
  have HR3 := Lib.hid hR3
  have HCW := Lib.hid hct
  have hb3 : b < w3.heap.size := hc1.hb
  have hM : BM (w4.alloc (.cells #[.int .i64 R, .int .i64 R, .slice Am nm cm] 26)) w4.heap.size R R Am nm cm := Ka
  have ho : OR (w4.alloc (.cells #[.int .i64 R, .int .i64 R, .slice Am nm cm] 26)) w3.heap.size (.slice Am nm cm) ys := ho_.alloc _
  have hct2 : CT w3 (w4.alloc (.cells #[.int .i64 R, .int .i64 R, .slice Am nm cm] 26)) B b n cap A xs := hc1.alloc _
  have HOW := Lib.hid ho_.own
  have hl1 := ho_.lenEq
  have hl2 : nm ≤ R * R ∧ R * R ≤ nm := by omega
  have HL := Lib.hid hl
  have hs5 : w3.heap.size ≤ (w4.alloc (.cells #[.int .i64 R, .int .i64 R, .slice Am nm cm] 26)).heap.size := by simp; omega
  clear hct hc1 hR3 ho_ hl hl1
  have hct := hct2
  clear hct2
  obtain ⟨oa, ob, oc, of, ol⟩ := hM.mx
  by_cases hR1 : 1 < R
  · skip
    go_wp2_with fail
    generalize (w4.alloc (.cells #[.int .i64 R, .int .i64 R, .slice Am nm cm] 26)) = w5 at *
    generalize hbm : w4.heap.size = bM at *
    have hbM : w3.heap.size ≤ bM := by omega
    have hlM := hM.lt
    clear hbm
    refine (spec_l1Once b n cap A xs 6 _ (CT.self (w0 := w3) (B := B) (by (with_reducible (repeat (first | exact hct | refine CT.drew ?_ | refine CT.drewN ?_ _ | refine CT.alloc ?_ _ | refine CT.far ?_ Ks _ | refine CT.below ?_ (by assumption) Ks)))))).mono ?_
    rintro e w6 ⟨v, rfl, ⟨q, rfl⟩, hc1⟩
    have hs6 := hc1.size
    have hct_1 : CT w3 w6 B b n cap A xs := CT.trans (by (with_reducible (repeat (first | exact hct | refine CT.drew ?_ | refine CT.drewN ?_ _ | refine CT.alloc ?_ _ | refine CT.far ?_ Ks _ | refine CT.below ?_ (by assumption) Ks)))) hc1
    have hM_1 : BM w6 bM R R Am nm cm := BX.grown (Kb hM) hc1.gr (by simp; omega)
    have ho_1 : OR w6 w3.heap.size (.slice Am nm cm) ys := OR.turned (Ko ho) hc1 (by omega)
    clear hct hM ho hc1 oa ob oc of ol
    have hct := hct_1
    have hM := hM_1
    have ho := ho_1
    clear hct_1 hM_1 ho_1
    obtain ⟨oa, ob, oc, of, ol⟩ := hM.mx
    rcases q with _ | _
    · go_wp2_with fail
      refine (spec_l3Spoil b n cap A xs R R Am nm cm ys w3 _ (B := B) (B1 := w3.heap.size) (by (with_reducible (repeat (first | exact hct | refine CT.drew ?_ | refine CT.drewN ?_ _ | refine CT.alloc ?_ _ | refine CT.far ?_ Ks _ | refine CT.below ?_ (by assumption) Ks)))) (Ko ho) (Nat.le_refl _) (by omega) (by omega) (by omega) (by have := HL.out; omega)).mono ?_
      rintro e w9 ⟨v, rfl, ⟨r9, c9, A9, n9, cap9, y9, rfl, ho9, hl9, hr9, hc9⟩, hct9⟩
      have hR9 : BM w9 w.heap.size 0 0 none 0 0 := BX.grown HR3.out hct9.gr (by simp; omega)
      have hctw : CT w w9 B b n cap A xs := CT.trans HCW.out hct9
      have hvr := B3.of hR9
      obtain ⟨ra, rb, rc, rf, rl⟩ := hR9.mx
      have hl17 : y9.length ≤ 17 := by have := HL.out; omega
      have hct := hctw
      clear hl9 hct9
      go_wp2_with fail
      refine ret_M (b := w.heap.size) Tryz.results50 rfl (Kb hvr) rfl ?_
      exact ⟨_, rfl, ⟨r9, c9, A9, n9, cap9, y9, rfl, OR.mono (B := w3.heap.size) (Ko ho9) (by omega), hl17, hr9, hc9⟩, by (with_reducible (repeat (first | exact hct | refine CT.drew ?_ | refine CT.drewN ?_ _ | refine CT.alloc ?_ _ | refine CT.far ?_ Ks _ | refine CT.below ?_ (by assumption) Ks)))⟩
    · go_wp2_with fail
      go_loopw [5] (fun v wr => ∃ (i : Nat) (ys : List Int), v = .int .i64 i ∧ i ≤ R ∧ CT w3 wr B b n cap A xs ∧ BM wr bM R R Am nm cm ∧ OR wr w3.heap.size (.slice Am nm cm) ys ∧ Hid (ys.length = R * R)) (fun v _ => R - (intOf v).toNat)
      case atStart => exact ⟨0, ys, rfl, Nat.zero_le _, by (with_reducible (repeat (first | exact hct | refine CT.drew ?_ | refine CT.drewN ?_ _ | refine CT.alloc ?_ _ | refine CT.far ?_ Ks _ | refine CT.below ?_ (by assumption) Ks))), Kb hM, Ko ho, HL⟩
      case round =>
        clear hct hM ho oa ob oc of ol HL
        obtain ⟨i, zs, rfl, hi, hct, hM, ho, HL⟩ := hrel
        obtain ⟨oa, ob, oc, of, ol⟩ := hM.mx
        have hs7 := hct.size
        by_cases hlt : i < R
        · have hRR2 : R + R ≤ R * R := by have := Nat.mul_le_mul_right R (show 2 ≤ R by omega); omega
          obtain ⟨g1, rfl, hg1, hg2⟩ := ho.begins (by have := HL.out; omega)
          have hgo := (HOW.out g1 rfl).2
          have c0 := ho.cell (R + i) (by have := HL.out; omega)
          have c1 := ho.cell i (by have := HL.out; omega)
          have f1 := ho.frozen i
          have hw2 : IntKind.i64.wrap ((R : Int) + (i : Int)) = (R : Int) + (i : Int) := IntWalk.i64_in _ (by omega)
          have i1 : (R : Int) + (i : Int) < (nm : Int) := by omega
          have i2 : ((R : Int) + (i : Int)).toNat = R + i := by omega
          have i3 : (0 : Int) ≤ (R : Int) + (i : Int) := by omega
          have hin : i < nm := by omega
          have ne1 : ¬ bM = g1 := by omega
          have ne2 : ¬ g1 = bM := by omega
          have hK0 : ¬ R = 0 := by omega
          have ne3 : ¬ i = R + i := by omega
          have ne4 : ¬ R + i = i := by omega
          generalize zs.getD (R + i) 0 = z0 at c0
          generalize zs.getD i 0 = z1 at c1
          go_wp2_with fail
          ((refine wp_region_held_drew (S := (fun w' => w'.cell? ⟨bM, 2, none⟩ = some (.slice (some ⟨g1, 0, none⟩) nm cm) ∧ w'.cell? ⟨g1, R + i, none⟩ = some (.int .i64 z0))) (by kernel_rfl) ?_ (fun hHeld => ?_)); ((focus ((try dsimp only); ((first | (go_keep; done) | exact ⟨(World.cell?_setCell_other _ _ _ _ (fun e => ne2 (congrArg Addr.block e))).trans oc, (World.cell?_setCell_other _ _ _ _ (fun e => ne3 (congrArg Addr.off e))).trans c0⟩))))); ((refine tk_ (i := 0) (v := ?_) (y := Or.inl ⟨by rfl, ?_⟩) (h := ?_); rotate_left; (focus (((intro w hSw; (try dsimp only at hSw); go_simp) <;> (try with_reducible rfl)); done)); (try simp only [Act.put, p1_, p2_, p3_]))); ((refine tk_ (i := 1) (v := ?_) (y := Or.inl ⟨by rfl, ?_⟩) (h := ?_); rotate_left; (focus (((intro w hSw; (try dsimp only at hSw); go_simp) <;> (try with_reducible rfl)); done)); (try simp only [Act.put, p1_, p2_, p3_]))); ((refine tk_ (i := 2) (v := ?_) (y := Or.inl ⟨by rfl, ?_⟩) (h := ?_); rotate_left; (focus (((intro w hSw; (try dsimp only at hSw); go_simp) <;> (try with_reducible rfl)); done)); (try simp only [Act.put, p1_, p2_, p3_]))); ((refine tk_ (i := 3) (v := ?_) (y := Or.inl ⟨by rfl, ?_⟩) (h := ?_); rotate_left; (focus (((intro w hSw; (try dsimp only at hSw); go_simp) <;> (try with_reducible rfl)); done)); (try simp only [Act.put, p1_, p2_, p3_]))); ((refine tk_ (i := 4) (v := ?_) (y := Or.inl ⟨by rfl, ?_⟩) (h := ?_); rotate_left; (focus (((intro w hSw; (try dsimp only at hSw); go_simp) <;> (try with_reducible rfl)); done)); (try simp only [Act.put, p1_, p2_, p3_]))); ((refine tk_ (i := 5) (v := ?_) (y := Or.inl ⟨by rfl, ?_⟩) (h := ?_); rotate_left; (focus (((intro w hSw; (try dsimp only at hSw); go_simp) <;> (try with_reducible rfl)); done)); (try simp only [Act.put, p1_, p2_, p3_]))); ((refine tk_ (i := 6) (v := ?_) (y := Or.inl ⟨by rfl, ?_⟩) (h := ?_); rotate_left; (focus (((intro w hSw; (try dsimp only at hSw); go_simp) <;> (try with_reducible rfl)); done)); (try simp only [Act.put, p1_, p2_, p3_]))); ((refine tk_ (i := 7) (v := ?_) (y := Or.inl ⟨by rfl, ?_⟩) (h := ?_); rotate_left; (focus (((intro w hSw; (try dsimp only at hSw); go_simp) <;> (try with_reducible rfl)); done)); (try simp only [Act.put, p1_, p2_, p3_]))); ((refine tk_ (i := 8) (v := ?_) (y := Or.inl ⟨by rfl, ?_⟩) (h := ?_); rotate_left; (focus (((intro w hSw; (try dsimp only at hSw); go_simp) <;> (try with_reducible rfl)); done)); (try simp only [Act.put, p1_, p2_, p3_]))); ((refine tk_ (i := 9) (v := ?_) (y := Or.inl ⟨by rfl, ?_⟩) (h := ?_); rotate_left; (focus (((intro w hSw; (try dsimp only at hSw); go_simp) <;> (try with_reducible rfl)); done)); (try simp only [Act.put, p1_, p2_, p3_]))); ((refine tk_ (i := 10) (v := ?_) (y := Or.inl ⟨by rfl, ?_⟩) (h := ?_); rotate_left; (focus (((intro w hSw; (try dsimp only at hSw); go_simp) <;> (try with_reducible rfl)); done)); (try simp only [Act.put, p1_, p2_, p3_]))); ((refine wpAnyH_ready (rs := [11]) (by kernel_rfl) (by simp) ?_; refine AllReadyH.cons (by simp only [e1_, e2_, e3_]; try rfl) (fun K hK => ?_) AllReadyH.nil; go_simp; (try go_wp2_with fail); refine hK.out _ _ ?_ (fun hHeld => ?_); (focus ((try dsimp only); ((first | (go_keep; done) | exact ⟨(World.cell?_setCell_other _ _ _ _ (fun e => ne2 (congrArg Addr.block e))).trans oc, (World.cell?_setCell_other _ _ _ _ (fun e => ne3 (congrArg Addr.off e))).trans c0⟩)))); clear hK K; (try simp only [Act.put, p1_, p2_, p3_]))); (refine wpAnyH_done (by kernel_rfl) ?_ _))
          have HL2 : ∀ v, Hid ((zs.set i v).length = R * R) := fun v => Lib.hid (by rw [List.length_set]; exact HL.out)
          clear hw2
          go_wp2_with fail
          go_roundw
          case rel => exact ⟨i + 1, _, by go_num, by omega, by (with_reducible (repeat (first | exact hct | refine CT.drew ?_ | refine CT.drewN ?_ _ | refine CT.alloc ?_ _ | refine CT.far ?_ Ks _ | refine CT.below ?_ (by assumption) Ks))), Kb hM, by first | exact ho.set_ i _ | exact OR.drew (ho.set_ i _), HL2 _⟩
          case measure => simp only [intOf]; omega
        · go_wp2_with fail
          refine (spec_l3Spoil b n cap A xs R R Am nm cm zs w3 _ (B := B) (B1 := w3.heap.size) (by (with_reducible (repeat (first | exact hct | refine CT.drew ?_ | refine CT.drewN ?_ _ | refine CT.alloc ?_ _ | refine CT.far ?_ Ks _ | refine CT.below ?_ (by assumption) Ks)))) (Ko ho) (Nat.le_refl _) (by omega) (by omega) (by omega) (by have := HL.out; omega)).mono ?_
          rintro e w9 ⟨v, rfl, ⟨r9, c9, A9, n9, cap9, y9, rfl, ho9, hl9, hr9, hc9⟩, hct9⟩
          have hR9 : BM w9 w.heap.size 0 0 none 0 0 := BX.grown HR3.out hct9.gr (by simp; omega)
          have hctw : CT w w9 B b n cap A xs := CT.trans HCW.out hct9
          have hvr := B3.of hR9
          obtain ⟨ra, rb, rc, rf, rl⟩ := hR9.mx
          have hl17 : y9.length ≤ 17 := by have := HL.out; omega
          have hct := hctw
          clear hl9 hct9
          go_wp2_with fail
          refine ret_M (b := w.heap.size) Tryz.results50 rfl (Kb hvr) rfl ?_
          exact ⟨_, rfl, ⟨r9, c9, A9, n9, cap9, y9, rfl, OR.mono (B := w3.heap.size) (Ko ho9) (by omega), hl17, hr9, hc9⟩, by (with_reducible (repeat (first | exact hct | refine CT.drew ?_ | refine CT.drewN ?_ _ | refine CT.alloc ?_ _ | refine CT.far ?_ Ks _ | refine CT.below ?_ (by assumption) Ks)))⟩
  · skip
    go_wp2_with fail
    generalize (w4.alloc (.cells #[.int .i64 R, .int .i64 R, .slice Am nm cm] 26)) = w5 at *
    generalize hbm : w4.heap.size = bM at *
    have hbM : w3.heap.size ≤ bM := by omega
    have hlM := hM.lt
    clear hbm
    refine (spec_l3Spoil b n cap A xs R R Am nm cm ys w3 _ (B := B) (B1 := w3.heap.size) (by (with_reducible (repeat (first | exact hct | refine CT.drew ?_ | refine CT.drewN ?_ _ | refine CT.alloc ?_ _ | refine CT.far ?_ Ks _ | refine CT.below ?_ (by assumption) Ks)))) (Ko ho) (Nat.le_refl _) (by omega) (by omega) (by omega) (by have := HL.out; omega)).mono ?_
    rintro e w9 ⟨v, rfl, ⟨r9, c9, A9, n9, cap9, y9, rfl, ho9, hl9, hr9, hc9⟩, hct9⟩
    have hR9 : BM w9 w.heap.size 0 0 none 0 0 := BX.grown HR3.out hct9.gr (by simp; omega)
    have hctw : CT w w9 B b n cap A xs := CT.trans HCW.out hct9
    have hvr := B3.of hR9
    obtain ⟨ra, rb, rc, rf, rl⟩ := hR9.mx
    have hl17 : y9.length ≤ 17 := by have := HL.out; omega
    have hct := hctw
    clear hl9 hct9
    go_wp2_with fail
    refine ret_M (b := w.heap.size) Tryz.results50 rfl (Kb hvr) rfl ?_
    exact ⟨_, rfl, ⟨r9, c9, A9, n9, cap9, y9, rfl, OR.mono (B := w3.heap.size) (Ko ho9) (by omega), hl17, hr9, hc9⟩, by (with_reducible (repeat (first | exact hct | refine CT.drew ?_ | refine CT.drewN ?_ _ | refine CT.alloc ?_ _ | refine CT.far ?_ Ks _ | refine CT.below ?_ (by assumption) Ks)))⟩
end Go.Proofs.YtlggfmfelakadaaGreatDoor

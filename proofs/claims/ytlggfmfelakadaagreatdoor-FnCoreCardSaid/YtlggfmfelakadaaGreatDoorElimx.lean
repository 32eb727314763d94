/-
  DERIVED. eliminate of the program.
-/
import Derived.Test.YtlggfmfelakadaaGreatDoorc4
import Derived.Test.YtlggfmfelakadaaGreatDoorRowOpx
import Derived.Test.YtlggfmfelakadaaGreatDoorc3
namespace Go.Proofs.YtlggfmfelakadaaGreatDoor
open Go.RowKit
set_option linter.unusedVariables false
set_option linter.unusedSimpArgs false
set_option maxRecDepth 100000 in
set_option maxHeartbeats 16000000 in
theorem impl_eliminate (R C cols : Nat) (p : Int) (A : Option Addr) (n cap : Nat) (f0 : Nat → Nat → Int) (w : World) {B : Nat} (h : OR w B (.slice A n cap) (tb R C f0)) (hR : R ≤ 24) (hC : C ≤ 48) (hcols : cols ≤ C) (hp : 2 ≤ p ∧ p ≤ 10000) (hf : ∀ i c, 0 ≤ f0 i c ∧ f0 i c < p) :
    Calls Tryz.prog 63 #[.agg #[.int .i64 R, .int .i64 C, .slice A n cap], .int .i64 cols, .int .i64 p] w (WW (.tuple #[.int .i64 (runE R cols p f0).t, .int .i64 (runE R cols p f0).d]) (.slice A n cap) B (tb R C (runE R cols p f0).f) w) := by
  obtain ⟨hp1, hp2⟩ := hp
  have HG : Hid (0 < R * C → ∃ g, A = some ⟨g, 0, none⟩ ∧ B ≤ g ∧ g < w.heap.size) := Lib.hid (fun h0 => h.begins (by rw [tb_len]; exact h0))
  have hok0 : EOk R p ⟨f0, 0, 1⟩ := ⟨hf, Nat.zero_le _, by show (0 : Int) ≤ 1 ∧ (1 : Int) < p; omega⟩
  have hrun : colsE R p (cols - 0) 0 ⟨f0, 0, 1⟩ = runE R cols p f0 := rfl
  generalize runE R cols p f0 = X at *
  clear hf
  go_enter Tryz.func63, Tryz.ntmps63
  go_wp2_with fail
  go_loopw [8, 9, 10] (fun vt vd vj wr => ∃ (j : Nat) (f : Nat → Nat → Int) (t : Nat) (d : Int), vj = .int .i64 j ∧ vt = .int .i64 t ∧ vd = .int .i64 d ∧ j ≤ cols ∧ EOk R p ⟨f, t, d⟩ ∧ colsE R p (cols - j) j ⟨f, t, d⟩ = X ∧ BM wr w.heap.size R C A n cap ∧ OR wr B (.slice A n cap) (tb R C f) ∧ w.grownBy wr (Value.slice A n cap).ownBlock) (fun _ _ v _ => cols - (intOf v).toNat)
  case atStart => exact ⟨0, f0, 0, 1, rfl, rfl, rfl, Nat.zero_le _, hok0, hrun, Ka, h.alloc _, by (with_reducible (repeat (first | assumption | exact World.grownBy.refl _ _ | refine only_alloc ?_ _ | refine only_drewN ?_ _ | refine only_drew ?_ | refine only_set ?_ _ _ | refine grown_far ?_ Ks _ | refine only_trans ?_ (only_of_below (by assumption) _) | refine only_trans ?_ (by assumption))))⟩
  case round =>
    clear h hok0 hrun
    obtain ⟨j, f, t, d, rfl, rfl, rfl, hj, hok, hcol0, hO, hown, hgr⟩ := hrel
    have hcol := Lib.hid hcol0
    obtain ⟨ht0, ⟨hd0, hd1⟩⟩ : t ≤ R ∧ (0 ≤ d ∧ d < p) := ⟨hok.t0, hok.d0⟩
    have HOK := Lib.hid hok
    clear hcol0 hok
    obtain ⟨oa, ob, oc, of, ol⟩ := hO.mx
    by_cases hjc : j < cols
    · by_cases htR : t < R
      · have hnx := Lib.hid (colsE_next (R := R) (p := p) (s := ⟨f, t, d⟩) hjc)
        obtain ⟨g, rfl, hg1, hg2⟩ := HG.out (Nat.mul_pos (by omega) (by omega))
        go_wp2_with fail
        obtain ⟨wo, rfl⟩ : ∃ wo : World, wo = wr := ⟨_, rfl⟩
        go_loopw [11] (fun v wr => ∃ k : Nat, v = .int .i64 k ∧ t ≤ k ∧ k ≤ R ∧ fnd f j (R - k) k = fnd f j (R - t) t ∧ BM wr w.heap.size R C (some ⟨g, 0, none⟩) n cap ∧ OR wr B (.slice (some ⟨g, 0, none⟩) n cap) (tb R C f) ∧ w.grownBy wr (some g)) (fun v _ => R - (intOf v).toNat)
        case atStart => exact ⟨t, rfl, Nat.le_refl _, by omega, rfl, hO, hown, hgr⟩
        case round =>
          clear hO hown hgr oa ob oc of ol
          obtain ⟨k, rfl, hk1, hk2, hfn0, hO, hown, hgr⟩ := hrel
          have hfn := Lib.hid hfn0
          clear hfn0
          obtain ⟨oa, ob, oc, of, ol⟩ := hO.mx
          by_cases hkR : k < R
          · by_cases hz : f k j = 0
            · have hfx := Lib.hid ((fnd_next hkR hz).symm.trans hfn.out)
              have HZ := Lib.hid hz
              clear hz
              go_wp2_with (go_at_call 33; refine (impl_at_tb R C _ _ _ n cap f 0 HZ.out _ (B := B) (Ko hown) (by omega) (by omega) (by omega) (by omega)).mono ?_; rintro e w1 ⟨rfl, hb⟩; have hO_1 : BM w1 w.heap.size R C (some ⟨g, 0, none⟩) n cap := (Kb hO); have hown_1 : OR w1 B (.slice (some ⟨g, 0, none⟩) n cap) (tb R C (f)) := (Ko hown); have hgr_1 : w.grownBy w1 (some g) := (by (with_reducible (repeat (first | assumption | exact World.grownBy.refl _ _ | refine only_alloc ?_ _ | refine only_drewN ?_ _ | refine only_drew ?_ | refine only_set ?_ _ _ | refine grown_far ?_ Ks _ | refine only_trans ?_ (only_of_below (by assumption) _) | refine only_trans ?_ (by assumption))))); clear hb; clear hO hown hgr oa ob oc of ol; have hO := hO_1; have hown := hown_1; have hgr := hgr_1; clear hO_1 hown_1 hgr_1; obtain ⟨oa, ob, oc, of, ol⟩ := hO.mx)
              go_roundw
              case rel => exact ⟨k + 1, by go_num, by omega, by omega, hfx.out, hO, hown, hgr⟩
              case measure => simp only [intOf]; omega
            · have hP : fnd f j (R - t) t = k := hfn.out.symm.trans (fnd_here hkR hz)
              have hce := colE_yes (p := p) (d := d) hP hkR
              have hxb : 0 ≤ f k j ∧ f k j < p := HOK.out.f0 k j
              have hokn := colE_ok hp1 HOK.out j
              generalize hy : f k j = y at hxb
              have HY := Lib.hid hy
              have hyb : (y == 0) = false := by simpa using (hy ▸ hz)
              clear hP hz hy
              have hkRb : ((k : Int) == (R : Int)) = false := by simp; omega
              have HCE0 := Lib.hid hce
              have HY1 : Hid (swF f k t t j = y) := Lib.hid (by rw [swF_t]; exact HY.out)
              have HF1 : Hid (∀ i c, 0 ≤ swF f k t i c ∧ swF f k t i c < p) := Lib.hid (fun i c => HOK.out.f0 _ _)
              clear hce
              by_cases hkt : k = t
              · have HCE1 : Hid (colE R p ⟨f, t, d⟩ j = ⟨elF (scF (swF f k t) t (invOf y p) p) t j p, t + 1, d * y % p⟩) := Lib.hid (by rw [HCE0.out, HY1.out, if_pos hkt])
                have hktb : ((k : Int) != (t : Int)) = false := by simp [hkt]
                have hsf : swF f k t = f := by rw [hkt]; exact swF_same f t
                rw [hsf] at HCE1 HY1 HF1
                clear HCE0 hsf hkt
                have HCE := HCE1
                clear HCE1
                go_wp2_with fail
                refine (impl_at_tb R C k j _ n cap f y HY.out _ (B := B) (Ko hown) (by omega) (by omega) (by omega) (by omega)).mono ?_
                rintro e w1 ⟨rfl, hb⟩
                have hO_1 : BM w1 w.heap.size R C (some ⟨g, 0, none⟩) n cap := (Kb hO); have hown_1 : OR w1 B (.slice (some ⟨g, 0, none⟩) n cap) (tb R C (f)) := (Ko hown); have hgr_1 : w.grownBy w1 (some g) := (by (with_reducible (repeat (first | assumption | exact World.grownBy.refl _ _ | refine only_alloc ?_ _ | refine only_drewN ?_ _ | refine only_drew ?_ | refine only_set ?_ _ _ | refine grown_far ?_ Ks _ | refine only_trans ?_ (only_of_below (by assumption) _) | refine only_trans ?_ (by assumption))))); clear hb; clear hO hown hgr oa ob oc of ol; have hO := hO_1; have hown := hown_1; have hgr := hgr_1; clear hO_1 hown_1 hgr_1; obtain ⟨oa, ob, oc, of, ol⟩ := hO.mx
                go_wp2_with fail
                have HC : Hid (colE R p ⟨f, t, d⟩ j = ⟨elF (scF f t (invOf y p) p) t j p, t + 1, d * y % p⟩) := Lib.hid HCE.out
                have hm1 := mul_bd d y 10000 10000 (by omega) (by omega) (by omega) (by omega)
                obtain ⟨hm2, hm3⟩ := hm1
                have hiv := emod_bds (egRes (y % p) p).2.1 p (by omega)
                rw [show (egRes (y % p) p).2.1 % p = invOf y p from rfl] at hiv
                obtain ⟨hiv1, hiv2⟩ := hiv
                generalize hx : invOf y p = x at *
                have HX := Lib.hid hx
                clear hx
                refine (impl_at_tb R C t j _ n cap f y HY1.out _ (B := B) (Ko hown) (by omega) (by omega) (by omega) (by omega)).mono ?_
                rintro e w1 ⟨rfl, hb⟩
                have hO_1 : BM w1 w.heap.size R C (some ⟨g, 0, none⟩) n cap := (Kb hO); have hown_1 : OR w1 B (.slice (some ⟨g, 0, none⟩) n cap) (tb R C (f)) := (Ko hown); have hgr_1 : w.grownBy w1 (some g) := (by (with_reducible (repeat (first | assumption | exact World.grownBy.refl _ _ | refine only_alloc ?_ _ | refine only_drewN ?_ _ | refine only_drew ?_ | refine only_set ?_ _ _ | refine grown_far ?_ Ks _ | refine only_trans ?_ (only_of_below (by assumption) _) | refine only_trans ?_ (by assumption))))); clear hb; clear hO hown hgr oa ob oc of ol; have hO := hO_1; have hown := hown_1; have hgr := hgr_1; clear hO_1 hown_1 hgr_1; obtain ⟨oa, ob, oc, of, ol⟩ := hO.mx
                go_wp2_with (go_at_call 64; refine (impl_mod _ _ _ (by omega) (by omega) (by omega) (by omega)).mono ?_; rintro e w' ⟨rfl, rfl⟩)
                refine (impl_at_tb R C t j _ n cap f y HY1.out _ (B := B) (Ko hown) (by omega) (by omega) (by omega) (by omega)).mono ?_
                rintro e w2 ⟨rfl, hb⟩
                have hO_1 : BM w2 w.heap.size R C (some ⟨g, 0, none⟩) n cap := (Kb hO); have hown_1 : OR w2 B (.slice (some ⟨g, 0, none⟩) n cap) (tb R C (f)) := (Ko hown); have hgr_1 : w.grownBy w2 (some g) := (by (with_reducible (repeat (first | assumption | exact World.grownBy.refl _ _ | refine only_alloc ?_ _ | refine only_drewN ?_ _ | refine only_drew ?_ | refine only_set ?_ _ _ | refine grown_far ?_ Ks _ | refine only_trans ?_ (only_of_below (by assumption) _) | refine only_trans ?_ (by assumption))))); clear hb; clear hO hown hgr oa ob oc of ol; have hO := hO_1; have hown := hown_1; have hgr := hgr_1; clear hO_1 hown_1 hgr_1; obtain ⟨oa, ob, oc, of, ol⟩ := hO.mx
                go_wp2_with (go_at_call 71; refine (impl_inverseAny y p (by omega) (by omega) _).mono ?_; rw [HX.out]; rintro e w1 ⟨rfl, hb⟩; have hO_1 : BM w1 w.heap.size R C (some ⟨g, 0, none⟩) n cap := (Kb hO); have hown_1 : OR w1 B (.slice (some ⟨g, 0, none⟩) n cap) (tb R C (f)) := (Ko hown); have hgr_1 : w.grownBy w1 (some g) := (by (with_reducible (repeat (first | assumption | exact World.grownBy.refl _ _ | refine only_alloc ?_ _ | refine only_drewN ?_ _ | refine only_drew ?_ | refine only_set ?_ _ _ | refine grown_far ?_ Ks _ | refine only_trans ?_ (only_of_below (by assumption) _) | refine only_trans ?_ (by assumption))))); clear hb; clear hO hown hgr oa ob oc of ol; have hO := hO_1; have hown := hown_1; have hgr := hgr_1; clear hO_1 hown_1 hgr_1; obtain ⟨oa, ob, oc, of, ol⟩ := hO.mx)
                obtain ⟨wo3, rfl⟩ : ∃ wo : World, wo = w1 := ⟨_, rfl⟩
                go_loopw [13] (fun v wr => ∃ c : Nat, v = .int .i64 c ∧ c ≤ C ∧ BM wr w.heap.size R C (some ⟨g, 0, none⟩) n cap ∧ OR wr B (.slice (some ⟨g, 0, none⟩) n cap) (tb R C (scK f t x p c)) ∧ w.grownBy wr (some g)) (fun v _ => C - (intOf v).toNat)
                case atStart => exact ⟨0, rfl, Nat.zero_le _, hO, by rw [scK_zero]; exact hown, hgr⟩
                case round =>
                  clear hO hown hgr oa ob oc of ol
                  obtain ⟨c, rfl, hc, hO, hown, hgr⟩ := hrel
                  obtain ⟨oa, ob, oc, of, ol⟩ := hO.mx
                  by_cases hcC : c < C
                  · have hzb := HF1.out t c
                    have HST := Lib.hid (scK_step f t x p c)
                    generalize hz : f t c = z at hzb HST
                    have HZ := Lib.hid hz
                    clear hz
                    have hm4 := mul_bd z x 10000 10000 (by omega) (by omega) (by omega) (by omega)
                    have g1 : IntKind.i64.wrap (z * x) = z * x := IntWalk.i64_in _ (by omega)
                    go_wp2_with fail
                    ((refine wp_region_held_drew (S := (fun w' => w'.cell? ⟨w.heap.size, 0, none⟩ = some (.int .i64 R) ∧ w'.cell? ⟨w.heap.size, 1, none⟩ = some (.int .i64 C) ∧ w'.cell? ⟨w.heap.size, 2, none⟩ = some (.slice (some ⟨g, 0, none⟩) n cap))) (by kernel_rfl) ?_ (fun hHeld => ?_)); ((focus ((try dsimp only); (go_keep)))); ((refine tk_ (i := 0) (v := ?_) (y := Or.inl ⟨by rfl, ?_⟩) (h := ?_); rotate_left; (focus (((intro w hSw; (try dsimp only at hSw); go_simp) <;> (try with_reducible rfl)); done)); (try simp only [Act.put, p1_, p2_, p3_]))); ((refine tk_ (i := 1) (v := ?_) (y := Or.inl ⟨by rfl, ?_⟩) (h := ?_); rotate_left; (focus (((intro w hSw; (try dsimp only at hSw); go_simp) <;> (try with_reducible rfl)); done)); (try simp only [Act.put, p1_, p2_, p3_]))); ((refine tk_ (i := 2) (v := ?_) (y := Or.inl ⟨by rfl, ?_⟩) (h := ?_); rotate_left; (focus (((intro w hSw; (try dsimp only at hSw); go_simp) <;> (try with_reducible rfl)); done)); (try simp only [Act.put, p1_, p2_, p3_]))); ((refine tk_ (i := 3) (v := ?_) (y := Or.inl ⟨by rfl, ?_⟩) (h := ?_); rotate_left; (focus (((intro w hSw; (try dsimp only at hSw); go_simp) <;> (try with_reducible rfl)); done)); (try simp only [Act.put, p1_, p2_, p3_]))); ((refine tk_ (i := 4) (v := ?_) (y := Or.inl ⟨by rfl, ?_⟩) (h := ?_); rotate_left; (focus (((intro w hSw; (try dsimp only at hSw); go_simp) <;> (try with_reducible rfl)); done)); (try simp only [Act.put, p1_, p2_, p3_]))); ((refine tk_ (i := 5) (v := ?_) (y := Or.inl ⟨by rfl, ?_⟩) (h := ?_); rotate_left; (focus (((intro w hSw; (try dsimp only at hSw); go_simp) <;> (try with_reducible rfl)); done)); (try simp only [Act.put, p1_, p2_, p3_]))); ((refine tk_ (i := 7) (v := ?_) (y := Or.inl ⟨by rfl, ?_⟩) (h := ?_); rotate_left; (focus (((intro w hSw; (try dsimp only at hSw); go_simp) <;> (try with_reducible rfl)); done)); (try simp only [Act.put, p1_, p2_, p3_]))); ((refine tk_ (i := 9) (v := ?_) (y := Or.inl ⟨by rfl, ?_⟩) (h := ?_); rotate_left; (focus (((intro w hSw; (try dsimp only at hSw); go_simp) <;> (try with_reducible rfl)); done)); (try simp only [Act.put, p1_, p2_, p3_]))); ((refine wpAnyH_ready (rs := [6]) (by kernel_rfl) (by simp) ?_; refine AllReadyH.cons (by simp only [e1_, e2_, e3_]; try rfl) (fun K hK => ?_) AllReadyH.nil; go_simp; (go_at_call 33; refine (impl_at_tb R C _ _ _ n cap (scK f t x p c) z ((scK_at _ _ _ _ _).trans HZ.out) _ (B := B) (Ko hown) (by omega) (by omega) (by omega) (by omega)).mono ?_; rintro e w1 ⟨rfl, hb⟩; have hO_1 : BM w1 w.heap.size R C (some ⟨g, 0, none⟩) n cap := (Kb hO); have hown_1 : OR w1 B (.slice (some ⟨g, 0, none⟩) n cap) (tb R C ((scK f t x p c))) := (Ko hown); have hgr_1 : w.grownBy w1 (some g) := (by (with_reducible (repeat (first | assumption | exact World.grownBy.refl _ _ | refine only_alloc ?_ _ | refine only_drewN ?_ _ | refine only_drew ?_ | refine only_set ?_ _ _ | refine grown_far ?_ Ks _ | refine only_trans ?_ (only_of_below (by assumption) _) | refine only_trans ?_ (by assumption))))); clear hb; clear hO hown hgr oa ob oc of ol; have hO := hO_1; have hown := hown_1; have hgr := hgr_1; clear hO_1 hown_1 hgr_1; obtain ⟨oa, ob, oc, of, ol⟩ := hO.mx); (try go_wp2_with fail); refine hK.out _ _ ?_ (fun hHeld => ?_); (focus ((try dsimp only); (go_keep))); clear hK K; (try simp only [Act.put, p1_, p2_, p3_]))); ((refine tk_ (i := 8) (v := ?_) (y := Or.inl ⟨by rfl, ?_⟩) (h := ?_); rotate_left; (focus (((intro w hSw; (try dsimp only at hSw); go_simp) <;> (try with_reducible rfl)); done)); (try simp only [Act.put, p1_, p2_, p3_]))); ((refine wpAnyH_ready (rs := [10]) (by kernel_rfl) (by simp) ?_; refine AllReadyH.cons (by simp only [e1_, e2_, e3_]; try rfl) (fun K hK => ?_) AllReadyH.nil; go_simp; (go_at_call 64; refine (impl_mod _ _ _ (by omega) (by omega) (by omega) (by omega)).mono ?_; rintro e w' ⟨rfl, rfl⟩); (try go_wp2_with fail); refine hK.out _ _ ?_ (fun hHeld => ?_); (focus ((try dsimp only); (go_keep))); clear hK K; (try simp only [Act.put, p1_, p2_, p3_]))); ((refine wpAnyH_ready (rs := [11]) (by kernel_rfl) (by simp) ?_; refine AllReadyH.cons (by simp only [e1_, e2_, e3_]; try rfl) (fun K hK => ?_) AllReadyH.nil; go_simp; (go_at_call 37; refine (impl_set_tb R C _ _ _ _ n cap (scK f t x p c) (scK f t x p (c + 1)) HST.out _ (B := B) (Ko hown) (by omega) (by omega) (by omega) (by omega)).mono ?_; rintro e w1 ⟨rfl, hown_1, hgr_0, hsz_0⟩; have hO_1 : BM w1 w.heap.size R C (some ⟨g, 0, none⟩) n cap := (hO.grown hgr_0 (by simp [Value.ownBlock]; omega)); have hgr_1 : w.grownBy w1 (some g) := (only_trans hgr hgr_0); clear hgr_0 hsz_0; clear hO hown hgr oa ob oc of ol; have hO := hO_1; have hown := hown_1; have hgr := hgr_1; clear hO_1 hown_1 hgr_1; obtain ⟨oa, ob, oc, of, ol⟩ := hO.mx); (try go_wp2_with fail); refine hK.out _ _ ?_ (fun hHeld => ?_); (focus ((try dsimp only); (go_keep))); clear hK K; (try simp only [Act.put, p1_, p2_, p3_]))); (refine wpAnyH_done (by kernel_rfl) ?_ _))
                    clear g1
                    go_wp2
                    go_roundw
                    case rel => exact ⟨c + 1, by go_num, by omega, hO, hown, hgr⟩
                    case measure => simp only [intOf]; omega
                  · obtain rfl : C = c := by omega
                    have hown2 := hown.as (scK_end f t x p)
                    have HF2 : Hid (∀ i c, 0 ≤ scF f t x p i c ∧ scF f t x p i c < p) := Lib.hid (fun i c => by
                      unfold scF
                      split
                      · exact emod_bds _ _ (by omega)
                      · exact HF1.out i c)
                    clear hown
                    have hown := hown2
                    clear hown2
                    have hokn2 := hokn
                    have hnx2 := hnx.out
                    rw [HC.out] at hokn2 hnx2
                    have HOKN := Lib.hid hokn2
                    have HCOL := Lib.hid (hnx2.symm.trans hcol.out)
                    clear hokn2 hnx2
                    generalize scF f t x p = F2 at *
                    go_wp2_with fail
                    obtain ⟨wo4, rfl⟩ : ∃ wo : World, wo = wr := ⟨_, rfl⟩
                    go_loopw [14, 15, 16] (fun v _ _ wr => ∃ i : Nat, v = .int .i64 i ∧ i ≤ R ∧ BM wr w.heap.size R C (some ⟨g, 0, none⟩) n cap ∧ OR wr B (.slice (some ⟨g, 0, none⟩) n cap) (tb R C (elK F2 t j p i 0)) ∧ w.grownBy wr (some g)) (fun v _ _ _ => R - (intOf v).toNat)
                    case atStart => exact ⟨0, rfl, Nat.zero_le _, hO, by rw [elK_zero]; exact hown, hgr⟩
                    case round =>
                      clear hO hown hgr oa ob oc of ol
                      obtain ⟨i, rfl, hi, hO, hown, hgr⟩ := hrel
                      obtain ⟨oa, ob, oc, of, ol⟩ := hO.mx
                      by_cases hiR : i < R
                      · have hqb := HF2.out i j
                        have HAT0 := Lib.hid (elK_at F2 t j p i 0 j (Nat.zero_le _))
                        generalize hq : F2 i j = q at hqb HAT0
                        have HQ := Lib.hid hq
                        clear hq
                        by_cases hit : i = t
                        · have hb1 : ((i : Int) != (t : Int)) = false := by simp [hit]
                          have hnx3 := hown.as (elK_skip' F2 j p hit)
                          clear hit
                          go_wp2_with (go_at_call 33; refine (impl_at_tb R C _ _ _ n cap (elK F2 t j p i 0) q HAT0.out _ (B := B) (Ko hown) (by omega) (by omega) (by omega) (by omega)).mono ?_; rintro e w1 ⟨rfl, hb⟩; (have hnx4 : OR w1 B (.slice (some ⟨g, 0, none⟩) n cap) (tb R C (elK F2 t j p (i + 1) 0)) := (Ko hnx3)); have hO_1 : BM w1 w.heap.size R C (some ⟨g, 0, none⟩) n cap := (Kb hO); have hown_1 : OR w1 B (.slice (some ⟨g, 0, none⟩) n cap) (tb R C ((elK F2 t j p i 0))) := (Ko hown); have hgr_1 : w.grownBy w1 (some g) := (by (with_reducible (repeat (first | assumption | exact World.grownBy.refl _ _ | refine only_alloc ?_ _ | refine only_drewN ?_ _ | refine only_drew ?_ | refine only_set ?_ _ _ | refine grown_far ?_ Ks _ | refine only_trans ?_ (only_of_below (by assumption) _) | refine only_trans ?_ (by assumption))))); clear hb; clear hO hown hgr oa ob oc of ol; have hO := hO_1; have hown := hown_1; have hgr := hgr_1; clear hO_1 hown_1 hgr_1; obtain ⟨oa, ob, oc, of, ol⟩ := hO.mx)
                          refine wp_loop_rounds 1 ?_
                          rw [rounds_succ]
                          go_wp2
                          go_roundw
                          case rel => exact ⟨i + 1, by go_num, by omega, hO, hnx4, hgr⟩
                          case measure => simp only [intOf]; omega
                        · have hb1 : ((i : Int) != (t : Int)) = true := by simp; omega
                          have HIT := Lib.hid hit
                          clear hit
                          go_wp2_with (go_at_call 33; refine (impl_at_tb R C _ _ _ n cap (elK F2 t j p i 0) q HAT0.out _ (B := B) (Ko hown) (by omega) (by omega) (by omega) (by omega)).mono ?_; rintro e w1 ⟨rfl, hb⟩; have hO_1 : BM w1 w.heap.size R C (some ⟨g, 0, none⟩) n cap := (Kb hO); have hown_1 : OR w1 B (.slice (some ⟨g, 0, none⟩) n cap) (tb R C ((elK F2 t j p i 0))) := (Ko hown); have hgr_1 : w.grownBy w1 (some g) := (by (with_reducible (repeat (first | assumption | exact World.grownBy.refl _ _ | refine only_alloc ?_ _ | refine only_drewN ?_ _ | refine only_drew ?_ | refine only_set ?_ _ _ | refine grown_far ?_ Ks _ | refine only_trans ?_ (only_of_below (by assumption) _) | refine only_trans ?_ (by assumption))))); clear hb; clear hO hown hgr oa ob oc of ol; have hO := hO_1; have hown := hown_1; have hgr := hgr_1; clear hO_1 hown_1 hgr_1; obtain ⟨oa, ob, oc, of, ol⟩ := hO.mx)
                          obtain ⟨wo5, rfl⟩ : ∃ wo : World, wo = w1 := ⟨_, rfl⟩
                          go_loopw [16] (fun v wr => ∃ c : Nat, v = .int .i64 c ∧ c ≤ C ∧ BM wr w.heap.size R C (some ⟨g, 0, none⟩) n cap ∧ OR wr B (.slice (some ⟨g, 0, none⟩) n cap) (tb R C (elK F2 t j p i c)) ∧ w.grownBy wr (some g)) (fun v _ => C - (intOf v).toNat)
                          case atStart => exact ⟨0, rfl, Nat.zero_le _, hO, hown, hgr⟩
                          case round =>
                            clear hO hown hgr oa ob oc of ol
                            obtain ⟨c, rfl, hc, hO, hown, hgr⟩ := hrel
                            obtain ⟨oa, ob, oc, of, ol⟩ := hO.mx
                            by_cases hcC : c < C
                            · have hz1 := HF2.out i c
                              have hz2 := HF2.out t c
                              have HA1 := Lib.hid (elK_at F2 t j p i c c (Nat.le_refl _))
                              have HA2 := Lib.hid (elK_t F2 t j p i c c)
                              have hst := elK_step (f := F2) (j := j) p c HIT.out
                              unfold elAt at hst
                              rw [HQ.out] at hst
                              have HST := Lib.hid hst
                              clear hst
                              generalize F2 i c = z1 at *
                              generalize F2 t c = z2 at *
                              have hm5 := mul_bd q z2 10000 10000 (by omega) (by omega) (by omega) (by omega)
                              have g1 : IntKind.i64.wrap (q * z2) = q * z2 := IntWalk.i64_in _ (by omega)
                              have g2 : IntKind.i64.wrap (z1 - q * z2) = z1 - q * z2 := IntWalk.i64_in _ (by omega)
                              go_wp2_with fail
                              ((refine wp_region_held_drew (S := (fun w' => w'.cell? ⟨w.heap.size, 0, none⟩ = some (.int .i64 R) ∧ w'.cell? ⟨w.heap.size, 1, none⟩ = some (.int .i64 C) ∧ w'.cell? ⟨w.heap.size, 2, none⟩ = some (.slice (some ⟨g, 0, none⟩) n cap))) (by kernel_rfl) ?_ (fun hHeld => ?_)); ((focus ((try dsimp only); (go_keep)))); ((refine tk_ (i := 0) (v := ?_) (y := Or.inl ⟨by rfl, ?_⟩) (h := ?_); rotate_left; (focus (((intro w hSw; (try dsimp only at hSw); go_simp) <;> (try with_reducible rfl)); done)); (try simp only [Act.put, p1_, p2_, p3_]))); ((refine tk_ (i := 1) (v := ?_) (y := Or.inl ⟨by rfl, ?_⟩) (h := ?_); rotate_left; (focus (((intro w hSw; (try dsimp only at hSw); go_simp) <;> (try with_reducible rfl)); done)); (try simp only [Act.put, p1_, p2_, p3_]))); ((refine tk_ (i := 2) (v := ?_) (y := Or.inl ⟨by rfl, ?_⟩) (h := ?_); rotate_left; (focus (((intro w hSw; (try dsimp only at hSw); go_simp) <;> (try with_reducible rfl)); done)); (try simp only [Act.put, p1_, p2_, p3_]))); ((refine tk_ (i := 3) (v := ?_) (y := Or.inl ⟨by rfl, ?_⟩) (h := ?_); rotate_left; (focus (((intro w hSw; (try dsimp only at hSw); go_simp) <;> (try with_reducible rfl)); done)); (try simp only [Act.put, p1_, p2_, p3_]))); ((refine tk_ (i := 4) (v := ?_) (y := Or.inl ⟨by rfl, ?_⟩) (h := ?_); rotate_left; (focus (((intro w hSw; (try dsimp only at hSw); go_simp) <;> (try with_reducible rfl)); done)); (try simp only [Act.put, p1_, p2_, p3_]))); ((refine tk_ (i := 5) (v := ?_) (y := Or.inl ⟨by rfl, ?_⟩) (h := ?_); rotate_left; (focus (((intro w hSw; (try dsimp only at hSw); go_simp) <;> (try with_reducible rfl)); done)); (try simp only [Act.put, p1_, p2_, p3_]))); ((refine tk_ (i := 7) (v := ?_) (y := Or.inl ⟨by rfl, ?_⟩) (h := ?_); rotate_left; (focus (((intro w hSw; (try dsimp only at hSw); go_simp) <;> (try with_reducible rfl)); done)); (try simp only [Act.put, p1_, p2_, p3_]))); ((refine tk_ (i := 8) (v := ?_) (y := Or.inl ⟨by rfl, ?_⟩) (h := ?_); rotate_left; (focus (((intro w hSw; (try dsimp only at hSw); go_simp) <;> (try with_reducible rfl)); done)); (try simp only [Act.put, p1_, p2_, p3_]))); ((refine tk_ (i := 9) (v := ?_) (y := Or.inl ⟨by rfl, ?_⟩) (h := ?_); rotate_left; (focus (((intro w hSw; (try dsimp only at hSw); go_simp) <;> (try with_reducible rfl)); done)); (try simp only [Act.put, p1_, p2_, p3_]))); ((refine tk_ (i := 10) (v := ?_) (y := Or.inl ⟨by rfl, ?_⟩) (h := ?_); rotate_left; (focus (((intro w hSw; (try dsimp only at hSw); go_simp) <;> (try with_reducible rfl)); done)); (try simp only [Act.put, p1_, p2_, p3_]))); ((refine tk_ (i := 14) (v := ?_) (y := Or.inl ⟨by rfl, ?_⟩) (h := ?_); rotate_left; (focus (((intro w hSw; (try dsimp only at hSw); go_simp) <;> (try with_reducible rfl)); done)); (try simp only [Act.put, p1_, p2_, p3_]))); ((refine wpAnyH_ready (rs := [6]) (by kernel_rfl) (by simp) ?_; refine AllReadyH.cons (by simp only [e1_, e2_, e3_]; try rfl) (fun K hK => ?_) AllReadyH.nil; go_simp; (go_at_call 33; refine (impl_at_tb R C _ _ _ n cap (elK F2 t j p i c) z1 HA1.out _ (B := B) (Ko hown) (by omega) (by omega) (by omega) (by omega)).mono ?_; rintro e w1 ⟨rfl, hb⟩; have hO_1 : BM w1 w.heap.size R C (some ⟨g, 0, none⟩) n cap := (Kb hO); have hown_1 : OR w1 B (.slice (some ⟨g, 0, none⟩) n cap) (tb R C ((elK F2 t j p i c))) := (Ko hown); have hgr_1 : w.grownBy w1 (some g) := (by (with_reducible (repeat (first | assumption | exact World.grownBy.refl _ _ | refine only_alloc ?_ _ | refine only_drewN ?_ _ | refine only_drew ?_ | refine only_set ?_ _ _ | refine grown_far ?_ Ks _ | refine only_trans ?_ (only_of_below (by assumption) _) | refine only_trans ?_ (by assumption))))); clear hb; clear hO hown hgr oa ob oc of ol; have hO := hO_1; have hown := hown_1; have hgr := hgr_1; clear hO_1 hown_1 hgr_1; obtain ⟨oa, ob, oc, of, ol⟩ := hO.mx); (try go_wp2_with fail); refine hK.out _ _ ?_ (fun hHeld => ?_); (focus ((try dsimp only); (go_keep))); clear hK K; (try simp only [Act.put, p1_, p2_, p3_]))); ((refine wpAnyH_ready (rs := [11]) (by kernel_rfl) (by simp) ?_; refine AllReadyH.cons (by simp only [e1_, e2_, e3_]; try rfl) (fun K hK => ?_) AllReadyH.nil; go_simp; (go_at_call 33; refine (impl_at_tb R C _ _ _ n cap (elK F2 t j p i c) z2 HA2.out _ (B := B) (Ko hown) (by omega) (by omega) (by omega) (by omega)).mono ?_; rintro e w1 ⟨rfl, hb⟩; have hO_1 : BM w1 w.heap.size R C (some ⟨g, 0, none⟩) n cap := (Kb hO); have hown_1 : OR w1 B (.slice (some ⟨g, 0, none⟩) n cap) (tb R C ((elK F2 t j p i c))) := (Ko hown); have hgr_1 : w.grownBy w1 (some g) := (by (with_reducible (repeat (first | assumption | exact World.grownBy.refl _ _ | refine only_alloc ?_ _ | refine only_drewN ?_ _ | refine only_drew ?_ | refine only_set ?_ _ _ | refine grown_far ?_ Ks _ | refine only_trans ?_ (only_of_below (by assumption) _) | refine only_trans ?_ (by assumption))))); clear hb; clear hO hown hgr oa ob oc of ol; have hO := hO_1; have hown := hown_1; have hgr := hgr_1; clear hO_1 hown_1 hgr_1; obtain ⟨oa, ob, oc, of, ol⟩ := hO.mx); (try go_wp2_with fail); refine hK.out _ _ ?_ (fun hHeld => ?_); (focus ((try dsimp only); (go_keep))); clear hK K; (try simp only [Act.put, p1_, p2_, p3_]))); ((refine tk_ (i := 12) (v := ?_) (y := Or.inl ⟨by rfl, ?_⟩) (h := ?_); rotate_left; (focus (((intro w hSw; (try dsimp only at hSw); go_simp) <;> (try with_reducible rfl)); done)); (try simp only [Act.put, p1_, p2_, p3_]))); ((refine tk_ (i := 13) (v := ?_) (y := Or.inl ⟨by rfl, ?_⟩) (h := ?_); rotate_left; (focus (((intro w hSw; (try dsimp only at hSw); go_simp) <;> (try with_reducible rfl)); done)); (try simp only [Act.put, p1_, p2_, p3_]))); ((refine wpAnyH_ready (rs := [15]) (by kernel_rfl) (by simp) ?_; refine AllReadyH.cons (by simp only [e1_, e2_, e3_]; try rfl) (fun K hK => ?_) AllReadyH.nil; go_simp; (go_at_call 64; refine (impl_mod _ _ _ (by omega) (by omega) (by omega) (by omega)).mono ?_; rintro e w' ⟨rfl, rfl⟩); (try go_wp2_with fail); refine hK.out _ _ ?_ (fun hHeld => ?_); (focus ((try dsimp only); (go_keep))); clear hK K; (try simp only [Act.put, p1_, p2_, p3_]))); ((refine wpAnyH_ready (rs := [16]) (by kernel_rfl) (by simp) ?_; refine AllReadyH.cons (by simp only [e1_, e2_, e3_]; try rfl) (fun K hK => ?_) AllReadyH.nil; go_simp; (go_at_call 37; refine (impl_set_tb R C _ _ _ _ n cap (elK F2 t j p i c) (elK F2 t j p i (c + 1)) HST.out _ (B := B) (Ko hown) (by omega) (by omega) (by omega) (by omega)).mono ?_; rintro e w1 ⟨rfl, hown_1, hgr_0, hsz_0⟩; have hO_1 : BM w1 w.heap.size R C (some ⟨g, 0, none⟩) n cap := (hO.grown hgr_0 (by simp [Value.ownBlock]; omega)); have hgr_1 : w.grownBy w1 (some g) := (only_trans hgr hgr_0); clear hgr_0 hsz_0; clear hO hown hgr oa ob oc of ol; have hO := hO_1; have hown := hown_1; have hgr := hgr_1; clear hO_1 hown_1 hgr_1; obtain ⟨oa, ob, oc, of, ol⟩ := hO.mx); (try go_wp2_with fail); refine hK.out _ _ ?_ (fun hHeld => ?_); (focus ((try dsimp only); (go_keep))); clear hK K; (try simp only [Act.put, p1_, p2_, p3_]))); (refine wpAnyH_done (by kernel_rfl) ?_ _))
                              clear g1 g2
                              go_wp2
                              go_roundw
                              case rel => exact ⟨c + 1, by go_num, by omega, hO, hown, hgr⟩
                              case measure => simp only [intOf]; omega
                            · obtain rfl : C = c := by omega
                              have hnx3 := hown.as (elK_row F2 t j p i)
                              go_wp2
                              go_roundw
                              case rel => exact ⟨i + 1, by go_num, by omega, hO, hnx3, hgr⟩
                              case measure => simp only [intOf]; omega
                      · obtain rfl : R = i := by omega
                        have hnx3 := hown.as (elK_end F2 t j p)
                        go_wp2
                        go_roundw
                        case rel => exact ⟨j + 1, _, t + 1, _, by go_num, by go_num, rfl, by omega, HOKN.out, HCOL.out, hO, hnx3, hgr⟩
                        case measure => simp only [intOf]; omega
              · have HCE1 : Hid (colE R p ⟨f, t, d⟩ j = ⟨elF (scF (swF f k t) t (invOf y p) p) t j p, t + 1, ((-d) % p) * y % p⟩) := Lib.hid (by rw [HCE0.out, HY1.out, if_neg hkt])
                have hktb : ((k : Int) != (t : Int)) = true := by simp; omega
                have hdm := emod_bds (-d) p (by omega)
                obtain ⟨hdm1, hdm2⟩ := hdm
                have HKT := Lib.hid hkt
                clear HCE0 hkt
                have HCE := HCE1
                clear HCE1
                go_wp2_with fail
                refine (impl_at_tb R C k j _ n cap f y HY.out _ (B := B) (Ko hown) (by omega) (by omega) (by omega) (by omega)).mono ?_
                rintro e w1 ⟨rfl, hb⟩
                have hO_1 : BM w1 w.heap.size R C (some ⟨g, 0, none⟩) n cap := (Kb hO); have hown_1 : OR w1 B (.slice (some ⟨g, 0, none⟩) n cap) (tb R C (f)) := (Ko hown); have hgr_1 : w.grownBy w1 (some g) := (by (with_reducible (repeat (first | assumption | exact World.grownBy.refl _ _ | refine only_alloc ?_ _ | refine only_drewN ?_ _ | refine only_drew ?_ | refine only_set ?_ _ _ | refine grown_far ?_ Ks _ | refine only_trans ?_ (only_of_below (by assumption) _) | refine only_trans ?_ (by assumption))))); clear hb; clear hO hown hgr oa ob oc of ol; have hO := hO_1; have hown := hown_1; have hgr := hgr_1; clear hO_1 hown_1 hgr_1; obtain ⟨oa, ob, oc, of, ol⟩ := hO.mx
                go_wp2_with fail
                refine (impl_rowOp_swap R C k t 0 _ n cap f _ (B := B) (Ko hown) hkR htR HKT.out (by omega) hC hR).mono ?_
                rintro e w2 ⟨rfl, hown_1, hgr_0, hsz_0⟩
                have hO_1 : BM w2 w.heap.size R C (some ⟨g, 0, none⟩) n cap := (hO.grown hgr_0 (by simp [Value.ownBlock]; omega))
                have hgr_1 : w.grownBy w2 (some g) := only_trans hgr hgr_0
                clear hgr_0 hsz_0
                clear hO hown hgr oa ob oc of ol; have hO := hO_1; have hown := hown_1; have hgr := hgr_1; clear hO_1 hown_1 hgr_1; obtain ⟨oa, ob, oc, of, ol⟩ := hO.mx
                generalize swF f k t = F1 at *
                generalize hd1 : (-d) % p = d1 at *
                have HD1 := Lib.hid hd1
                clear hd1
                go_wp2_with (go_at_call 64; refine (impl_mod (-d) p _ (by omega) (by omega) (by omega) (by omega)).mono ?_; rw [HD1.out]; rintro e w' ⟨rfl, rfl⟩)
                have HC : Hid (colE R p ⟨f, t, d⟩ j = ⟨elF (scF F1 t (invOf y p) p) t j p, t + 1, d1 * y % p⟩) := Lib.hid HCE.out
                have hm1 := mul_bd d1 y 10000 10000 (by omega) (by omega) (by omega) (by omega)
                obtain ⟨hm2, hm3⟩ := hm1
                have hiv := emod_bds (egRes (y % p) p).2.1 p (by omega)
                rw [show (egRes (y % p) p).2.1 % p = invOf y p from rfl] at hiv
                obtain ⟨hiv1, hiv2⟩ := hiv
                generalize hx : invOf y p = x at *
                have HX := Lib.hid hx
                clear hx
                refine (impl_at_tb R C t j _ n cap F1 y HY1.out _ (B := B) (Ko hown) (by omega) (by omega) (by omega) (by omega)).mono ?_
                rintro e w1 ⟨rfl, hb⟩
                have hO_1 : BM w1 w.heap.size R C (some ⟨g, 0, none⟩) n cap := (Kb hO); have hown_1 : OR w1 B (.slice (some ⟨g, 0, none⟩) n cap) (tb R C (F1)) := (Ko hown); have hgr_1 : w.grownBy w1 (some g) := (by (with_reducible (repeat (first | assumption | exact World.grownBy.refl _ _ | refine only_alloc ?_ _ | refine only_drewN ?_ _ | refine only_drew ?_ | refine only_set ?_ _ _ | refine grown_far ?_ Ks _ | refine only_trans ?_ (only_of_below (by assumption) _) | refine only_trans ?_ (by assumption))))); clear hb; clear hO hown hgr oa ob oc of ol; have hO := hO_1; have hown := hown_1; have hgr := hgr_1; clear hO_1 hown_1 hgr_1; obtain ⟨oa, ob, oc, of, ol⟩ := hO.mx
                go_wp2_with (go_at_call 64; refine (impl_mod _ _ _ (by omega) (by omega) (by omega) (by omega)).mono ?_; rintro e w' ⟨rfl, rfl⟩)
                refine (impl_at_tb R C t j _ n cap F1 y HY1.out _ (B := B) (Ko hown) (by omega) (by omega) (by omega) (by omega)).mono ?_
                rintro e w2 ⟨rfl, hb⟩
                have hO_1 : BM w2 w.heap.size R C (some ⟨g, 0, none⟩) n cap := (Kb hO); have hown_1 : OR w2 B (.slice (some ⟨g, 0, none⟩) n cap) (tb R C (F1)) := (Ko hown); have hgr_1 : w.grownBy w2 (some g) := (by (with_reducible (repeat (first | assumption | exact World.grownBy.refl _ _ | refine only_alloc ?_ _ | refine only_drewN ?_ _ | refine only_drew ?_ | refine only_set ?_ _ _ | refine grown_far ?_ Ks _ | refine only_trans ?_ (only_of_below (by assumption) _) | refine only_trans ?_ (by assumption))))); clear hb; clear hO hown hgr oa ob oc of ol; have hO := hO_1; have hown := hown_1; have hgr := hgr_1; clear hO_1 hown_1 hgr_1; obtain ⟨oa, ob, oc, of, ol⟩ := hO.mx
                go_wp2_with (go_at_call 71; refine (impl_inverseAny y p (by omega) (by omega) _).mono ?_; rw [HX.out]; rintro e w1 ⟨rfl, hb⟩; have hO_1 : BM w1 w.heap.size R C (some ⟨g, 0, none⟩) n cap := (Kb hO); have hown_1 : OR w1 B (.slice (some ⟨g, 0, none⟩) n cap) (tb R C (F1)) := (Ko hown); have hgr_1 : w.grownBy w1 (some g) := (by (with_reducible (repeat (first | assumption | exact World.grownBy.refl _ _ | refine only_alloc ?_ _ | refine only_drewN ?_ _ | refine only_drew ?_ | refine only_set ?_ _ _ | refine grown_far ?_ Ks _ | refine only_trans ?_ (only_of_below (by assumption) _) | refine only_trans ?_ (by assumption))))); clear hb; clear hO hown hgr oa ob oc of ol; have hO := hO_1; have hown := hown_1; have hgr := hgr_1; clear hO_1 hown_1 hgr_1; obtain ⟨oa, ob, oc, of, ol⟩ := hO.mx)
                obtain ⟨wo3, rfl⟩ : ∃ wo : World, wo = w1 := ⟨_, rfl⟩
                go_loopw [13] (fun v wr => ∃ c : Nat, v = .int .i64 c ∧ c ≤ C ∧ BM wr w.heap.size R C (some ⟨g, 0, none⟩) n cap ∧ OR wr B (.slice (some ⟨g, 0, none⟩) n cap) (tb R C (scK F1 t x p c)) ∧ w.grownBy wr (some g)) (fun v _ => C - (intOf v).toNat)
                case atStart => exact ⟨0, rfl, Nat.zero_le _, hO, by rw [scK_zero]; exact hown, hgr⟩
                case round =>
                  clear hO hown hgr oa ob oc of ol
                  obtain ⟨c, rfl, hc, hO, hown, hgr⟩ := hrel
                  obtain ⟨oa, ob, oc, of, ol⟩ := hO.mx
                  by_cases hcC : c < C
                  · have hzb := HF1.out t c
                    have HST := Lib.hid (scK_step F1 t x p c)
                    generalize hz : F1 t c = z at hzb HST
                    have HZ := Lib.hid hz
                    clear hz
                    have hm4 := mul_bd z x 10000 10000 (by omega) (by omega) (by omega) (by omega)
                    have g1 : IntKind.i64.wrap (z * x) = z * x := IntWalk.i64_in _ (by omega)
                    go_wp2_with fail
                    ((refine wp_region_held_drew (S := (fun w' => w'.cell? ⟨w.heap.size, 0, none⟩ = some (.int .i64 R) ∧ w'.cell? ⟨w.heap.size, 1, none⟩ = some (.int .i64 C) ∧ w'.cell? ⟨w.heap.size, 2, none⟩ = some (.slice (some ⟨g, 0, none⟩) n cap))) (by kernel_rfl) ?_ (fun hHeld => ?_)); ((focus ((try dsimp only); (go_keep)))); ((refine tk_ (i := 0) (v := ?_) (y := Or.inl ⟨by rfl, ?_⟩) (h := ?_); rotate_left; (focus (((intro w hSw; (try dsimp only at hSw); go_simp) <;> (try with_reducible rfl)); done)); (try simp only [Act.put, p1_, p2_, p3_]))); ((refine tk_ (i := 1) (v := ?_) (y := Or.inl ⟨by rfl, ?_⟩) (h := ?_); rotate_left; (focus (((intro w hSw; (try dsimp only at hSw); go_simp) <;> (try with_reducible rfl)); done)); (try simp only [Act.put, p1_, p2_, p3_]))); ((refine tk_ (i := 2) (v := ?_) (y := Or.inl ⟨by rfl, ?_⟩) (h := ?_); rotate_left; (focus (((intro w hSw; (try dsimp only at hSw); go_simp) <;> (try with_reducible rfl)); done)); (try simp only [Act.put, p1_, p2_, p3_]))); ((refine tk_ (i := 3) (v := ?_) (y := Or.inl ⟨by rfl, ?_⟩) (h := ?_); rotate_left; (focus (((intro w hSw; (try dsimp only at hSw); go_simp) <;> (try with_reducible rfl)); done)); (try simp only [Act.put, p1_, p2_, p3_]))); ((refine tk_ (i := 4) (v := ?_) (y := Or.inl ⟨by rfl, ?_⟩) (h := ?_); rotate_left; (focus (((intro w hSw; (try dsimp only at hSw); go_simp) <;> (try with_reducible rfl)); done)); (try simp only [Act.put, p1_, p2_, p3_]))); ((refine tk_ (i := 5) (v := ?_) (y := Or.inl ⟨by rfl, ?_⟩) (h := ?_); rotate_left; (focus (((intro w hSw; (try dsimp only at hSw); go_simp) <;> (try with_reducible rfl)); done)); (try simp only [Act.put, p1_, p2_, p3_]))); ((refine tk_ (i := 7) (v := ?_) (y := Or.inl ⟨by rfl, ?_⟩) (h := ?_); rotate_left; (focus (((intro w hSw; (try dsimp only at hSw); go_simp) <;> (try with_reducible rfl)); done)); (try simp only [Act.put, p1_, p2_, p3_]))); ((refine tk_ (i := 9) (v := ?_) (y := Or.inl ⟨by rfl, ?_⟩) (h := ?_); rotate_left; (focus (((intro w hSw; (try dsimp only at hSw); go_simp) <;> (try with_reducible rfl)); done)); (try simp only [Act.put, p1_, p2_, p3_]))); ((refine wpAnyH_ready (rs := [6]) (by kernel_rfl) (by simp) ?_; refine AllReadyH.cons (by simp only [e1_, e2_, e3_]; try rfl) (fun K hK => ?_) AllReadyH.nil; go_simp; (go_at_call 33; refine (impl_at_tb R C _ _ _ n cap (scK F1 t x p c) z ((scK_at _ _ _ _ _).trans HZ.out) _ (B := B) (Ko hown) (by omega) (by omega) (by omega) (by omega)).mono ?_; rintro e w1 ⟨rfl, hb⟩; have hO_1 : BM w1 w.heap.size R C (some ⟨g, 0, none⟩) n cap := (Kb hO); have hown_1 : OR w1 B (.slice (some ⟨g, 0, none⟩) n cap) (tb R C ((scK F1 t x p c))) := (Ko hown); have hgr_1 : w.grownBy w1 (some g) := (by (with_reducible (repeat (first | assumption | exact World.grownBy.refl _ _ | refine only_alloc ?_ _ | refine only_drewN ?_ _ | refine only_drew ?_ | refine only_set ?_ _ _ | refine grown_far ?_ Ks _ | refine only_trans ?_ (only_of_below (by assumption) _) | refine only_trans ?_ (by assumption))))); clear hb; clear hO hown hgr oa ob oc of ol; have hO := hO_1; have hown := hown_1; have hgr := hgr_1; clear hO_1 hown_1 hgr_1; obtain ⟨oa, ob, oc, of, ol⟩ := hO.mx); (try go_wp2_with fail); refine hK.out _ _ ?_ (fun hHeld => ?_); (focus ((try dsimp only); (go_keep))); clear hK K; (try simp only [Act.put, p1_, p2_, p3_]))); ((refine tk_ (i := 8) (v := ?_) (y := Or.inl ⟨by rfl, ?_⟩) (h := ?_); rotate_left; (focus (((intro w hSw; (try dsimp only at hSw); go_simp) <;> (try with_reducible rfl)); done)); (try simp only [Act.put, p1_, p2_, p3_]))); ((refine wpAnyH_ready (rs := [10]) (by kernel_rfl) (by simp) ?_; refine AllReadyH.cons (by simp only [e1_, e2_, e3_]; try rfl) (fun K hK => ?_) AllReadyH.nil; go_simp; (go_at_call 64; refine (impl_mod _ _ _ (by omega) (by omega) (by omega) (by omega)).mono ?_; rintro e w' ⟨rfl, rfl⟩); (try go_wp2_with fail); refine hK.out _ _ ?_ (fun hHeld => ?_); (focus ((try dsimp only); (go_keep))); clear hK K; (try simp only [Act.put, p1_, p2_, p3_]))); ((refine wpAnyH_ready (rs := [11]) (by kernel_rfl) (by simp) ?_; refine AllReadyH.cons (by simp only [e1_, e2_, e3_]; try rfl) (fun K hK => ?_) AllReadyH.nil; go_simp; (go_at_call 37; refine (impl_set_tb R C _ _ _ _ n cap (scK F1 t x p c) (scK F1 t x p (c + 1)) HST.out _ (B := B) (Ko hown) (by omega) (by omega) (by omega) (by omega)).mono ?_; rintro e w1 ⟨rfl, hown_1, hgr_0, hsz_0⟩; have hO_1 : BM w1 w.heap.size R C (some ⟨g, 0, none⟩) n cap := (hO.grown hgr_0 (by simp [Value.ownBlock]; omega)); have hgr_1 : w.grownBy w1 (some g) := (only_trans hgr hgr_0); clear hgr_0 hsz_0; clear hO hown hgr oa ob oc of ol; have hO := hO_1; have hown := hown_1; have hgr := hgr_1; clear hO_1 hown_1 hgr_1; obtain ⟨oa, ob, oc, of, ol⟩ := hO.mx); (try go_wp2_with fail); refine hK.out _ _ ?_ (fun hHeld => ?_); (focus ((try dsimp only); (go_keep))); clear hK K; (try simp only [Act.put, p1_, p2_, p3_]))); (refine wpAnyH_done (by kernel_rfl) ?_ _))
                    clear g1
                    go_wp2
                    go_roundw
                    case rel => exact ⟨c + 1, by go_num, by omega, hO, hown, hgr⟩
                    case measure => simp only [intOf]; omega
                  · obtain rfl : C = c := by omega
                    have hown2 := hown.as (scK_end F1 t x p)
                    have HF2 : Hid (∀ i c, 0 ≤ scF F1 t x p i c ∧ scF F1 t x p i c < p) := Lib.hid (fun i c => by
                      unfold scF
                      split
                      · exact emod_bds _ _ (by omega)
                      · exact HF1.out i c)
                    clear hown
                    have hown := hown2
                    clear hown2
                    have hokn2 := hokn
                    have hnx2 := hnx.out
                    rw [HC.out] at hokn2 hnx2
                    have HOKN := Lib.hid hokn2
                    have HCOL := Lib.hid (hnx2.symm.trans hcol.out)
                    clear hokn2 hnx2
                    generalize scF F1 t x p = F2 at *
                    go_wp2_with fail
                    obtain ⟨wo4, rfl⟩ : ∃ wo : World, wo = wr := ⟨_, rfl⟩
                    go_loopw [14, 15, 16] (fun v _ _ wr => ∃ i : Nat, v = .int .i64 i ∧ i ≤ R ∧ BM wr w.heap.size R C (some ⟨g, 0, none⟩) n cap ∧ OR wr B (.slice (some ⟨g, 0, none⟩) n cap) (tb R C (elK F2 t j p i 0)) ∧ w.grownBy wr (some g)) (fun v _ _ _ => R - (intOf v).toNat)
                    case atStart => exact ⟨0, rfl, Nat.zero_le _, hO, by rw [elK_zero]; exact hown, hgr⟩
                    case round =>
                      clear hO hown hgr oa ob oc of ol
                      obtain ⟨i, rfl, hi, hO, hown, hgr⟩ := hrel
                      obtain ⟨oa, ob, oc, of, ol⟩ := hO.mx
                      by_cases hiR : i < R
                      · have hqb := HF2.out i j
                        have HAT0 := Lib.hid (elK_at F2 t j p i 0 j (Nat.zero_le _))
                        generalize hq : F2 i j = q at hqb HAT0
                        have HQ := Lib.hid hq
                        clear hq
                        by_cases hit : i = t
                        · have hb1 : ((i : Int) != (t : Int)) = false := by simp [hit]
                          have hnx3 := hown.as (elK_skip' F2 j p hit)
                          clear hit
                          go_wp2_with (go_at_call 33; refine (impl_at_tb R C _ _ _ n cap (elK F2 t j p i 0) q HAT0.out _ (B := B) (Ko hown) (by omega) (by omega) (by omega) (by omega)).mono ?_; rintro e w1 ⟨rfl, hb⟩; (have hnx4 : OR w1 B (.slice (some ⟨g, 0, none⟩) n cap) (tb R C (elK F2 t j p (i + 1) 0)) := (Ko hnx3)); have hO_1 : BM w1 w.heap.size R C (some ⟨g, 0, none⟩) n cap := (Kb hO); have hown_1 : OR w1 B (.slice (some ⟨g, 0, none⟩) n cap) (tb R C ((elK F2 t j p i 0))) := (Ko hown); have hgr_1 : w.grownBy w1 (some g) := (by (with_reducible (repeat (first | assumption | exact World.grownBy.refl _ _ | refine only_alloc ?_ _ | refine only_drewN ?_ _ | refine only_drew ?_ | refine only_set ?_ _ _ | refine grown_far ?_ Ks _ | refine only_trans ?_ (only_of_below (by assumption) _) | refine only_trans ?_ (by assumption))))); clear hb; clear hO hown hgr oa ob oc of ol; have hO := hO_1; have hown := hown_1; have hgr := hgr_1; clear hO_1 hown_1 hgr_1; obtain ⟨oa, ob, oc, of, ol⟩ := hO.mx)
                          refine wp_loop_rounds 1 ?_
                          rw [rounds_succ]
                          go_wp2
                          go_roundw
                          case rel => exact ⟨i + 1, by go_num, by omega, hO, hnx4, hgr⟩
                          case measure => simp only [intOf]; omega
                        · have hb1 : ((i : Int) != (t : Int)) = true := by simp; omega
                          have HIT := Lib.hid hit
                          clear hit
                          go_wp2_with (go_at_call 33; refine (impl_at_tb R C _ _ _ n cap (elK F2 t j p i 0) q HAT0.out _ (B := B) (Ko hown) (by omega) (by omega) (by omega) (by omega)).mono ?_; rintro e w1 ⟨rfl, hb⟩; have hO_1 : BM w1 w.heap.size R C (some ⟨g, 0, none⟩) n cap := (Kb hO); have hown_1 : OR w1 B (.slice (some ⟨g, 0, none⟩) n cap) (tb R C ((elK F2 t j p i 0))) := (Ko hown); have hgr_1 : w.grownBy w1 (some g) := (by (with_reducible (repeat (first | assumption | exact World.grownBy.refl _ _ | refine only_alloc ?_ _ | refine only_drewN ?_ _ | refine only_drew ?_ | refine only_set ?_ _ _ | refine grown_far ?_ Ks _ | refine only_trans ?_ (only_of_below (by assumption) _) | refine only_trans ?_ (by assumption))))); clear hb; clear hO hown hgr oa ob oc of ol; have hO := hO_1; have hown := hown_1; have hgr := hgr_1; clear hO_1 hown_1 hgr_1; obtain ⟨oa, ob, oc, of, ol⟩ := hO.mx)
                          obtain ⟨wo5, rfl⟩ : ∃ wo : World, wo = w1 := ⟨_, rfl⟩
                          go_loopw [16] (fun v wr => ∃ c : Nat, v = .int .i64 c ∧ c ≤ C ∧ BM wr w.heap.size R C (some ⟨g, 0, none⟩) n cap ∧ OR wr B (.slice (some ⟨g, 0, none⟩) n cap) (tb R C (elK F2 t j p i c)) ∧ w.grownBy wr (some g)) (fun v _ => C - (intOf v).toNat)
                          case atStart => exact ⟨0, rfl, Nat.zero_le _, hO, hown, hgr⟩
                          case round =>
                            clear hO hown hgr oa ob oc of ol
                            obtain ⟨c, rfl, hc, hO, hown, hgr⟩ := hrel
                            obtain ⟨oa, ob, oc, of, ol⟩ := hO.mx
                            by_cases hcC : c < C
                            · have hz1 := HF2.out i c
                              have hz2 := HF2.out t c
                              have HA1 := Lib.hid (elK_at F2 t j p i c c (Nat.le_refl _))
                              have HA2 := Lib.hid (elK_t F2 t j p i c c)
                              have hst := elK_step (f := F2) (j := j) p c HIT.out
                              unfold elAt at hst
                              rw [HQ.out] at hst
                              have HST := Lib.hid hst
                              clear hst
                              generalize F2 i c = z1 at *
                              generalize F2 t c = z2 at *
                              have hm5 := mul_bd q z2 10000 10000 (by omega) (by omega) (by omega) (by omega)
                              have g1 : IntKind.i64.wrap (q * z2) = q * z2 := IntWalk.i64_in _ (by omega)
                              have g2 : IntKind.i64.wrap (z1 - q * z2) = z1 - q * z2 := IntWalk.i64_in _ (by omega)
                              go_wp2_with fail
                              ((refine wp_region_held_drew (S := (fun w' => w'.cell? ⟨w.heap.size, 0, none⟩ = some (.int .i64 R) ∧ w'.cell? ⟨w.heap.size, 1, none⟩ = some (.int .i64 C) ∧ w'.cell? ⟨w.heap.size, 2, none⟩ = some (.slice (some ⟨g, 0, none⟩) n cap))) (by kernel_rfl) ?_ (fun hHeld => ?_)); ((focus ((try dsimp only); (go_keep)))); ((refine tk_ (i := 0) (v := ?_) (y := Or.inl ⟨by rfl, ?_⟩) (h := ?_); rotate_left; (focus (((intro w hSw; (try dsimp only at hSw); go_simp) <;> (try with_reducible rfl)); done)); (try simp only [Act.put, p1_, p2_, p3_]))); ((refine tk_ (i := 1) (v := ?_) (y := Or.inl ⟨by rfl, ?_⟩) (h := ?_); rotate_left; (focus (((intro w hSw; (try dsimp only at hSw); go_simp) <;> (try with_reducible rfl)); done)); (try simp only [Act.put, p1_, p2_, p3_]))); ((refine tk_ (i := 2) (v := ?_) (y := Or.inl ⟨by rfl, ?_⟩) (h := ?_); rotate_left; (focus (((intro w hSw; (try dsimp only at hSw); go_simp) <;> (try with_reducible rfl)); done)); (try simp only [Act.put, p1_, p2_, p3_]))); ((refine tk_ (i := 3) (v := ?_) (y := Or.inl ⟨by rfl, ?_⟩) (h := ?_); rotate_left; (focus (((intro w hSw; (try dsimp only at hSw); go_simp) <;> (try with_reducible rfl)); done)); (try simp only [Act.put, p1_, p2_, p3_]))); ((refine tk_ (i := 4) (v := ?_) (y := Or.inl ⟨by rfl, ?_⟩) (h := ?_); rotate_left; (focus (((intro w hSw; (try dsimp only at hSw); go_simp) <;> (try with_reducible rfl)); done)); (try simp only [Act.put, p1_, p2_, p3_]))); ((refine tk_ (i := 5) (v := ?_) (y := Or.inl ⟨by rfl, ?_⟩) (h := ?_); rotate_left; (focus (((intro w hSw; (try dsimp only at hSw); go_simp) <;> (try with_reducible rfl)); done)); (try simp only [Act.put, p1_, p2_, p3_]))); ((refine tk_ (i := 7) (v := ?_) (y := Or.inl ⟨by rfl, ?_⟩) (h := ?_); rotate_left; (focus (((intro w hSw; (try dsimp only at hSw); go_simp) <;> (try with_reducible rfl)); done)); (try simp only [Act.put, p1_, p2_, p3_]))); ((refine tk_ (i := 8) (v := ?_) (y := Or.inl ⟨by rfl, ?_⟩) (h := ?_); rotate_left; (focus (((intro w hSw; (try dsimp only at hSw); go_simp) <;> (try with_reducible rfl)); done)); (try simp only [Act.put, p1_, p2_, p3_]))); ((refine tk_ (i := 9) (v := ?_) (y := Or.inl ⟨by rfl, ?_⟩) (h := ?_); rotate_left; (focus (((intro w hSw; (try dsimp only at hSw); go_simp) <;> (try with_reducible rfl)); done)); (try simp only [Act.put, p1_, p2_, p3_]))); ((refine tk_ (i := 10) (v := ?_) (y := Or.inl ⟨by rfl, ?_⟩) (h := ?_); rotate_left; (focus (((intro w hSw; (try dsimp only at hSw); go_simp) <;> (try with_reducible rfl)); done)); (try simp only [Act.put, p1_, p2_, p3_]))); ((refine tk_ (i := 14) (v := ?_) (y := Or.inl ⟨by rfl, ?_⟩) (h := ?_); rotate_left; (focus (((intro w hSw; (try dsimp only at hSw); go_simp) <;> (try with_reducible rfl)); done)); (try simp only [Act.put, p1_, p2_, p3_]))); ((refine wpAnyH_ready (rs := [6]) (by kernel_rfl) (by simp) ?_; refine AllReadyH.cons (by simp only [e1_, e2_, e3_]; try rfl) (fun K hK => ?_) AllReadyH.nil; go_simp; (go_at_call 33; refine (impl_at_tb R C _ _ _ n cap (elK F2 t j p i c) z1 HA1.out _ (B := B) (Ko hown) (by omega) (by omega) (by omega) (by omega)).mono ?_; rintro e w1 ⟨rfl, hb⟩; have hO_1 : BM w1 w.heap.size R C (some ⟨g, 0, none⟩) n cap := (Kb hO); have hown_1 : OR w1 B (.slice (some ⟨g, 0, none⟩) n cap) (tb R C ((elK F2 t j p i c))) := (Ko hown); have hgr_1 : w.grownBy w1 (some g) := (by (with_reducible (repeat (first | assumption | exact World.grownBy.refl _ _ | refine only_alloc ?_ _ | refine only_drewN ?_ _ | refine only_drew ?_ | refine only_set ?_ _ _ | refine grown_far ?_ Ks _ | refine only_trans ?_ (only_of_below (by assumption) _) | refine only_trans ?_ (by assumption))))); clear hb; clear hO hown hgr oa ob oc of ol; have hO := hO_1; have hown := hown_1; have hgr := hgr_1; clear hO_1 hown_1 hgr_1; obtain ⟨oa, ob, oc, of, ol⟩ := hO.mx); (try go_wp2_with fail); refine hK.out _ _ ?_ (fun hHeld => ?_); (focus ((try dsimp only); (go_keep))); clear hK K; (try simp only [Act.put, p1_, p2_, p3_]))); ((refine wpAnyH_ready (rs := [11]) (by kernel_rfl) (by simp) ?_; refine AllReadyH.cons (by simp only [e1_, e2_, e3_]; try rfl) (fun K hK => ?_) AllReadyH.nil; go_simp; (go_at_call 33; refine (impl_at_tb R C _ _ _ n cap (elK F2 t j p i c) z2 HA2.out _ (B := B) (Ko hown) (by omega) (by omega) (by omega) (by omega)).mono ?_; rintro e w1 ⟨rfl, hb⟩; have hO_1 : BM w1 w.heap.size R C (some ⟨g, 0, none⟩) n cap := (Kb hO); have hown_1 : OR w1 B (.slice (some ⟨g, 0, none⟩) n cap) (tb R C ((elK F2 t j p i c))) := (Ko hown); have hgr_1 : w.grownBy w1 (some g) := (by (with_reducible (repeat (first | assumption | exact World.grownBy.refl _ _ | refine only_alloc ?_ _ | refine only_drewN ?_ _ | refine only_drew ?_ | refine only_set ?_ _ _ | refine grown_far ?_ Ks _ | refine only_trans ?_ (only_of_below (by assumption) _) | refine only_trans ?_ (by assumption))))); clear hb; clear hO hown hgr oa ob oc of ol; have hO := hO_1; have hown := hown_1; have hgr := hgr_1; clear hO_1 hown_1 hgr_1; obtain ⟨oa, ob, oc, of, ol⟩ := hO.mx); (try go_wp2_with fail); refine hK.out _ _ ?_ (fun hHeld => ?_); (focus ((try dsimp only); (go_keep))); clear hK K; (try simp only [Act.put, p1_, p2_, p3_]))); ((refine tk_ (i := 12) (v := ?_) (y := Or.inl ⟨by rfl, ?_⟩) (h := ?_); rotate_left; (focus (((intro w hSw; (try dsimp only at hSw); go_simp) <;> (try with_reducible rfl)); done)); (try simp only [Act.put, p1_, p2_, p3_]))); ((refine tk_ (i := 13) (v := ?_) (y := Or.inl ⟨by rfl, ?_⟩) (h := ?_); rotate_left; (focus (((intro w hSw; (try dsimp only at hSw); go_simp) <;> (try with_reducible rfl)); done)); (try simp only [Act.put, p1_, p2_, p3_]))); ((refine wpAnyH_ready (rs := [15]) (by kernel_rfl) (by simp) ?_; refine AllReadyH.cons (by simp only [e1_, e2_, e3_]; try rfl) (fun K hK => ?_) AllReadyH.nil; go_simp; (go_at_call 64; refine (impl_mod _ _ _ (by omega) (by omega) (by omega) (by omega)).mono ?_; rintro e w' ⟨rfl, rfl⟩); (try go_wp2_with fail); refine hK.out _ _ ?_ (fun hHeld => ?_); (focus ((try dsimp only); (go_keep))); clear hK K; (try simp only [Act.put, p1_, p2_, p3_]))); ((refine wpAnyH_ready (rs := [16]) (by kernel_rfl) (by simp) ?_; refine AllReadyH.cons (by simp only [e1_, e2_, e3_]; try rfl) (fun K hK => ?_) AllReadyH.nil; go_simp; (go_at_call 37; refine (impl_set_tb R C _ _ _ _ n cap (elK F2 t j p i c) (elK F2 t j p i (c + 1)) HST.out _ (B := B) (Ko hown) (by omega) (by omega) (by omega) (by omega)).mono ?_; rintro e w1 ⟨rfl, hown_1, hgr_0, hsz_0⟩; have hO_1 : BM w1 w.heap.size R C (some ⟨g, 0, none⟩) n cap := (hO.grown hgr_0 (by simp [Value.ownBlock]; omega)); have hgr_1 : w.grownBy w1 (some g) := (only_trans hgr hgr_0); clear hgr_0 hsz_0; clear hO hown hgr oa ob oc of ol; have hO := hO_1; have hown := hown_1; have hgr := hgr_1; clear hO_1 hown_1 hgr_1; obtain ⟨oa, ob, oc, of, ol⟩ := hO.mx); (try go_wp2_with fail); refine hK.out _ _ ?_ (fun hHeld => ?_); (focus ((try dsimp only); (go_keep))); clear hK K; (try simp only [Act.put, p1_, p2_, p3_]))); (refine wpAnyH_done (by kernel_rfl) ?_ _))
                              clear g1 g2
                              go_wp2
                              go_roundw
                              case rel => exact ⟨c + 1, by go_num, by omega, hO, hown, hgr⟩
                              case measure => simp only [intOf]; omega
                            · obtain rfl : C = c := by omega
                              have hnx3 := hown.as (elK_row F2 t j p i)
                              go_wp2
                              go_roundw
                              case rel => exact ⟨i + 1, by go_num, by omega, hO, hnx3, hgr⟩
                              case measure => simp only [intOf]; omega
                      · obtain rfl : R = i := by omega
                        have hnx3 := hown.as (elK_end F2 t j p)
                        go_wp2
                        go_roundw
                        case rel => exact ⟨j + 1, _, t + 1, _, by go_num, by go_num, rfl, by omega, HOKN.out, HCOL.out, hO, hnx3, hgr⟩
                        case measure => simp only [intOf]; omega
          · obtain rfl : k = R := by omega
            have hP : fnd f j (k - t) t = k := hfn.out.symm.trans (fnd_end f j k)
            have hnx2 := Lib.hid ((colE_no (p := p) (d := d) hP) ▸ hnx.out)
            clear hP
            have hcol2 := Lib.hid (hnx2.out.symm.trans hcol.out)
            go_wp2_with fail
            go_roundw
            case rel => exact ⟨j + 1, f, t, d, by go_num, rfl, rfl, by omega, HOK.out, hcol2.out, hO, hown, hgr⟩
            case measure => simp only [intOf]; omega
      · have hX : X = ⟨f, t, d⟩ := hcol.out.symm.trans (colsE_full (by show R ≤ t; omega) _ _)
        subst hX
        go_wp2_with fail
        go_ret2
        exact WW.mk rfl hown hgr (Nat.le_of_lt ol)
    · obtain rfl : j = cols := by omega
      have hX : X = ⟨f, t, d⟩ := hcol.out.symm.trans (colsE_end _ _ _ _)
      subst hX
      go_wp2_with fail
      go_ret2
      exact WW.mk rfl hown hgr (Nat.le_of_lt ol)
end Go.Proofs.YtlggfmfelakadaaGreatDoor

/-
  DERIVED. Several small texts in one: PlMpL, DrE, PlTr, PlSv, CoA, CoB.
-/
import Derived.Test.YtlggfmfelakadaaGreatDoorPlMpx
import Derived.Test.YtlggfmfelakadaaGreatDoorc7
import Derived.Test.YtlggfmfelakadaaGreatDoorc8
import Derived.Test.YtlggfmfelakadaaGreatDoorDrQx
import Derived.Test.YtlggfmfelakadaaGreatDoorc6
import Derived.Test.YtlggfmfelakadaaGreatDoorc4
import Derived.Test.YtlggfmfelakadaaGreatDoorc5
import Derived.Test.YtlggfmfelakadaaGreatDoorPmx
import Derived.Test.YtlggfmfelakadaaGreatDoorRtx
/-
  DERIVED. What DeterminantMod and RankMod answer, beside DeterminantOf and RankOf. No program in sight.
-/
namespace Go.Proofs.YtlggfmfelakadaaGreatDoor
set_option linter.unusedVariables false
structure IMG (R : Nat) (xs : List Int) (p : Int) : Prop where
  red : redB R R xs p = true
  R24 : R ≤ 24
  p2 : 2 ≤ p
  p4 : p ≤ 10000
  d0 : 0 ≤ detM R R xs p
  dp : detM R R xs p < p
  dz : (detM R R xs p == 0) = decide (rankM R R xs p < R)
  r0 : 0 ≤ rankM R R xs p
  rR : rankM R R xs p ≤ R
  dD : p ∣ Dt R (fun i j => cel xs R i j) - detM R R xs p
  det : ∀ e, dtO R R xs = some e → p ∣ e - detM R R xs p
  rk : ∀ s, eoX R R xs = some s → rankM R R xs p ≤ s.ps.length
theorem img_all {r c : Int} {xs : List Int} {p : Int} (h : detMB r c xs p = true) : ∃ R : Nat, r = R ∧ c = R ∧ IMG R xs p := by
  have h0 := h
  unfold detMB at h0
  rw [Bool.and_eq_true] at h0
  obtain ⟨hr, hc⟩ := h0
  have hc := of_decide_eq_true hc
  subst hc
  have K := redOk hr
  have M := K.m
  have h1 := M.r1
  obtain ⟨R, rfl⟩ := nat_of M.r0
  have hlen : xs.length = R * R := by have := M.len; rw [← Int.natCast_mul] at this; omega
  refine ⟨R, rfl, rfl, ?_⟩
  have hok := K.ok
  obtain ⟨pv, H⟩ := runE_mp (R := R) (C := R) K.pr K.f0
  have hs : runE R R p (rmF R xs p) = rmS R R xs p := by unfold rmS; simp only [Int.toNat_natCast]
  rw [hs] at H
  have hmod : ∀ i j, i < R → j < R → p ∣ rmF R xs p i j - cel xs R i j := fun i j hi hj => by
    unfold rmF
    simp only [Int.toNat_natCast]
    rw [cel_nat, cel_nat]
    have hk : i * R + j < xs.length := by rw [hlen]; exact idx_nat hi hj
    have e : (redL xs p).getD (i * R + j) 0 = xs.getD (i * R + j) 0 % p := by simp [redL, List.getD, hk]
    rw [e]; exact dvd_emod _ _
  have hDm := Dt_mod R hmod
  have hd1 : (rmS R R xs p).d ≠ 0 := by
    unfold rmS
    exact colsE_d K.pr _ _ _ ⟨K.f0, Nat.zero_le _, by show (0 : Int) ≤ 1 ∧ (1 : Int) < p; have := K.pb; omega⟩ (by show (1 : Int) ≠ 0; decide)
  have ht : (rmS R R xs p).t ≤ R := by have := hok.t0; simpa using this
  have hdb := hok.d0
  have hrm : rankM R R xs p = ((rmS R R xs p).t : Int) := by unfold rankM; rw [if_pos hr]
  have hdm : detM R R xs p = if ((rmS R R xs p).t : Int) < R then 0 else (rmS R R xs p).d := by unfold detM; rw [if_pos h]
  have hp := K.pb
  have hDD : p ∣ Dt R (fun i j => cel xs R i j) - detM R R xs p := by
    rw [hdm]
    by_cases h2 : ((rmS R R xs p).t : Int) < R
    · rw [if_pos h2, Int.sub_zero]
      have h3 := H.img.1 (by omega)
      have := Int.dvd_sub h3 hDm
      rwa [show Dt R (rmF R xs p) - (Dt R (rmF R xs p) - Dt R (fun i j => cel xs R i j)) = Dt R (fun i j => cel xs R i j) by omega] at this
    · rw [if_neg h2]
      have h3 := H.img.2 (by omega)
      have := Int.dvd_sub h3 hDm
      rwa [show Dt R (rmF R xs p) - (rmS R R xs p).d - (Dt R (rmF R xs p) - Dt R (fun i j => cel xs R i j)) = Dt R (fun i j => cel xs R i j) - (rmS R R xs p).d by omega] at this
  refine ⟨hr, by omega, hp.1, hp.2, ?_, ?_, ?_, by rw [hrm]; omega, by rw [hrm]; omega, ?_, fun e he => ?_, fun s hs => ?_⟩
  · rw [hdm]; split <;> omega
  · rw [hdm]; split <;> omega
  · rw [hdm, hrm]
    by_cases h2 : ((rmS R R xs p).t : Int) < R
    · rw [if_pos h2, decide_eq_true h2]; rfl
    · rw [if_neg h2, decide_eq_false h2]; simpa using hd1
  · exact hDD
  · have he2 : e = Dt R (fun i j => cel xs R i j) := by
      unfold dtO at he
      split at he
      · simp only [Int.toNat_natCast] at he
        exact detL_Dt R xs e hlen he
      · cases he
    rw [he2]; exact hDD
  · rw [hrm]
    have := H.rank hp.1 hmod (eo_rk hs).1
    omega
end Go.Proofs.YtlggfmfelakadaaGreatDoor

/-
  DERIVED. What is drawn for solutions: l11Draw, DrawSolveByDeterminants, DrawSolveByLifting.
-/
namespace Go.Proofs.YtlggfmfelakadaaGreatDoor
open Go.RowKit
set_option linter.unusedVariables false
set_option linter.unusedSimpArgs false
/-- The call drew a matrix and a list. -/
def DSD (wo : World) (e : Ending) (w' : World) : Prop := ∃ (r c : Int) (Am : Option Addr) (nm cm : Nat) (ys : List Int) (Ab : Option Addr) (nb cb : Nat) (bs : List Int), e = .returned (.tuple #[.agg #[.int .i64 r, .int .i64 c, .slice Am nm cm], .slice Ab nb cb]) ∧ OR w' wo.heap.size (.slice Am nm cm) ys ∧ OR w' wo.heap.size (.slice Ab nb cb) bs ∧ ys.length ≤ 17 ∧ bs.length ≤ 1001 ∧ (-1 ≤ r ∧ r ≤ 12) ∧ Below wo.heap.size wo w'
theorem RB.moreE {w : World} {B B' n : Nat} {A : Option Addr} {xs : List Int} (h : RB w B A n xs) (hB : B ≤ B') : RB w B' A n xs :=
  ⟨h.1, fun hn => by
    obtain ⟨b, o, e, hb, hc⟩ := h.2.1 hn
    exact ⟨b, o, e, by omega, hc⟩, h.2.2⟩
set_option maxRecDepth 100000 in
set_option maxHeartbeats 8000000 in
theorem spec_l11Draw (n cap : Nat) (A : Option Addr) (xs : List Int) (wo : World) (hby : RB wo wo.heap.size A n xs) (hn : n ≤ 2000000) :
    Calls Tryz.prog 17 #[.slice A n cap] wo (DSD wo) := by
  have HBY := Lib.hid hby
  clear hby
  go_enter Tryz.func17, Tryz.ntmps17
  go_wp2_with fail
  refine (spec_l1New n cap A xs _ (B := wo.heap.size) (by (with_reducible (repeat (first | exact HBY.out | refine RB.drew ?_ | refine RB.drewN ?_ _ | refine RB.alloc ?_ Ks _ | refine RB.setCell ?_ Ks _ | refine RB.below ?_ (by assumption) Ks)))) hn).mono ?_
  rintro e w ⟨b, rfl, hcu, hbs, hb2⟩
  have hsz2 := hb2.size
  simp at hsz2 hbs
  have hct : CT w w wo.heap.size b n cap A xs := CT.new hcu (by (with_reducible (repeat (first | exact HBY.out | refine RB.drew ?_ | refine RB.drewN ?_ _ | refine RB.alloc ?_ Ks _ | refine RB.setCell ?_ Ks _ | refine RB.below ?_ (by assumption) Ks)))) (by omega) hn
  have HB0 : Hid (Below wo.heap.size wo w) := Lib.hid Kw
  have hR0 : BM w wo.heap.size 0 0 none 0 0 := Ka
  have hb := hct.hb
  clear hb2 hcu
  go_wp2_with fail
  refine (spec_l3Square b n cap A xs _ (CT.self (w0 := w) (B := wo.heap.size) (by (with_reducible (repeat (first | exact hct | refine CT.drew ?_ | refine CT.drewN ?_ _ | refine CT.alloc ?_ _ | refine CT.far ?_ Ks _ | refine CT.below ?_ (by assumption) Ks)))))).mono ?_
  rintro e w1 ⟨v, rfl, ⟨r, c, Am, nm, cm, ys, rfl, ho1, hl1, hr1, hc1⟩, hct1⟩
  have hsz1 := hct1.size
  have hR1 : BM w1 wo.heap.size 0 0 none 0 0 := hR0.grown hct1.gr (by simp; omega)
  have hR : BM (w1.alloc (.cells #[.int .i64 r, .int .i64 c, .slice Am nm cm] 26)) wo.heap.size 0 0 none 0 0 := Kb hR1
  have hM : BM (w1.alloc (.cells #[.int .i64 r, .int .i64 c, .slice Am nm cm] 26)) w1.heap.size r c Am nm cm := Ka
  have ho : OR (w1.alloc (.cells #[.int .i64 r, .int .i64 c, .slice Am nm cm] 26)) w.heap.size (.slice Am nm cm) ys := ho1.alloc _
  have hct2 : CT w (w1.alloc (.cells #[.int .i64 r, .int .i64 c, .slice Am nm cm] 26)) wo.heap.size b n cap A xs := hct1.alloc _
  have hln := ho1.lenEq
  have hln2 : nm ≤ 17 ∧ nm ≤ ys.length ∧ ys.length ≤ nm := by omega
  have hs5 : w1.heap.size < (w1.alloc (.cells #[.int .i64 r, .int .i64 c, .slice Am nm cm] 26)).heap.size := by simp
  clear hct hct1 hR0 hR1 ho1 hln
  have hct := hct2
  clear hct2
  obtain ⟨oa, ob, oc, of, ol⟩ := hM.mx; obtain ⟨ra, rb, rc, rf, rl⟩ := hR.mx
  go_upto_region 3 with fail
  generalize (w1.alloc (.cells #[.int .i64 r, .int .i64 c, .slice Am nm cm] 26)) = w2 at *
  generalize hbm : w1.heap.size = bM at *
  have hwM : w.heap.size ≤ bM := by omega
  have ne1 : ¬ bM = wo.heap.size := by omega
  have ne2 : ¬ wo.heap.size = bM := by omega
  clear hbm
  ((refine wp_region_held_drew (S := (fun w' => w'.cell? ⟨bM, 0, none⟩ = some (.int .i64 r) ∧ w'.cell? ⟨bM, 1, none⟩ = some (.int .i64 c) ∧ w'.cell? ⟨bM, 2, none⟩ = some (.slice Am nm cm))) (by kernel_rfl) ?_ (fun hHeld => ?_)); ((focus ((try dsimp only); ((first | (go_keep; done) | exact ⟨oa, ob, oc⟩))))); ((refine tk_ (i := 0) (v := ?_) (y := Or.inl ⟨by rfl, ?_⟩) (h := ?_); rotate_left; (focus (((intro w hSw; (try dsimp only at hSw); go_simp) <;> (try with_reducible rfl)); done)); (try simp only [Act.put, p1_, p2_, p3_]))); ((refine tk_ (i := 1) (v := ?_) (y := Or.inl ⟨by rfl, ?_⟩) (h := ?_); rotate_left; (focus (((intro w hSw; (try dsimp only at hSw); go_simp) <;> (try with_reducible rfl)); done)); (try simp only [Act.put, p1_, p2_, p3_]))); ((refine tk_ (i := 2) (v := ?_) (y := Or.inl ⟨by rfl, ?_⟩) (h := ?_); rotate_left; (focus (((intro w hSw; (try dsimp only at hSw); go_simp) <;> (try with_reducible rfl)); done)); (try simp only [Act.put, p1_, p2_, p3_]))); ((refine tk_ (i := 3) (v := ?_) (y := Or.inl ⟨by rfl, ?_⟩) (h := ?_); rotate_left; (focus (((intro w hSw; (try dsimp only at hSw); go_simp) <;> (try with_reducible rfl)); done)); (try simp only [Act.put, p1_, p2_, p3_]))); (refine wpAnyH_ready (rs := [4]) (by kernel_rfl) (by simp) ?_); (refine AllReadyH.cons (by simp only [e1_, e2_, e3_]; try rfl) ?_ ?_); ((focus ((intro K hK); (go_simp); ((go_at_call 51; refine (spec_l8Right b n cap A xs r _ (CT.self (w0 := w) (B := wo.heap.size) (by (with_reducible (repeat (first | exact hct | refine CT.drew ?_ | refine CT.drewN ?_ _ | refine CT.alloc ?_ _ | refine CT.far ?_ Ks _ | refine CT.below ?_ (by assumption) Ks))))) (by omega)).mono ?_; rintro e w7 ⟨v, rfl, ⟨Ab, nb, cb, bs, rfl, hob, hlb⟩, hc1⟩; have hob2 : OR w7 w.heap.size (.slice Ab nb cb) bs := OR.mono hob Ks; clear hob; have hct_1 : CT w w7 wo.heap.size b n cap A xs := CT.trans (by (with_reducible (repeat (first | exact hct | refine CT.drew ?_ | refine CT.drewN ?_ _ | refine CT.alloc ?_ _ | refine CT.far ?_ Ks _ | refine CT.below ?_ (by assumption) Ks)))) hc1; have hR_1 : BM w7 wo.heap.size 0 0 none 0 0 := BX.grown (Kb hR) hc1.gr (fun e => by injection e; omega); have hM_1 : BM w7 bM (r) (c) Am nm cm := BX.grown (Kb hM) hc1.gr (fun e => by injection e; omega); have ho_1 : OR w7 w.heap.size (.slice Am nm cm) ys := OR.turned (Ko ho) hc1 (by omega); clear oa ob oc of ol ra rb rc rf rl; clear hct hM hR ho; have hct := hct_1; have hM := hM_1; have hR := hR_1; have ho := ho_1; clear hct_1 hM_1 hR_1 ho_1; have hszw7 := hc1.size; (try simp at hszw7); clear hc1; obtain ⟨oa, ob, oc, of, ol⟩ := hM.mx; obtain ⟨ra, rb, rc, rf, rl⟩ := hR.mx)); ((try go_wp2_with fail)); (refine hK.out _ _ ?_ (fun hHeld => ?_)); ((focus ((try dsimp only); ((first | (go_keep; done) | exact ⟨oa, ob, oc⟩))))); (clear hK K); ((try simp only [Act.put, p1_, p2_, p3_])); (refine wpAnyH_ready (rs := [5]) (by kernel_rfl) (by simp) ?_); (refine AllReadyH.cons (by simp only [e1_, e2_, e3_]; try rfl) ?_ ?_); ((focus ((intro K hK); (go_simp); ((try go_wp2_with fail)); (refine hK.out _ _ ?_ (fun hHeld => ?_)); ((focus ((try dsimp only); ((first | (go_keep; done) | exact ⟨oa, ob, oc⟩))))); (clear hK K); ((try simp only [Act.put, p1_, p2_, p3_])); ((refine tk_ (i := 6) (v := ?_) (y := Or.inl ⟨by rfl, ?_⟩) (h := ?_); rotate_left; (focus (((intro w hSw; (try dsimp only at hSw); go_simp) <;> (try with_reducible rfl)); done)); (try simp only [Act.put, p1_, p2_, p3_]))); (refine wpAnyH_done (by kernel_rfl) ?_ _)))); (rotate_left 1); (exact AllReadyH.nil)))); (rotate_left 1); (exact AllReadyH.nil))
  have hvr := B3.of hR
  have hbw8 : Below wo.heap.size wo w7 := HB0.out.trans (CT.under hct (by omega))
  have KM : OR w7 (wo.heap.size + 1) (.slice Am nm cm) ys := OR.mono ho (by omega)
  have KB : OR w7 (wo.heap.size + 1) (.slice Ab nb cb) bs := OR.mono hob2 (by omega)
  go_wp2_with fail
  refine ret_MB (b := wo.heap.size) (r := r) (c := c) (A := Am) (n := nm) (cap := cm) Tryz.results17 rfl (Kb hvr) rfl ?_
  exact ⟨r, c, Am, nm, cm, ys, Ab, nb, cb, bs, rfl, OR.mono (B := wo.heap.size + 1) (Ko KM) (by omega), OR.mono (B := wo.heap.size + 1) (Ko KB) (by omega), by omega, by omega, hr1, Kw⟩
set_option maxRecDepth 100000 in
set_option maxHeartbeats 4000000 in
theorem spec_DrawSolveByLifting (n cap : Nat) (A : Option Addr) (xs : List Int) (wo : World) (hby : RB wo wo.heap.size A n xs) (hn : n ≤ 2000000) :
    Calls Tryz.prog 5 #[.slice A n cap] wo (DSD wo) := by
  have HBY := Lib.hid hby
  clear hby
  go_enter Tryz.func5, Tryz.ntmps5
  go_wp2_with fail
  refine (spec_l11Draw n cap A xs _ (RB.moreE (B := wo.heap.size) (by (with_reducible (repeat (first | exact HBY.out | refine RB.drew ?_ | refine RB.drewN ?_ _ | refine RB.alloc ?_ Ks _ | refine RB.setCell ?_ Ks _ | refine RB.below ?_ (by assumption) Ks)))) (by simp)) hn).mono ?_
  rintro e w1 ⟨r, c, Am, nm, cm, ys, Ab, nb, cb, bs, rfl, ho1, ho2, hl1, hl2, hr, hb1⟩
  have hsz1 := hb1.size
  simp at hsz1
  have hR : BM w1 wo.heap.size 0 0 none 0 0 := Ka
  have hbw : Below wo.heap.size wo w1 := Kw
  have k1 : OR w1 (wo.heap.size + 1) (.slice Am nm cm) ys := OR.mono (xs := ys) ho1 (by simp)
  have k2 : OR w1 (wo.heap.size + 1) (.slice Ab nb cb) bs := OR.mono (xs := bs) ho2 (by simp)
  have hvr := B3.of hR
  obtain ⟨ra, rb, rc, rf, rl⟩ := hR.mx
  clear ho1 ho2 hb1
  go_wp2_with fail
  refine ret_MB (b := wo.heap.size) (r := r) (c := c) (A := Am) (n := nm) (cap := cm) Tryz.results5 rfl (by first | exact BX.put hvr | (with_reducible (repeat (first | exact hvr | refine BX.n_ | refine BX.b_ ?_ | apply BX.drew | apply BX.drewN | refine BX.put ?_ | refine BX.put2 ?_ | refine BX.f_ ?_ | apply BX.alloc | refine B3.n_ | exact B3.of hvr | refine B3.b_ ?_ | apply B3.drew | apply B3.drewN | refine B3.f_ ?_ | apply B3.alloc)))) rfl ?_
  exact ⟨r, c, Am, nm, cm, ys, Ab, nb, cb, bs, rfl, OR.mono (B := wo.heap.size + 1) (Ko k1) (by omega), OR.mono (B := wo.heap.size + 1) (Ko k2) (by omega), hl1, hl2, hr, Kw⟩
end Go.Proofs.YtlggfmfelakadaaGreatDoor

/-
  DERIVED. The determinant is no greater than the product of the rows' sums; put together out of its images it is the determinant. No program in sight.
-/
namespace Go.Proofs.YtlggfmfelakadaaGreatDoor
set_option linter.unusedVariables false
/-- The sum of a row's absolute values. -/
def rs_ (n : Nat) (f : Fn2) (i : Nat) : Int := sumTo (fun j => ((f i j).natAbs : Int)) n
theorem sumTo_le {f g : Nat → Int} : ∀ n, (∀ k, k < n → f k ≤ g k) → sumTo f n ≤ sumTo g n
  | 0, _ => Int.le_refl _
  | n + 1, h => by
    rw [sumTo_succ, sumTo_succ]
    have := sumTo_le n fun k hk => h k (by omega)
    have := h n (by omega)
    omega
theorem sumTo_nn {f : Nat → Int} (n : Nat) (h : ∀ k, k < n → 0 ≤ f k) : 0 ≤ sumTo f n := by
  have := sumTo_le (f := fun _ => 0) n h
  have e : sumTo (fun _ => 0) n = 0 := sumTo_null n fun _ _ => rfl
  omega
theorem sumTo_natAbs {f : Nat → Int} : ∀ n, ((sumTo f n).natAbs : Int) ≤ sumTo (fun k => ((f k).natAbs : Int)) n
  | 0 => by show (((0 : Int)).natAbs : Int) ≤ 0; decide
  | n + 1 => by
    rw [sumTo_succ, sumTo_succ]
    have := sumTo_natAbs (f := f) n
    omega
theorem sumTo_skipLe {g : Nat → Int} (n j : Nat) (hj : j < n + 1) (h : ∀ k, 0 ≤ g k) : sumTo (fun b => g (sk j b)) n ≤ sumTo g (n + 1) := by
  have h1 := sumTo_skip (g := g) n hj
  rw [h1]
  refine sumTo_le (n + 1) fun k _ => ?_
  have := h k
  split <;> omega
theorem prodTo_le {d e : Nat → Int} : ∀ n, (∀ i, i < n → 0 ≤ d i ∧ d i ≤ e i) → 0 ≤ prodTo d n ∧ prodTo d n ≤ prodTo e n
  | 0, _ => ⟨by show (0 : Int) ≤ 1; decide, Int.le_refl _⟩
  | n + 1, h => by
    obtain ⟨h1, h2⟩ := prodTo_le n fun i hi => h i (by omega)
    obtain ⟨h3, h4⟩ := h n (by omega)
    exact ⟨Int.mul_nonneg h1 h3, Int.mul_le_mul h2 h4 h3 (by omega)⟩
theorem prodTo_head (d : Nat → Int) : ∀ n, prodTo d (n + 1) = d 0 * prodTo (fun i => d (i + 1)) n
  | 0 => by show 1 * d 0 = d 0 * 1; omega
  | n + 1 => by
    show prodTo d (n + 1) * d (n + 1) = d 0 * (prodTo (fun i => d (i + 1)) n * d (n + 1))
    rw [prodTo_head d n, Int.mul_assoc]
theorem Dt_bound : ∀ (n : Nat) (f : Fn2), ((Dt n f).natAbs : Int) ≤ prodTo (rs_ n f) n
  | 0, f => by show (((1 : Int)).natAbs : Int) ≤ 1; decide
  | n + 1, f => by
    rw [Dt_succ, prodTo_head]
    refine Int.le_trans (sumTo_natAbs (n + 1)) ?_
    have hP : ∀ j, j < n + 1 → ((Dt n (mnr f j)).natAbs : Int) ≤ prodTo (fun i => rs_ (n + 1) f (i + 1)) n := fun j hj => by
      refine Int.le_trans (Dt_bound n (mnr f j)) (prodTo_le n fun i hi => ⟨sumTo_nn n fun k _ => by omega, ?_⟩).2
      exact sumTo_skipLe (g := fun b => ((f (i + 1) b).natAbs : Int)) n j hj fun k => by omega
    generalize prodTo (fun i => rs_ (n + 1) f (i + 1)) n = P at *
    show _ ≤ sumTo (fun j => ((f 0 j).natAbs : Int)) (n + 1) * P
    rw [← sumTo_mul]
    refine sumTo_le (n + 1) fun j hj => ?_
    have h1 := hP j hj
    have h2 : (sg j * f 0 j * Dt n (mnr f j)).natAbs = (f 0 j).natAbs * (Dt n (mnr f j)).natAbs := by
      rw [Int.natAbs_mul, Int.natAbs_mul]
      have : (sg j).natAbs = 1 := by unfold sg; split <;> rfl
      rw [this, Nat.one_mul]
    rw [h2, Int.natCast_mul]
    exact Int.mul_le_mul_of_nonneg_left h1 (by omega)
theorem bndI_val {p b : Int} : ∀ (l : List Int) (p : Int), bndI p l = some b → b = p * prodTo (fun i => l.getD i 0) l.length
  | [], p, h => by
    have : p = b := by injection h
    subst this
    show p = p * 1
    omega
  | s :: l, p, h => by
    have h' : (if isNum s = true ∧ isNum (p * s) = true then bndI (p * s) l else none) = some b := h
    split at h'
    · have ih := bndI_val (p := p) l (p * s) h'
      rw [ih]
      show p * s * prodTo (fun i => l.getD i 0) l.length = p * prodTo (fun i => (s :: l).getD i 0) (l.length + 1)
      rw [prodTo_head]
      show p * s * prodTo (fun i => l.getD i 0) l.length = p * (s * prodTo (fun i => l.getD i 0) l.length)
      rw [Int.mul_assoc]
    · cases h'
theorem dvd_coprime {p n z : Int} (h1 : p ∣ z) (h2 : n ∣ z) (hg : Int.gcd p n = 1) : p * n ∣ z := by
  have h3 : p.natAbs * n.natAbs ∣ z.natAbs := Nat.Coprime.mul_dvd_of_dvd_of_dvd hg (Int.natAbs_dvd_natAbs.2 h1) (Int.natAbs_dvd_natAbs.2 h2)
  rw [← Int.natAbs_mul] at h3
  exact Int.natAbs_dvd_natAbs.1 h3
theorem spF_dvd {z : Int} : ∀ (ms : List Int) (p : Int), spF p ms = true → p ∣ z → (∀ m ∈ ms, m ∣ z) → ms.foldl (· * ·) p ∣ z
  | [], p, _, h, _ => h
  | n :: ms, p, hs, h, hm => by
    have hg := spF_gcd hs
    have hs' : spF (p * n) ms = true := by
      have h0 : (if n < 2 ∨ 400000000 < n then false else if Int.gcd p n ≠ 1 then false else if isNum (p * n) = false then false else spF (p * n) ms) = true := hs
      split at h0
      · cases h0
      · split at h0
        · cases h0
        · split at h0
          · cases h0
          · exact h0
    exact spF_dvd ms (p * n) hs' (dvd_coprime h (hm n (List.mem_cons_self ..)) hg) fun m hm' => hm m (List.mem_cons_of_mem _ hm')
theorem plK_pr : ∀ (n : Nat) (x : Int), x ∈ plK n → isPr x = true
  | 0, x, h => by cases h
  | n + 1, x, h => by
    rcases hp : isPr (101 + (n : Int)) with _ | _
    · rw [plK_no hp] at h; exact plK_pr n x h
    · rw [plK_yes hp] at h
      rcases List.mem_append.1 h with h | h
      · exact plK_pr n x h
      · rw [List.mem_singleton.1 h]; exact hp
theorem dbG_out {b : Int} : ∀ (k n m : Nat), dbG b k n = some m → n + k ≤ 13 → 2 * b < ppK m ∧ m ≤ 12
  | 0, n, m, h, _ => by cases h
  | k + 1, n, m, h, hk => by
    by_cases h1 : 2 * b < ppK n
    · rw [dbG_stop h1] at h
      injection h with h
      subst h
      exact ⟨h1, by omega⟩
    · rcases hp : isPr (101 + (n : Int)) with _ | _
      · rw [dbG_no h1 hp] at h; exact dbG_out k (n + 1) m h (by omega)
      · rcases hq : isNum (ppK n * (101 + (n : Int))) with _ | _
        · rw [dbG_bad h1 hp hq] at h; cases h
        · rw [dbG_yes h1 hp hq] at h; exact dbG_out k (n + 1) m h (by omega)
theorem absSum_sum (l : List Int) : ∀ n, absSum l n = sumTo (fun j => ((l.getD j 0).natAbs : Int)) n
  | 0 => rfl
  | n + 1 => by
    show absSum l n + _ = _
    rw [sumTo_succ, absSum_sum l n]
theorem row_bound {r c : Int} {xs : List Int} {b : Int} (h : bndRes r c xs = some b) : ∃ R : Nat, r = R ∧ c = R ∧ isMat R R xs = true ∧ ((Dt R (fun i j => cel xs R i j)).natAbs : Int) ≤ b := by
  unfold bndRes at h
  split at h
  · rename_i hs
    obtain ⟨hm, he, -⟩ := isSq_iff.1 hs
    subst he
    obtain ⟨R, rfl⟩ := nat_of hm.r0
    simp only [Int.toNat_natCast] at h
    refine ⟨R, rfl, rfl, isMat_iff.2 hm, ?_⟩
    have hb := bndI_val (p := 1) _ 1 h
    have hl : (rowSums xs R R).length = R := by simp [rowSums]
    rw [hl, Int.one_mul] at hb
    have hg : ∀ i, i < R → (rowSums xs R R).getD i 0 = rs_ R (fun i j => cel xs R i j) i := fun i hi => by
      have e : (rowSums xs R R).getD i 0 = absSum (rowL xs R i) R := by simp [rowSums, List.getD, hi]
      rw [e, absSum_sum]
      exact sumTo_congr R fun j hj => by rw [rowL_getD hj]
    rw [hb, prodTo_congr R hg]
    exact Dt_bound R _
  · cases h
/-- The determinant by its images is the determinant. -/
theorem db_det {r c : Int} {xs : List Int} {d : Int} (h : dbV r c xs = some d) : ∃ R : Nat, r = R ∧ c = R ∧ d = Dt R (fun i j => cel xs R i j) := by
  unfold dbV dbN at h
  rcases hb : bndRes r c xs with _ | b
  · rw [hb] at h; cases h
  · obtain ⟨R, rfl, rfl, hm, hD⟩ := row_bound hb
    refine ⟨R, rfl, rfl, ?_⟩
    rw [hb] at h
    have h' : (dbG b 13 0).map (fun n => symOf (chV (dbR R R xs n) (plK n)).1 (chV (dbR R R xs n) (plK n)).2) = some d := h
    rcases hn : dbG b 13 0 with _ | n
    · rw [hn] at h'; cases h'
    · rw [hn] at h'
      have hd : symOf (chV (dbR R R xs n) (plK n)).1 (chV (dbR R R xs n) (plK n)).2 = d := by injection h'
      obtain ⟨h2, h12⟩ := dbG_out 13 0 n hn (by omega)
      obtain ⟨c1, c2, c3, c4⟩ := chV_spec (dbR_ok (r := R) (c := R) (xs := xs) h12)
      rw [(pl_bds n h12).2.2.2] at c1
      have hmods := (pl_bds n h12).2.2.1
      unfold modsOk at hmods
      rw [Bool.and_eq_true] at hmods
      have hP := (pl_bds n h12).1
      obtain ⟨s1, s2, s3⟩ := symOf_spec (x := (chV (dbR R R xs n) (plK n)).1) (m := ppK n) hP.1
      rw [c1] at hd
      rw [hd] at s1 s2 s3
      have hall : ∀ m ∈ plK n, m ∣ Dt R (fun i j => cel xs R i j) - (chV (dbR R R xs n) (plK n)).1 := fun m hmem => by
        obtain ⟨i, hi, rfl⟩ := List.mem_iff_getElem.1 hmem
        have h5 := c4 i hi
        have e1 : (plK n).getD i 0 = (plK n)[i] := by simp [List.getD, hi]
        have e2 : (dbR R R xs n).getD i 0 = detM R R xs (plK n)[i] := by simp [dbR, List.getD, hi]
        rw [e1, e2] at h5
        have hdet : detMB R R xs (plK n)[i] = true := by
          unfold detMB redB
          rw [hm, plK_pr n _ hmem]; simp
        obtain ⟨R', hR', -, G⟩ := img_all hdet
        obtain rfl : R' = R := by omega
        have h6 := G.dD
        have := Int.dvd_sub h6 h5
        rwa [show Dt R' (fun i j => cel xs R' i j) - detM R' R' xs (plK n)[i] - ((chV (dbR R' R' xs n) (plK n)).1 - detM R' R' xs (plK n)[i]) = Dt R' (fun i j => cel xs R' i j) - (chV (dbR R' R' xs n) (plK n)).1 by omega] at this
      have hdv := spF_dvd (plK n) 1 hmods.2 (Int.one_dvd _) hall
      rw [(pl_bds n h12).2.2.2] at hdv
      have h7 := Int.dvd_add hdv s1
      rw [show Dt R (fun i j => cel xs R i j) - (chV (dbR R R xs n) (plK n)).1 + ((chV (dbR R R xs n) (plK n)).1 - d) = Dt R (fun i j => cel xs R i j) - d by omega] at h7
      generalize Dt R (fun i j => cel xs R i j) = D at *
      have h8 : (D - d).natAbs < (ppK n).natAbs := by omega
      have h9 : D - d = 0 := by
        apply Classical.byContradiction
        intro hne
        have := Nat.le_of_dvd (show 0 < (D - d).natAbs by omega) (Int.natAbs_dvd_natAbs.2 h7)
        omega
      omega
end Go.Proofs.YtlggfmfelakadaaGreatDoor

/-
  DERIVED. Solutions of a system whose determinant is not 0: there is one, and each road finds it. No program in sight.
-/
namespace Go.Proofs.YtlggfmfelakadaaGreatDoor
set_option linter.unusedVariables false
theorem dtO_Dts {r c x : Int} {ys : List Int} (h : dtO r c ys = some x) : ∃ R : Nat, r = R ∧ c = R ∧ x = Dt R (fun i j => cel ys R i j) := by
  unfold dtO at h
  split at h
  · rename_i hs
    obtain ⟨hm, he, -⟩ := isSq_iff.1 hs
    subst he
    obtain ⟨R, rfl⟩ := nat_of hm.r0
    simp only [Int.toNat_natCast] at h
    have hl := hm.len
    rw [← Int.natCast_mul] at hl
    exact ⟨R, rfl, rfl, detL_Dt R ys x (by omega) h⟩
  · cases h
/-- Column k is c. -/
def cst (f : Fn2) (k : Nat) (c : Nat → Int) : Fn2 := fun i j => if j = k then c i else f i j
theorem cst_at (f : Fn2) (k : Nat) (c : Nat → Int) (i : Nat) : cst f k c i k = c i := if_pos rfl
theorem cst_ne (f : Fn2) {k j : Nat} (c : Nat → Int) (i : Nat) (h : j ≠ k) : cst f k c i j = f i j := if_neg h
theorem cst_zero {R k : Nat} (f : Fn2) (hk : k < R) {c : Nat → Int} (h : ∀ i, i < R → c i = 0) : Dt R (cst f k c) = 0 :=
  Alt.zero (F := fun f => Dt R (fun a b => f b a)) (Dt_altC R) (f := fun a b => cst f k c b a) hk fun y hy => by
    show cst f k c y k = 0
    rw [cst_at, h y hy]
theorem cst_same {R k m : Nat} (f : Fn2) (hk : k < R) (hm : m < R) : Dt R (cst f k (fun i => f i m)) = if m = k then Dt R f else 0 := by
  split
  · rename_i h
    refine Dt_congr R fun i j hi hj => ?_
    unfold cst
    split
    · rename_i e; rw [e, h]
    · rfl
  · rename_i h
    exact Alt.same (F := fun f => Dt R (fun a b => f b a)) (Dt_altC R) hk hm (Ne.symm h) (fun a b => cst f k (fun i => f i m) b a) fun y hy => by
      show cst f k (fun i => f i m) y k = cst f k (fun i => f i m) y m
      rw [cst_at, cst_ne _ _ _ h]
theorem cramer_to {R k : Nat} (f : Fn2) (u : Nat → Int) (hk : k < R) : ∀ m, m ≤ R → Dt R (cst f k (fun i => sumTo (fun l => f i l * u l) m)) = if k < m then u k * Dt R f else 0
  | 0, _ => by rw [if_neg (Nat.not_lt_zero _)]; exact cst_zero f hk fun i _ => rfl
  | m + 1, hm => by
    have h := Dt_col R k (u m) (f := cst f k (fun i => sumTo (fun l => f i l * u l) (m + 1))) (g := cst f k (fun i => sumTo (fun l => f i l * u l) m)) (h := cst f k (fun i => f i m)) hk
      (fun x hx => by rw [cst_at, cst_at, cst_at, sumTo_succ])
      (fun x y hx hy hne => ⟨by rw [cst_ne _ _ _ hne, cst_ne _ _ _ hne], by rw [cst_ne _ _ _ hne, cst_ne _ _ _ hne]⟩)
    rw [h, cramer_to f u hk m (by omega), cst_same f hk (by omega)]
    by_cases e : m = k
    · subst e
      rw [if_neg (Nat.lt_irrefl _), if_pos rfl, if_pos (Nat.lt_succ_self _), Int.zero_add, Int.mul_comm]
    · rw [if_neg e, Int.zero_mul, Int.add_zero]
      by_cases hkm : k < m
      · rw [if_pos hkm, if_pos (by omega)]
      · rw [if_neg hkm, if_neg (by omega)]
theorem cramer {R k : Nat} {f : Fn2} {u c : Nat → Int} (hk : k < R) (h : ∀ i, i < R → sumTo (fun l => f i l * u l) R = c i) : Dt R (cst f k c) = u k * Dt R f := by
  have h1 := cramer_to f u hk R (Nat.le_refl _)
  rw [if_pos hk] at h1
  rw [← h1]
  refine Dt_congr R fun i j hi hj => ?_
  unfold cst
  split
  · exact (h i hi).symm
  · rfl
theorem det_inj {R : Nat} {f : Fn2} (hd : Dt R f ≠ 0) {u : Nat → Int} (h : ∀ i, i < R → sumTo (fun l => f i l * u l) R = 0) : ∀ k, k < R → u k = 0 := fun k hk => by
  have h1 := cramer (c := fun _ => 0) hk h
  rw [cst_zero f hk fun _ _ => rfl] at h1
  rcases Int.mul_eq_zero.1 h1.symm with h2 | h2
  · exact h2
  · exact absurd h2 hd
theorem cst_mul {R k : Nat} (f : Fn2) (hk : k < R) (c : Nat → Int) (D : Int) : Dt R (cst f k (fun i => D * c i)) = D * Dt R (cst f k c) := by
  have h := Dt_col R k D (f := cst f k (fun i => D * c i)) (g := cst f k (fun _ => 0)) (h := cst f k c) hk
    (fun x hx => by rw [cst_at, cst_at, cst_at, Int.zero_add, Int.mul_comm])
    (fun x y hx hy hne => ⟨by rw [cst_ne _ _ _ hne, cst_ne _ _ _ hne], by rw [cst_ne _ _ _ hne, cst_ne _ _ _ hne]⟩)
  rw [h, cst_zero f hk fun _ _ => rfl, Int.zero_add, Int.mul_comm]
/-- Where the determinant is not 0, there is a solution. -/
theorem det_sol {R : Nat} {f : Fn2} (hd : Dt R f ≠ 0) (b : Nat → Int) : ∃ (D : Int) (u : Nat → Int), D ≠ 0 ∧ ∀ i, i < R → sumTo (fun k => f i k * u k) R = D * b i := by
  obtain ⟨z, ⟨k, hk, hz⟩, h⟩ := sys_zero R (fun i j => if j < R then f i j else b i)
  have h2 : ∀ i, i < R → sumTo (fun k => f i k * z k) R + b i * z R = 0 := fun i hi => by
    have := h i hi
    unfold mv at this
    rw [sumTo_succ] at this
    dsimp only at this
    rw [if_neg (Nat.lt_irrefl _)] at this
    rw [← this]
    congr 1
    exact sumTo_congr R fun k hk => by rw [if_pos hk]
  refine ⟨-z R, z, fun e => ?_, fun i hi => ?_⟩
  · have e0 : z R = 0 := by omega
    have h3 := det_inj hd (u := z) fun i hi => by
      have := h2 i hi
      rw [e0, Int.mul_zero, Int.add_zero] at this
      exact this
    by_cases e1 : k = R
    · subst e1; exact hz e0
    · exact hz (h3 k (by omega))
  · have := h2 i hi
    generalize sumTo (fun k => f i k * z k) R = s at *
    grind
/-- The ratios qs solve f x = b. -/
structure SLV (R : Nat) (f : Fn2) (b : Nat → Int) (qs : List Int) : Prop where
  len : qs.length = R * 2
  ok : ∀ k, k < R → ratOk (fl qs k).1 (fl qs k).2 = true
  sol : ∃ (D : Int) (u : Nat → Int), D ≠ 0 ∧ (∀ k, k < R → (fl qs k).1 * D = u k * (fl qs k).2) ∧ ∀ i, i < R → sumTo (fun k => f i k * u k) R = D * b i
theorem low_uniq {n d n' d' : Int} (h : ratOk n d = true) (h' : ratOk n' d' = true) (e : n * d' = n' * d) : n = n' ∧ d = d' := by
  obtain ⟨⟨a1, _⟩, _, g⟩ := (ratOk_iff _ _).1 h
  obtain ⟨⟨b1, _⟩, _, g'⟩ := (ratOk_iff _ _).1 h'
  have c1 : Nat.Coprime d.natAbs n.natAbs := by rw [Nat.coprime_comm]; exact g
  have c2 : Nat.Coprime d'.natAbs n'.natAbs := by rw [Nat.coprime_comm]; exact g'
  have e2 : n.natAbs * d'.natAbs = n'.natAbs * d.natAbs := by rw [← Int.natAbs_mul, ← Int.natAbs_mul, e]
  have h1 : d.natAbs ∣ d'.natAbs := c1.dvd_of_dvd_mul_left ⟨n'.natAbs, by rw [e2, Nat.mul_comm]⟩
  have h2 : d'.natAbs ∣ d.natAbs := c2.dvd_of_dvd_mul_left ⟨n.natAbs, by rw [← e2, Nat.mul_comm]⟩
  have h3 := Nat.dvd_antisymm h1 h2
  have h4 : d = d' := by omega
  refine ⟨?_, h4⟩
  rw [← h4] at e
  exact Int.eq_of_mul_eq_mul_right (show d ≠ 0 by omega) e
theorem fl_ext {R : Nat} {qs ps : List Int} (h1 : qs.length = R * 2) (h2 : ps.length = R * 2) (h : ∀ k, k < R → fl qs k = fl ps k) : qs = ps :=
  getD_ext (by omega) fun k hk => by
    obtain ⟨i, hi⟩ : ∃ i, k = i * 2 ∨ k = i * 2 + 1 := ⟨k / 2, by omega⟩
    have := h i (by omega)
    unfold fl at this
    injection this with e1 e2
    rcases hi with rfl | rfl
    · exact e1
    · exact e2
theorem SLV.uniq {R : Nat} {f : Fn2} {b : Nat → Int} {qs ps : List Int} (hd : Dt R f ≠ 0) (h : SLV R f b qs) (k : SLV R f b ps) : qs = ps := by
  obtain ⟨D, u, hD, h1, h2⟩ := h.sol
  obtain ⟨E, v, hE, k1, k2⟩ := k.sol
  have hw := det_inj hd (u := fun k => u k * E - v k * D) fun i hi => by
    have e : sumTo (fun l => f i l * (u l * E - v l * D)) R = sumTo (fun l => f i l * u l) R * E - sumTo (fun l => f i l * v l) R * D := by
      rw [← sumTo_mul, ← sumTo_mul, ← sumTo_sub]
      exact sumTo_congr R fun l _ => by grind
    rw [e, h2 i hi, k2 i hi]
    grind
  refine fl_ext h.len k.len fun i hi => ?_
  have e := low_uniq (h.ok i hi) (k.ok i hi) (by
    have a1 := h1 i hi
    have a2 := k1 i hi
    have a3 := hw i hi
    generalize fl qs i = q at *
    generalize fl ps i = p at *
    generalize u i = x at *
    generalize v i = y at *
    refine Int.eq_of_mul_eq_mul_right (Int.mul_ne_zero hD hE) ?_
    have s1 : q.1 * p.2 * (D * E) = q.1 * D * p.2 * E := by grind
    have s2 : p.1 * q.2 * (D * E) = p.1 * E * q.2 * D := by grind
    rw [s1, s2, a1, a2]
    have : x * E = y * D := by omega
    grind)
  exact Prod.ext e.1 e.2
/-- What the check says. -/
theorem ir_slv {r c : Int} {xs bs qs : List Int} (h : irB r c xs bs qs = true) (hsq : r = c) (h0 : 0 ≤ r) : ∃ R : Nat, r = R ∧ SLV R (fun i j => cel xs R i j) (fun i => bs.getD i 0) qs := by
  unfold irB at h
  rw [Bool.and_eq_true, Bool.and_eq_true, Bool.and_eq_true] at h
  obtain ⟨⟨⟨hm, hb⟩, hq⟩, hr⟩ := h
  subst hsq
  obtain ⟨R, rfl⟩ := nat_of h0
  have hq' := of_decide_eq_true hq
  simp only [Int.toNat_natCast] at hr
  have hrow : ∀ i, i < R → ratRow xs R qs i = (bs.getD i 0, 1) := fun i hi => by
    by_cases e : ratRow xs R qs i = (bs.getD i 0, 1)
    · exact e
    · rw [ratRows_no hi e] at hr; cases hr
  have hrok : ∀ i, i < R → ratOk (ratRow xs R qs i).1 (ratRow xs R qs i).2 = true := fun i hi => by
    rcases rsum_ok (fun k => (cel xs R i k, 1)) (fl qs) R with h | h
    · exact h
    · have e := hrow i hi
      unfold ratRow at e
      rw [h] at e
      injection e with e1 e2
      cases e2
  have hok : ∀ k, k < R → ratOk (fl qs k).1 (fl qs k).2 = true := fun k hk =>
    rsum_parts _ _ R (hrok 0 (by omega)) k hk
  refine ⟨R, rfl, ⟨by omega, hok, cmD (fl qs) R, fun k => (fl qs k).1 * (cmD (fl qs) R).tdiv (fl qs k).2, cmD_ne _ _, fun k hk => ?_, fun i hi => ?_⟩⟩
  · rw [Int.mul_assoc, Int.tdiv_mul_cancel (cmD_dvd _ R k hk (den_ne (hok k hk)))]
  · have hsame : ∀ (f : Nat → Int) n, n ≤ R → rsum (fun k => (f k, 1)) (fun k => if k < R then fl qs k else (0, 0)) n = rsum (fun k => (f k, 1)) (fl qs) n := fun f n => by
      induction n with
      | zero => intro _; rfl
      | succ n ih =>
        intro hn
        unfold rsum
        rw [ih (by omega), if_pos (by omega)]
    have hv := rsum_val (f := fun k => cel xs R i k) (g := fun k => if k < R then fl qs k else (0, 0)) (N := fun k => (fl qs k).1 * (cmD (fl qs) R).tdiv (fl qs k).2) (D := cmD (fl qs) R) (fun k hk => by
      by_cases hkR : k < R
      · rw [if_pos hkR] at hk ⊢
        rw [Int.mul_assoc, Int.tdiv_mul_cancel (cmD_dvd _ R k hkR (den_ne hk))]
      · rw [if_neg hkR] at hk; cases hk) R (by rw [hsame _ R (Nat.le_refl _)]; exact hrok i hi)
    rw [hsame _ R (Nat.le_refl _)] at hv
    have e := hrow i hi
    unfold ratRow at e
    rw [e] at hv
    dsimp only at hv
    rw [Int.one_mul] at hv
    rw [← hv, Int.mul_comm]
theorem fl_snoc {qs : List Int} {j : Nat} (h : qs.length = j * 2) (a b : Int) {k : Nat} : fl (qs ++ [a, b]) k = if k < j then fl qs k else if k = j then (a, b) else fl (qs ++ [a, b]) k := by
  split
  · rename_i hk
    unfold fl
    simp only [List.getD, List.getElem?_append_left (show k * 2 < qs.length by omega), List.getElem?_append_left (show k * 2 + 1 < qs.length by omega)]
  · split
    · rename_i hk
      subst hk
      unfold fl
      simp only [List.getD, List.getElem?_append_right (show qs.length ≤ k * 2 by omega), List.getElem?_append_right (show qs.length ≤ k * 2 + 1 by omega), h, Nat.sub_self, show k * 2 + 1 - k * 2 = 1 by omega]
      rfl
    · rfl
theorem makR_low {n d : Int} (hn : Num n) (hd : Num d) (h0 : d ≠ 0) : ratOk (makR n d).1 (makR n d).2 = true ∧ (makR n d).1 * d = n * (makR n d).2 := by
  have e1 := hn.isN
  have e2 := hd.isN
  have e : makR n d = lowR n d := by unfold makR; rw [e1, e2]; simp [h0]
  rw [e]
  have := lowR_num e1 e2 h0
  exact ⟨this, lowR_val (ok_ne this) h0⟩
/-- The ratios of the roads by determinants. -/
theorem sdS_all {d : Int} {R : Nat} {f : Fn2} {bs : List Int} : ∀ (j : Nat) {qs : List Int}, sdS d R f bs j = some qs → qs.length = j * 2 ∧ ∀ k, k < j → ∃ n, dtO R R (rpL R f bs k) = some n ∧ fl qs k = makR n d
  | 0, qs, h => by
    injection h with h
    subst h
    exact ⟨rfl, fun k hk => absurd hk (Nat.not_lt_zero _)⟩
  | j + 1, qs, h => by
    have h' : ((sdS d R f bs j).bind fun qs => (dtO R R (rpL R f bs j)).bind fun n => some (qs ++ [(makR n d).1, (makR n d).2])) = some qs := h
    rcases h1 : sdS d R f bs j with _ | ps
    · rw [h1] at h'; cases h'
    · rw [h1, Option.bind_some] at h'
      rcases h2 : dtO R R (rpL R f bs j) with _ | n
      · rw [h2] at h'; cases h'
      · rw [h2, Option.bind_some] at h'
        injection h' with h'
        subst h'
        obtain ⟨i1, i2⟩ := sdS_all j h1
        refine ⟨by rw [List.length_append, i1]; simp; omega, fun k hk => ?_⟩
        by_cases e : k = j
        · subst e
          refine ⟨n, h2, ?_⟩
          rw [fl_snoc i1, if_neg (Nat.lt_irrefl _), if_pos rfl]
        · obtain ⟨m, a1, a2⟩ := i2 k (by omega)
          refine ⟨m, a1, ?_⟩
          rw [fl_snoc i1, if_pos (by omega), a2]
theorem sd_slv {r c : Int} {xs bs qs : List Int} (h : sdO r c xs bs = some qs) : ∃ R : Nat, r = R ∧ c = R ∧ Dt R (fun i j => cel xs R i j) ≠ 0 ∧ SLV R (fun i j => cel xs R i j) (fun i => bs.getD i 0) qs := by
  unfold sdO at h
  split at h
  · rcases hd : dtO r c xs with _ | d
    · rw [hd] at h; cases h
    · rw [hd, Option.bind_some] at h
      have hdn := dtO_num hd
      obtain ⟨R, rfl, rfl, he⟩ := dtO_Dts hd
      split at h
      · cases h
      · rename_i hd0
        simp only [Int.toNat_natCast] at h
        obtain ⟨hl, hk⟩ := sdS_all R h
        refine ⟨R, rfl, rfl, by rw [← he]; exact hd0, ?_⟩
        have hn : ∀ k, k < R → ∃ n, Num n ∧ n = Dt R (cst (fun i j => cel xs R i j) k (fun i => bs.getD i 0)) ∧ fl qs k = makR n d := fun k hkR => by
          obtain ⟨n, a1, a2⟩ := hk k hkR
          refine ⟨n, dtO_num a1, ?_, a2⟩
          obtain ⟨R', hR', -, a3⟩ := dtO_Dts a1
          obtain rfl : R = R' := by omega
          rw [a3]
          refine Dt_congr R fun i j hi hj => ?_
          unfold rpL
          rw [cel_tb hi hj]
          unfold rpF cst
          by_cases e : j = k
          · rw [if_pos ⟨e, hi⟩, if_pos e]
          · rw [if_neg (fun h => e h.1), if_neg e]
        obtain ⟨D, u, hD, hs⟩ := det_sol (f := fun i j => cel xs R i j) (by rw [← he]; exact hd0) (fun i => bs.getD i 0)
        refine ⟨hl, fun k hkR => ?_, D, u, hD, fun k hkR => ?_, hs⟩
        · obtain ⟨n, b1, b2, b3⟩ := hn k hkR
          rw [b3]
          exact (makR_low b1 hdn hd0).1
        · obtain ⟨n, b1, b2, b3⟩ := hn k hkR
          rw [b3]
          have b4 := (makR_low b1 hdn hd0).2
          have b5 := cramer hkR hs
          rw [cst_mul _ hkR, ← b2, ← he] at b5
          generalize makR n d = q at *
          refine Int.eq_of_mul_eq_mul_right hd0 ?_
          have s1 : q.1 * D * d = q.1 * d * D := by grind
          rw [s1, b4]
          have s2 : u k * q.2 * d = u k * d * q.2 := by grind
          rw [s2, ← b5]
          grind
  · cases h
theorem EF.unit {R C : Nat} {p : Nat → Nat} {f : Fn2} (H : EF R C R p f) (hlast : p (R - 1) = R - 1) : ∀ i, i < R → p i = i := fun i hi => by
  have lo : ∀ m, m < R → m ≤ p m := fun m => by
    induction m with
    | zero => intro _; omega
    | succ m ih =>
      intro hm
      have := ih (by omega)
      have := H.mono m (m + 1) (by omega) hm
      omega
  have hi2 : ∀ m, m < R → p (R - 1 - m) ≤ R - 1 - m := fun m => by
    induction m with
    | zero => intro _; rw [Nat.sub_zero, hlast]; omega
    | succ m ih =>
      intro hm
      have h1 := ih (by omega)
      have h2 := H.mono (R - 1 - (m + 1)) (R - 1 - m) (by omega) (by omega)
      omega
  have h1 := lo i hi
  have h2 := hi2 (R - 1 - i) (by omega)
  rw [show R - 1 - (R - 1 - i) = i by omega] at h2
  omega
theorem seL_all (s : QSt) (R : Nat) : ∀ k i, i < k → fl (seL s R k) i = makR (s.f i R) (s.f i i)
  | 0, i, h => absurd h (Nat.not_lt_zero _)
  | k + 1, i, h => by
    show fl (seL s R k ++ seF s R k) i = _
    unfold seF
    rw [fl_snoc (seL_len s R k)]
    by_cases e : i = k
    · subst e
      rw [if_neg (Nat.lt_irrefl _), if_pos rfl]
    · rw [if_pos (by omega)]
      exact seL_all s R k i (by omega)
/-- The ratios of the road by elimination. -/
theorem se_slv {r c : Int} {xs bs : List Int} (h : seB r c xs bs = true) : ∃ R : Nat, r = R ∧ c = R ∧ SLV R (fun i j => cel xs R i j) (fun i => bs.getD i 0) (seV r c xs bs) := by
  have h0 := h
  unfold seB at h
  rw [Bool.and_eq_true] at h
  obtain ⟨hs, ho⟩ := h
  have S := sysOk hs
  have hrc := S.rc
  subst hrc
  obtain ⟨R, rfl⟩ := nat_of S.m.r0
  refine ⟨R, rfl, rfl, ?_⟩
  unfold seV
  rw [if_pos h0]
  simp only [Int.toNat_natCast] at ho ⊢
  rcases hx : seX R xs bs with _ | s
  · rw [hx] at ho; cases ho
  · rw [hx] at ho
    dsimp only
    unfold seOk at ho
    rw [Bool.and_eq_true, Bool.or_eq_true] at ho
    obtain ⟨o1, o2⟩ := ho
    have o3 := of_decide_eq_true o1
    unfold seX at hx
    simp only [Int.toNat_natCast] at hx
    have E := eo_ef hx
    have hle := E.ef.le
    obtain ⟨p, hp⟩ : ∃ p, pf s.ps = p := ⟨_, rfl⟩
    have H : EF R (R + 1) R p s.f := by
      have := E.ef
      rw [show s.ps.length = R by omega, hp] at this
      exact this
    have hlast : 0 < R → p (R - 1) = R - 1 := fun hR => by
      rcases o2 with o2 | o2
      · have := of_decide_eq_true o2; omega
      · have := of_decide_eq_true o2
        rw [← hp]
        unfold pf
        omega
    have hpi : ∀ i, i < R → p i = i := fun i hi => H.unit (hlast (by omega)) i hi
    have hne : ∀ i, i < R → s.f i i ≠ 0 := fun i hi => by have := H.ne i hi; rwa [hpi i hi] at this
    have hoth : ∀ i k, i < R → k < R → k ≠ i → s.f k i = 0 := fun i k hi hk hki => by have := H.oth i k hi hk hki; rwa [hpi i hi] at this
    have hnum : ∀ i c, i < R → c < R + 1 → Num (s.f i c) := fun i c hi hc => E.ok.bd i c hi hc
    have hfl := seL_all s R R
    refine ⟨seL_len s R R, fun k hk => ?_, cmD (fun k => (0, s.f k k)) R, fun k => s.f k R * (cmD (fun k => (0, s.f k k)) R).tdiv (s.f k k), cmD_ne _ _, fun k hk => ?_, fun i hi => ?_⟩
    · rw [hfl k hk]
      exact (makR_low (hnum k R hk (by omega)) (hnum k k hk (by omega)) (hne k hk)).1
    · rw [hfl k hk]
      dsimp only
      have b4 := (makR_low (hnum k R hk (by omega)) (hnum k k hk (by omega)) (hne k hk)).2
      have b5 := Int.tdiv_mul_cancel (cmD_dvd (fun k => (0, s.f k k)) R k hk (hne k hk))
      dsimp only at b5
      have hk0 := hne k hk
      generalize makR (s.f k R) (s.f k k) = q at *
      generalize cmD (fun k => (0, s.f k k)) R = D at *
      generalize s.f k k = d at *
      refine Int.eq_of_mul_eq_mul_right hk0 ?_
      have s1 : q.1 * D * d = q.1 * d * D := by grind
      rw [s1, b4]
      have s2 : s.f k R * D.tdiv d * q.2 * d = s.f k R * (D.tdiv d * d) * q.2 := by grind
      rw [s2, b5]
      grind
    · obtain ⟨d, c, hd, hc⟩ := E.sp.1 i hi
      have hcol : ∀ j, j < R → d * cel xs R i j = c j * s.f j j := fun j hj => by
        have := hc j (by omega)
        dsimp only at this
        rw [cel_tb hi (show j < R + 1 by omega)] at this
        unfold augF at this
        rw [if_pos hj] at this
        rw [this]
        exact sumTo_one (f := fun k => c k * s.f k j) R hj fun k hk hkj => by rw [hoth j k hj hk hkj, Int.mul_zero]
      have hrt : d * bs.getD i 0 = sumTo (fun k => c k * s.f k R) R := by
        have := hc R (by omega)
        dsimp only at this
        rw [cel_tb hi (show R < R + 1 by omega)] at this
        unfold augF at this
        rw [if_neg (Nat.lt_irrefl _)] at this
        exact this
      refine Int.eq_of_mul_eq_mul_left hd ?_
      rw [← sumTo_mul']
      have e1 : sumTo (fun k => d * (cel xs R i k * (s.f k R * (cmD (fun k => (0, s.f k k)) R).tdiv (s.f k k)))) R = sumTo (fun k => c k * s.f k R * cmD (fun k => (0, s.f k k)) R) R :=
        sumTo_congr R fun k hk => by
          have b5 := Int.tdiv_mul_cancel (cmD_dvd (fun k => (0, s.f k k)) R k hk (hne k hk))
          dsimp only at b5
          have b6 := hcol k hk
          generalize cmD (fun k => (0, s.f k k)) R = D at *
          generalize s.f k k = e at *
          have s1 : d * (cel xs R i k * (s.f k R * D.tdiv e)) = d * cel xs R i k * (s.f k R * D.tdiv e) := by grind
          rw [s1, b6]
          have s2 : c k * e * (s.f k R * D.tdiv e) = c k * s.f k R * (D.tdiv e * e) := by grind
          rw [s2, b5]
      rw [e1, sumTo_mul, ← hrt]
      grind
/-- What lifting answers is checked, and the determinant is not 0. -/
theorem ls_slv {r c : Int} {xs bs qs : List Int} (h : lsX r c xs bs = some qs) : irB r c xs bs qs = true ∧ ∃ R : Nat, r = R ∧ c = R ∧ Dt R (fun i j => cel xs R i j) ≠ 0 ∧ SLV R (fun i j => cel xs R i j) (fun i => bs.getD i 0) qs := by
  rcases hs : sysB r c xs bs with _ | _
  · rw [lsX_no hs] at h; cases h
  · rcases hp : liP r c xs 99 101 with _ | p
    · rw [lsX_none hs hp] at h; cases h
    · rw [lsX_some hs hp] at h
      have hir : irB r c xs bs qs = true := by
        unfold lsQ at h
        rcases ho : liO (p ^ liK p) (liBd (p ^ liK p) 10000) (liS r.toNat (fun i j => cel xs r.toNat i j) (fun i j => (imS r c xs p).f i (r.toNat + j)) p bs (liK p)).2 r.toNat with _ | q
        · rw [ho] at h; cases h
        · rw [ho, Option.bind_some] at h
          split at h
          · rename_i hi; injection h with h; subst h; exact hi
          · cases h
      have S := sysOk hs
      have hrc := S.rc
      subst hrc
      obtain ⟨hi, -, -⟩ := liP_some _ _ hp
      obtain ⟨hD, hne⟩ := im_some hi
      obtain ⟨R, rfl, -, G⟩ := img_all hD
      refine ⟨hir, R, rfl, rfl, fun e => ?_, ?_⟩
      · have h1 := G.dD
        rw [e] at h1
        have h2 := G.d0
        have h3 := G.dp
        have h4 : p ∣ detM R R xs p := by
          have := Int.dvd_neg.2 h1
          rwa [show -(0 - detM R R xs p) = detM R R xs p by omega] at this
        have := Int.emod_eq_zero_of_dvd h4
        rw [Int.emod_eq_of_lt h2 h3] at this
        exact hne this
      · obtain ⟨R', hR', k⟩ := ir_slv hir rfl (by omega)
        obtain rfl : R = R' := by omega
        exact k
end Go.Proofs.YtlggfmfelakadaaGreatDoor

/-
  DERIVED. What FnCore asks of numbers; the laws' row.
-/
namespace Go.Proofs.YtlggfmfelakadaaGreatDoor
open Go.RowKit
set_option linter.unusedVariables false
set_option linter.unusedSimpArgs false
/-- The roads of FnCore, where lifting answers. -/
structure CRV (r c : Int) (xs bs qs : List Int) : Prop where
  len : qs.length = r.toNat * 2
  ok : ∀ k, k < r.toNat → ratOk (fl qs k).1 (fl qs k).2 = true
  sd : sdB r c xs bs = true → sdN r c xs bs = r.toNat ∧ sdV r c xs bs = qs
  ir : irB r c xs bs qs = true
  dt : ∀ d, dbV r c xs = some d → d ≠ 0
theorem core_crv {r c : Int} {xs bs qs : List Int} (h : lsX r c xs bs = some qs) : CRV r c xs bs qs := by
  obtain ⟨hi, R, rfl, rfl, hD, hS⟩ := ls_slv h
  refine ⟨hS.len, hS.ok, ?_, hi, ?_⟩
  · intro hb
    rcases hq : sdO R R xs bs with _ | q
    · rw [(sd_no hq).2.2] at hb; cases hb
    · obtain ⟨h1, h2, h3⟩ := sd_yes hq
      obtain ⟨R', hR', -, hD', k1⟩ := sd_slv hq
      obtain rfl : R = R' := by omega
      exact ⟨h1, h2.trans (SLV.uniq hD k1 hS)⟩
  · intro d hd
    obtain ⟨R', hR', -, rfl⟩ := db_det hd
    obtain rfl : R = R' := by omega
    exact hD
set_option maxRecDepth 100000 in
theorem laws_row (A : Option Addr) (n cap : Nat) (w : World) : Calls Tryz.prog 7 #[.slice A n cap] w (GV (.agg #[.int .i64 1, .int .i64 n, .slice A n cap]) w) := by
  go_enter Tryz.func7, Tryz.ntmps7
  go_wp2_with fail
  refine ret_M (b := w.heap.size) Tryz.results7 rfl Ka rfl ?_
  exact ⟨rfl, Kw⟩
end Go.Proofs.YtlggfmfelakadaaGreatDoor

/-
  DERIVED. FormatMatrix of any matrix, and ParseMatrix of what it writes, in one form.
-/
namespace Go.Proofs.YtlggfmfelakadaaGreatDoor
open Go.RowKit
set_option linter.unusedVariables false
set_option linter.unusedSimpArgs false
def fmT (r c : Int) (xs : List Int) : Bs := if isMat r c xs = true then matT r.toNat c.toNat xs else []
def pmX (r c : Int) (xs : List Int) : Mx := if isMat r c xs = true then ⟨r, c, xs⟩ else ⟨0, 0, []⟩
theorem isMat_nat {r c : Int} {xs : List Int} (h : isMat r c xs = true) : r = (r.toNat : Int) ∧ c = (c.toNat : Int) := by
  have h1 := (isMat_iff.1 h).r0
  have h2 := (isMat_iff.1 h).c0
  omega
theorem impl_FormatMatrix_any (r c : Int) (A : Option Addr) (n cap : Nat) (xs : List Int) (w : World) {B : Nat} (h : RI w B A n xs) (hB : B ≤ w.heap.size) (hnc : n ≤ cap) (hcap : cap ≤ 9223372036854775807) (hn : n ≤ 1048576) (hv : LV w) :
    Calls Tryz.prog 6 #[.agg #[.int .i64 r, .int .i64 c, .slice A n cap]] w (GV (.string (bs (fmT r c xs))) w) := by
  unfold fmT
  by_cases hm : isMat r c xs = true
  · rw [if_pos hm]
    obtain ⟨h1, h2⟩ := isMat_nat hm
    generalize r.toNat = R at *
    generalize c.toNat = C at *
    subst h1; subst h2
    exact impl_FormatMatrix R C A n cap xs w h hB hnc hcap hn hm hv
  · rw [if_neg hm]
    exact impl_FormatMatrix_no r c A n cap xs w h hB hnc hn (by rw [← Bool.not_eq_true]; exact hm)
theorem impl_ParseMatrix_any (r c : Int) (xs : List Int) (w : World) (hv : LV w) : Calls Tryz.prog 8 #[.string (bs (fmT r c xs))] w (MBR (pmX r c xs) (isMat r c xs) w) := by
  unfold fmT pmX
  by_cases hm : isMat r c xs = true
  · rw [if_pos hm, if_pos hm, hm]
    obtain ⟨h1, h2⟩ := isMat_nat hm
    generalize r.toNat = R at *
    generalize c.toNat = C at *
    subst h1; subst h2
    exact impl_ParseMatrix R C xs w hm hv
  · rw [if_neg hm, if_neg hm, show isMat r c xs = false by rw [← Bool.not_eq_true]; exact hm]
    exact impl_ParseMatrix_nil w hv
end Go.Proofs.YtlggfmfelakadaaGreatDoor

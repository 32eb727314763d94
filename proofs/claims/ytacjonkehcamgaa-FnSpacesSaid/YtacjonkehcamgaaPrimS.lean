/-
  DERIVED. l7Primitive of the reference.
-/
import Derived.Test.YtacjonkehcamgaaPlainQ2
import Derived.Test.YtacjonkehcamgaaRowOp
namespace Go.Proofs.Ytacjonkehcamgaa
open Go.RowKit
set_option linter.unusedVariables false
set_option linter.unusedSimpArgs false
/-- The sign of the first number that is not 0. -/
def sgL (l : List Int) : Int := l.foldl (fun s x => if s = 0 then x.sign else s) 0
theorem sgL_take {l : List Int} {k : Nat} (h : k < l.length) : sgL (l.take (k + 1)) = if sgL (l.take k) = 0 then (l.getD k 0).sign else sgL (l.take k) := by
  have e : l[k]? = some (l.getD k 0) := by simp [List.getD, h]
  rw [List.take_add_one, e]
  simp [sgL, List.foldl_append]
theorem sgF_keep (s : Int) (hs : s ≠ 0) : ∀ l : List Int, l.foldl (fun s x => if s = 0 then x.sign else s) s = s
  | [] => rfl
  | x :: l => by
    show l.foldl _ (if s = 0 then x.sign else s) = s
    rw [if_neg hs]
    exact sgF_keep s hs l
theorem sgL_eq : ∀ l : List Int, sgL l = (l.getD (fcN l) 0).sign
  | [] => rfl
  | x :: l => by
    unfold sgL fcN
    show l.foldl _ (if (0 : Int) = 0 then x.sign else 0) = _
    rw [if_pos rfl]
    by_cases h : x = 0
    · rw [if_pos h, h]
      show l.foldl _ (Int.sign 0) = _
      rw [Int.sign_zero]
      have := sgL_eq l
      unfold sgL at this
      rw [this]
      simp
    · rw [if_neg h, sgF_keep _ (by rw [Ne, Int.sign_eq_zero_iff_zero]; exact h)]
      simp
theorem sgL_bd (l : List Int) : -1 ≤ sgL l ∧ sgL l ≤ 1 := by
  rw [sgL_eq]
  rcases Int.lt_trichotomy (l.getD (fcN l) 0) 0 with h | h | h
  · rw [Int.sign_eq_neg_one_of_neg h]; omega
  · rw [h]; simp
  · rw [Int.sign_eq_one_of_pos h]; omega
theorem sg_prim {l : List Int} {k : Nat} (hk : k < l.length) (h0 : gcdL l ≠ 0) : (sgL l * l.getD k 0).tdiv (gcdL l : Nat) = (primL l).getD k 0 := by
  rw [primL_getD hk h0, sgL_eq]
  have hlt := fcN_lt_iff.2 h0
  have hne := fcN_ne l hlt
  unfold divL
  by_cases h : l.getD (fcN l) 0 < 0
  · rw [if_pos h, Int.sign_eq_neg_one_of_neg h, Int.tdiv_neg]
    rw [show (-1 : Int) * l.getD k 0 = -(l.getD k 0) by omega, Int.neg_tdiv]
  · rw [if_neg h, Int.sign_eq_one_of_pos (by omega), Int.one_mul]
theorem quo_abs {x : Int} (h : x ≠ 0) : x.tdiv (x.natAbs : Nat) = x.sign := by
  rcases Int.lt_or_gt_of_ne h with h1 | h1
  · rw [Int.sign_eq_neg_one_of_neg h1]
    have e : ((x.natAbs : Nat) : Int) = -x := by omega
    rw [e, Int.tdiv_neg, Int.tdiv_self h]
  · rw [Int.sign_eq_one_of_pos h1]
    have e : ((x.natAbs : Nat) : Int) = x := by omega
    rw [e, Int.tdiv_self h]
def pmK (C : Nat) (f : Nat → Nat → Int) (i k : Nat) : Nat → Nat → Int := fun a c => if a = i ∧ c < k then (primL (rw_ C f i)).getD c 0 else f a c
theorem pmK_zero (C : Nat) (f : Nat → Nat → Int) (i : Nat) : pmK C f i 0 = f := by funext a c; simp [pmK]
theorem pmK_at (C : Nat) (f : Nat → Nat → Int) (i k c : Nat) (h : k ≤ c) : pmK C f i k i c = f i c := by unfold pmK; rw [if_neg (by omega)]
theorem pmK_step (C : Nat) (f : Nat → Nat → Int) (i k : Nat) : upd (pmK C f i k) i k ((primL (rw_ C f i)).getD k 0) = pmK C f i (k + 1) := by
  funext a c
  unfold upd pmK
  grind
theorem pmK_end {R C : Nat} (f : Nat → Nat → Int) (i : Nat) : tb R C (pmK C f i C) = tb R C (prF C f i) := tb_ext fun a c ha hc => by unfold pmK prF setR; grind
theorem prF_zero {R C : Nat} {f : Nat → Nat → Int} {i : Nat} (h : gcdL (rw_ C f i) = 0) : tb R C (prF C f i) = tb R C f := prF_same ((primL_eq_iff _).2 (.inl h))
set_option maxRecDepth 100000 in
set_option maxHeartbeats 8000000 in
theorem spec_l7Primitive (R C i : Nat) (A : Option Addr) (n cap : Nat) (f : Nat → Nat → Int) (w : World) {B : Nat} (h : OR w B (.slice A n cap) (tb R C f)) (hi : i < R) (hR : R ≤ 24) (hC : C ≤ 48) (hb : ∀ c, c < C → -400000000 ≤ f i c ∧ f i c ≤ 400000000) :
    Calls Try.prog 223 #[.agg #[.int .i64 R, .int .i64 C, .slice A n cap], .int .i64 i] w (WW (.tuple #[]) (.slice A n cap) B (tb R C (prF C f i)) w) := by
  have hn := h.lenEq
  rw [tb_len] at hn
  have hcaps := h.caps
  have HN := Lib.hid hn
  have HB := Lib.hid hb
  have HGB : Hid (∀ k, gcdL ((rw_ C f i).take k) ≤ 400000000) := Lib.hid (fun k => by
    refine gcdF_le' _ 400000000 (fun x hx => ?_) 0 (by omega)
    have h1 := List.mem_of_mem_take hx
    obtain ⟨j, hj, rfl⟩ := List.mem_iff_getElem.1 h1
    have h3 : (rw_ C f i).getD j 0 = (rw_ C f i)[j] := by simp [List.getD, hj]
    have h2 := rw_bd hb j
    rw [h3] at h2
    exact h2)
  have HG : Hid (0 < R * C → ∃ g, A = some ⟨g, 0, none⟩ ∧ B ≤ g ∧ g < w.heap.size) := Lib.hid (fun h0 => h.begins (by rw [tb_len]; exact h0))
  have HI : Hid (i * C ≤ 2000) := Lib.hid (by have := Nat.mul_le_mul (show i ≤ 24 by omega) hC; omega)
  clear hn hb
  go_enter Try.func223, Try.ntmps223
  go_wp2_with fail
  go_loopw [4, 5, 6, 7] (fun vg vs vj _ wr => ∃ j : Nat, vj = .int .i64 j ∧ vg = .int .i64 (gcdL ((rw_ C f i).take j) : Nat) ∧ vs = .int .i64 (sgL ((rw_ C f i).take j)) ∧ j ≤ C ∧ BM wr w.heap.size R C A n cap ∧ OR wr B (.slice A n cap) (tb R C f) ∧ w.grownBy wr (Value.slice A n cap).ownBlock) (fun _ _ v _ _ => C - (intOf v).toNat)
  case atStart => exact ⟨0, rfl, by simp [gcdL], by simp [sgL], Nat.zero_le _, by (repeat (first | (with_reducible assumption) | (with_reducible refine BX.new _ _ _ _ _ _ _ _ (by first | omega | (simp; done) | (simp; omega))) | (with_reducible refine BX.below ?_ (by assumption) (by first | omega | (simp; done) | (simp; omega))) | (with_reducible apply BX.drew) | (with_reducible apply BX.drewN) | (with_reducible refine BX.put ?_) | (with_reducible refine BX.put2 ?_) | (with_reducible refine BX.far ?_ (by simp only [ne_eq]; omega) _) | (with_reducible apply BX.alloc) | (with_reducible refine B3.new _ _ _ _ _ _ (by first | omega | (simp; done) | (simp; omega))) | (with_reducible refine B3.of (by assumption)) | (with_reducible refine B3.below ?_ (by assumption) (by first | omega | (simp; done) | (simp; omega))) | (with_reducible apply B3.drew) | (with_reducible apply B3.drewN) | (with_reducible refine B3.far ?_ (by simp only [ne_eq]; omega) _) | (with_reducible apply B3.alloc))), h.alloc _, by (repeat (first | (with_reducible assumption) | (with_reducible exact World.grownBy.refl _ _) | (with_reducible refine only_alloc ?_ _) | (with_reducible refine only_drewN ?_ _) | (with_reducible refine only_drew ?_) | (with_reducible refine only_set ?_ _ _) | (with_reducible refine grown_far ?_ (by first | omega | (simp; done) | (simp; omega)) _) | (with_reducible refine only_trans ?_ (only_of_below (by assumption) _)) | (with_reducible refine only_trans ?_ (by assumption))))⟩
  case round =>
    clear h
    obtain ⟨j, rfl, rfl, rfl, hj, hO, hown, hgr⟩ := hrel
    obtain ⟨oa, ob, oc, of, ol⟩ := hO.mx
    have hgb := HGB.out j
    have hsb := sgL_bd ((rw_ C f i).take j)
    by_cases hjC : j < C
    · obtain ⟨g, rfl, hg1, hg2⟩ := HG.out (Nat.mul_pos (by omega) (by omega))
      have hid := idx_nat hi hjC
      have hid2 : i * C + j < n := by rw [HN.out]; exact hid
      have hid3 := HI.out
      have c1 := hown.cell (i * C + j) (by rw [tb_len]; exact hid)
      rw [tb_at hi hjC] at c1
      obtain ⟨y1, y2⟩ := HB.out j hjC
      have hst := gcdL_take (l := rw_ C f i) (k := j) (by rw [rw_len]; exact hjC)
      have hss := sgL_take (l := rw_ C f i) (k := j) (by rw [rw_len]; exact hjC)
      rw [rw_at hjC] at hst hss
      have HST := Lib.hid hst
      have HSS := Lib.hid hss
      clear hst hss hid
      generalize gcdL ((rw_ C f i).take j) = q at *
      generalize sgL ((rw_ C f i).take j) = s at *
      generalize f i j = y at *
      by_cases hs : s = 0
      · have hsb1 : (s == 0) = true := by simpa using hs
        by_cases hy : y = 0
        · have hyb : (y != 0) = false := by simpa using hy
          have HS2 : Hid (sgL ((rw_ C f i).take (j + 1)) = s) := Lib.hid (by rw [HSS.out, if_pos hs, hy, hs]; rfl)
          clear hs hy
          go_wp2_with (first | (go_at_call 175; refine (spec_GcdOf _ _ _ (by omega) (by omega)).mono ?_; rintro e w' ⟨rfl, nd, rfl⟩))
          go_roundw
          case rel => exact ⟨j + 1, by go_num, by rw [HST.out], by rw [HS2.out], by omega, by (repeat (first | (with_reducible exact hO) | (with_reducible refine BX.new _ _ _ _ _ _ _ _ (by first | omega | (simp; done) | (simp; omega))) | (with_reducible refine BX.below ?_ (by assumption) (by first | omega | (simp; done) | (simp; omega))) | (with_reducible apply BX.drew) | (with_reducible apply BX.drewN) | (with_reducible refine BX.put ?_) | (with_reducible refine BX.put2 ?_) | (with_reducible refine BX.far ?_ (by simp only [ne_eq]; omega) _) | (with_reducible apply BX.alloc) | (with_reducible refine B3.new _ _ _ _ _ _ (by first | omega | (simp; done) | (simp; omega))) | (with_reducible exact B3.of hO) | (with_reducible refine B3.below ?_ (by assumption) (by first | omega | (simp; done) | (simp; omega))) | (with_reducible apply B3.drew) | (with_reducible apply B3.drewN) | (with_reducible refine B3.far ?_ (by simp only [ne_eq]; omega) _) | (with_reducible apply B3.alloc))), by (repeat (first | (with_reducible exact hown) | (with_reducible refine OR.drew ?_) | (with_reducible refine OR.drewN ?_ _) | (with_reducible refine OR.alloc ?_ _) | (with_reducible refine OR.below ?_ (by assumption) (by first | omega | (simp; done) | (simp; omega))) | (with_reducible refine OR.low ?_ (by first | omega | (simp only []; omega) | (simp; omega)) _))), by (repeat (first | (with_reducible assumption) | (with_reducible exact World.grownBy.refl _ _) | (with_reducible refine only_alloc ?_ _) | (with_reducible refine only_drewN ?_ _) | (with_reducible refine only_drew ?_) | (with_reducible refine only_set ?_ _ _) | (with_reducible refine grown_far ?_ (by first | omega | (simp; done) | (simp; omega)) _) | (with_reducible refine only_trans ?_ (only_of_below (by assumption) _)) | (with_reducible refine only_trans ?_ (by assumption))))⟩
          case measure => simp only [intOf]; omega
        · have hyb : (y != 0) = true := by simpa using hy
          have HS2 : Hid (sgL ((rw_ C f i).take (j + 1)) = y.tdiv (y.natAbs : Nat)) := Lib.hid (by rw [HSS.out, if_pos hs, quo_abs hy])
          have hya : ¬ ((y.natAbs : Nat) : Int) = 0 := by omega
          clear hs
          go_wp2_with (first | (go_at_call 175; refine (spec_GcdOf _ _ _ (by omega) (by omega)).mono ?_; rintro e w' ⟨rfl, nd, rfl⟩) | (go_at_call 224; refine (spec_l1Abs _ _ (by omega) (by omega)).mono ?_; rintro e w' ⟨rfl, rfl⟩))
          go_roundw
          case rel => exact ⟨j + 1, by go_num, by rw [HST.out], by rw [HS2.out], by omega, by (repeat (first | (with_reducible exact hO) | (with_reducible refine BX.new _ _ _ _ _ _ _ _ (by first | omega | (simp; done) | (simp; omega))) | (with_reducible refine BX.below ?_ (by assumption) (by first | omega | (simp; done) | (simp; omega))) | (with_reducible apply BX.drew) | (with_reducible apply BX.drewN) | (with_reducible refine BX.put ?_) | (with_reducible refine BX.put2 ?_) | (with_reducible refine BX.far ?_ (by simp only [ne_eq]; omega) _) | (with_reducible apply BX.alloc) | (with_reducible refine B3.new _ _ _ _ _ _ (by first | omega | (simp; done) | (simp; omega))) | (with_reducible exact B3.of hO) | (with_reducible refine B3.below ?_ (by assumption) (by first | omega | (simp; done) | (simp; omega))) | (with_reducible apply B3.drew) | (with_reducible apply B3.drewN) | (with_reducible refine B3.far ?_ (by simp only [ne_eq]; omega) _) | (with_reducible apply B3.alloc))), by (repeat (first | (with_reducible exact hown) | (with_reducible refine OR.drew ?_) | (with_reducible refine OR.drewN ?_ _) | (with_reducible refine OR.alloc ?_ _) | (with_reducible refine OR.below ?_ (by assumption) (by first | omega | (simp; done) | (simp; omega))) | (with_reducible refine OR.low ?_ (by first | omega | (simp only []; omega) | (simp; omega)) _))), by (repeat (first | (with_reducible assumption) | (with_reducible exact World.grownBy.refl _ _) | (with_reducible refine only_alloc ?_ _) | (with_reducible refine only_drewN ?_ _) | (with_reducible refine only_drew ?_) | (with_reducible refine only_set ?_ _ _) | (with_reducible refine grown_far ?_ (by first | omega | (simp; done) | (simp; omega)) _) | (with_reducible refine only_trans ?_ (only_of_below (by assumption) _)) | (with_reducible refine only_trans ?_ (by assumption))))⟩
          case measure => simp only [intOf]; omega
      · have hsb1 : (s == 0) = false := by simpa using hs
        have HS2 : Hid (sgL ((rw_ C f i).take (j + 1)) = s) := Lib.hid (by rw [HSS.out, if_neg hs])
        clear hs
        go_wp2_with (first | (go_at_call 175; refine (spec_GcdOf _ _ _ (by omega) (by omega)).mono ?_; rintro e w' ⟨rfl, nd, rfl⟩))
        go_roundw
        case rel => exact ⟨j + 1, by go_num, by rw [HST.out], by rw [HS2.out], by omega, by (repeat (first | (with_reducible exact hO) | (with_reducible refine BX.new _ _ _ _ _ _ _ _ (by first | omega | (simp; done) | (simp; omega))) | (with_reducible refine BX.below ?_ (by assumption) (by first | omega | (simp; done) | (simp; omega))) | (with_reducible apply BX.drew) | (with_reducible apply BX.drewN) | (with_reducible refine BX.put ?_) | (with_reducible refine BX.put2 ?_) | (with_reducible refine BX.far ?_ (by simp only [ne_eq]; omega) _) | (with_reducible apply BX.alloc) | (with_reducible refine B3.new _ _ _ _ _ _ (by first | omega | (simp; done) | (simp; omega))) | (with_reducible exact B3.of hO) | (with_reducible refine B3.below ?_ (by assumption) (by first | omega | (simp; done) | (simp; omega))) | (with_reducible apply B3.drew) | (with_reducible apply B3.drewN) | (with_reducible refine B3.far ?_ (by simp only [ne_eq]; omega) _) | (with_reducible apply B3.alloc))), by (repeat (first | (with_reducible exact hown) | (with_reducible refine OR.drew ?_) | (with_reducible refine OR.drewN ?_ _) | (with_reducible refine OR.alloc ?_ _) | (with_reducible refine OR.below ?_ (by assumption) (by first | omega | (simp; done) | (simp; omega))) | (with_reducible refine OR.low ?_ (by first | omega | (simp only []; omega) | (simp; omega)) _))), by (repeat (first | (with_reducible assumption) | (with_reducible exact World.grownBy.refl _ _) | (with_reducible refine only_alloc ?_ _) | (with_reducible refine only_drewN ?_ _) | (with_reducible refine only_drew ?_) | (with_reducible refine only_set ?_ _ _) | (with_reducible refine grown_far ?_ (by first | omega | (simp; done) | (simp; omega)) _) | (with_reducible refine only_trans ?_ (only_of_below (by assumption) _)) | (with_reducible refine only_trans ?_ (by assumption))))⟩
        case measure => simp only [intOf]; omega
    · obtain rfl : C = j := by omega
      have htk : (rw_ C f i).take C = rw_ C f i := List.take_of_length_le (by rw [rw_len]; exact Nat.le_refl _)
      rw [htk] at hgb hsb ⊢
      clear htk
      by_cases hz : gcdL (rw_ C f i) = 0
      · have hfin := hown.as (prF_zero hz).symm
        have hzb : decide (0 < gcdL (rw_ C f i)) = false := by simp [hz]
        clear hz hown
        generalize gcdL (rw_ C f i) = G at *
        generalize sgL (rw_ C f i) = s at *
        go_wp2
        refine wp_loop_rounds 1 ?_
        rw [rounds_succ]
        go_wp2
        all_goals go_end0
        all_goals exact WW.mk rfl hfin hgr (Nat.le_of_lt ol)
      · have HPV : Hid (∀ k, k < C → (sgL (rw_ C f i) * f i k).tdiv (gcdL (rw_ C f i) : Nat) = (primL (rw_ C f i)).getD k 0) := Lib.hid (fun k hk => by
          have := sg_prim (l := rw_ C f i) (k := k) (by rw [rw_len]; exact hk) hz
          rw [rw_at hk] at this; exact this)
        have hzb : 0 < gcdL (rw_ C f i) := by omega
        clear hz
        generalize gcdL (rw_ C f i) = G at *
        generalize sgL (rw_ C f i) = s at *
        go_wp2
        obtain ⟨wo, rfl⟩ : ∃ wo : World, wo = wr := ⟨_, rfl⟩
        go_loopw [8] (fun v wr => ∃ j : Nat, v = .int .i64 j ∧ j ≤ C ∧ BM wr w.heap.size R C A n cap ∧ OR wr B (.slice A n cap) (tb R C (pmK C f i j)) ∧ w.grownBy wr (Value.slice A n cap).ownBlock) (fun v _ => C - (intOf v).toNat)
        case atStart => exact ⟨0, rfl, Nat.zero_le _, hO, by rw [pmK_zero]; exact hown, hgr⟩
        case round =>
          clear hO hown hgr oa ob oc of ol
          obtain ⟨j, rfl, hj, hO, hown, hgr⟩ := hrel
          obtain ⟨oa, ob, oc, of, ol⟩ := hO.mx
          by_cases hjC : j < C
          · obtain ⟨g, rfl, hg1, hg2⟩ := HG.out (Nat.mul_pos (by omega) (by omega))
            have hgb1 : ¬ g = w.heap.size := by omega
            have hgb2 : ¬ w.heap.size = g := by omega
            have hid := idx_nat hi hjC
            have hn2 : n ≤ R * C ∧ R * C ≤ n := by have := HN.out; omega
            have hid3 := HI.out
            have c1 := hown.cell (i * C + j) (by rw [tb_len]; exact hid)
            rw [tb_at hi hjC, pmK_at C f i j j (Nat.le_refl _)] at c1
            have f1 := hown.frozen (i * C + j)
            obtain ⟨y1, y2⟩ := HB.out j hjC
            have hpv := HPV.out j hjC
            generalize f i j = y at *
            have hsy : -400000000 ≤ s * y ∧ s * y ≤ 400000000 := by
              rcases (by omega : s = -1 ∨ s = 0 ∨ s = 1) with e | e | e <;> subst e <;> omega
            obtain ⟨hsy1, hsy2⟩ := hsy
            have hs4 := hown.set_ (i * C + j) ((s * y).tdiv (G : Nat))
            rw [tb_set hi hjC, hpv, pmK_step, ← hpv] at hs4
            have i1 : (i : Int) * (C : Int) = ((i * C : Nat) : Int) := by rw [Int.natCast_mul]
            have g1 : IntKind.i64.wrap ((i : Int) * (C : Int)) = (i : Int) * (C : Int) := IntWalk.i64_in _ (by omega)
            have g2 : IntKind.i64.wrap ((i : Int) * (C : Int) + (j : Int)) = (i : Int) * (C : Int) + (j : Int) := IntWalk.i64_in _ (by omega)
            have g3 : IntKind.i64.wrap (s * y) = s * y := IntWalk.i64_in _ (by omega)
            have g4 : 0 ≤ (i : Int) * (C : Int) + (j : Int) ∧ (i : Int) * (C : Int) + (j : Int) < (n : Int) := by omega
            have g5 : ((i : Int) * (C : Int) + (j : Int)).toNat = i * C + j := by omega
            have hG0 : ¬ ((G : Nat) : Int) = 0 := by omega
            have hG1 : ¬ G = 0 := by omega
            have hq := (quo_bd (s * y) (G : Int) 0 (by omega) (by omega)).1
            have g6 : IntKind.i64.wrap ((s * y).tdiv (G : Nat)) = (s * y).tdiv (G : Nat) := IntWalk.i64_in _ (by omega)
            rw [← g5] at c1 f1 hs4
            clear i1 g5 hq hpv hid
            go_wp2
            ((refine wp_region_held_drew (S := (fun w' => w'.cell? ⟨w.heap.size, 0, none⟩ = some (.int .i64 R) ∧ w'.cell? ⟨w.heap.size, 1, none⟩ = some (.int .i64 C) ∧ w'.cell? ⟨w.heap.size, 2, none⟩ = some (.slice (some ⟨g, 0, none⟩) n cap))) (by kernel_rfl) ?_ (fun hHeld => ?_)); ((focus ((try dsimp only); (go_keep)))); ((refine wpAnyH_take (i := 0) (v := ?_) (by (first | (simp only [List.getElem?_toArray, List.getElem?_cons_succ, List.getElem?_cons_zero]; done) | (simp only [List.getElem?_toArray, List.getElem?_cons_succ, List.getElem?_cons_zero]; rfl))) (by kernel_rfl) (by kernel_rfl) (by kernel_rfl) (by exact fun _ _ _ h => h) (Or.inl ⟨by rfl, ?_⟩) (by assumption) ?_; rotate_left; (focus (((intro w hSw; (try dsimp only at hSw); go_simp) <;> (try with_reducible rfl)); done)); (try simp only [Act.put, List.setIfInBounds_toArray, List.set_cons_zero, List.set_cons_succ]))); ((refine wpAnyH_take (i := 1) (v := ?_) (by (first | (simp only [List.getElem?_toArray, List.getElem?_cons_succ, List.getElem?_cons_zero]; done) | (simp only [List.getElem?_toArray, List.getElem?_cons_succ, List.getElem?_cons_zero]; rfl))) (by kernel_rfl) (by kernel_rfl) (by kernel_rfl) (by exact fun _ _ _ h => h) (Or.inl ⟨by rfl, ?_⟩) (by assumption) ?_; rotate_left; (focus (((intro w hSw; (try dsimp only at hSw); go_simp) <;> (try with_reducible rfl)); done)); (try simp only [Act.put, List.setIfInBounds_toArray, List.set_cons_zero, List.set_cons_succ]))); ((refine wpAnyH_take (i := 2) (v := ?_) (by (first | (simp only [List.getElem?_toArray, List.getElem?_cons_succ, List.getElem?_cons_zero]; done) | (simp only [List.getElem?_toArray, List.getElem?_cons_succ, List.getElem?_cons_zero]; rfl))) (by kernel_rfl) (by kernel_rfl) (by kernel_rfl) (by exact fun _ _ _ h => h) (Or.inl ⟨by rfl, ?_⟩) (by assumption) ?_; rotate_left; (focus (((intro w hSw; (try dsimp only at hSw); go_simp) <;> (try with_reducible rfl)); done)); (try simp only [Act.put, List.setIfInBounds_toArray, List.set_cons_zero, List.set_cons_succ]))); ((refine wpAnyH_take (i := 3) (v := ?_) (by (first | (simp only [List.getElem?_toArray, List.getElem?_cons_succ, List.getElem?_cons_zero]; done) | (simp only [List.getElem?_toArray, List.getElem?_cons_succ, List.getElem?_cons_zero]; rfl))) (by kernel_rfl) (by kernel_rfl) (by kernel_rfl) (by exact fun _ _ _ h => h) (Or.inl ⟨by rfl, ?_⟩) (by assumption) ?_; rotate_left; (focus (((intro w hSw; (try dsimp only at hSw); go_simp) <;> (try with_reducible rfl)); done)); (try simp only [Act.put, List.setIfInBounds_toArray, List.set_cons_zero, List.set_cons_succ]))); ((refine wpAnyH_take (i := 4) (v := ?_) (by (first | (simp only [List.getElem?_toArray, List.getElem?_cons_succ, List.getElem?_cons_zero]; done) | (simp only [List.getElem?_toArray, List.getElem?_cons_succ, List.getElem?_cons_zero]; rfl))) (by kernel_rfl) (by kernel_rfl) (by kernel_rfl) (by exact fun _ _ _ h => h) (Or.inl ⟨by rfl, ?_⟩) (by assumption) ?_; rotate_left; (focus (((intro w hSw; (try dsimp only at hSw); go_simp) <;> (try with_reducible rfl)); done)); (try simp only [Act.put, List.setIfInBounds_toArray, List.set_cons_zero, List.set_cons_succ]))); ((refine wpAnyH_take (i := 5) (v := ?_) (by (first | (simp only [List.getElem?_toArray, List.getElem?_cons_succ, List.getElem?_cons_zero]; done) | (simp only [List.getElem?_toArray, List.getElem?_cons_succ, List.getElem?_cons_zero]; rfl))) (by kernel_rfl) (by kernel_rfl) (by kernel_rfl) (by exact fun _ _ _ h => h) (Or.inl ⟨by rfl, ?_⟩) (by assumption) ?_; rotate_left; (focus (((intro w hSw; (try dsimp only at hSw); go_simp) <;> (try with_reducible rfl)); done)); (try simp only [Act.put, List.setIfInBounds_toArray, List.set_cons_zero, List.set_cons_succ]))); ((refine wpAnyH_take (i := 6) (v := ?_) (by (first | (simp only [List.getElem?_toArray, List.getElem?_cons_succ, List.getElem?_cons_zero]; done) | (simp only [List.getElem?_toArray, List.getElem?_cons_succ, List.getElem?_cons_zero]; rfl))) (by kernel_rfl) (by kernel_rfl) (by kernel_rfl) (by exact fun _ _ _ h => h) (Or.inl ⟨by rfl, ?_⟩) (by assumption) ?_; rotate_left; (focus (((intro w hSw; (try dsimp only at hSw); go_simp) <;> (try with_reducible rfl)); done)); (try simp only [Act.put, List.setIfInBounds_toArray, List.set_cons_zero, List.set_cons_succ]))); ((refine wpAnyH_take (i := 7) (v := ?_) (by (first | (simp only [List.getElem?_toArray, List.getElem?_cons_succ, List.getElem?_cons_zero]; done) | (simp only [List.getElem?_toArray, List.getElem?_cons_succ, List.getElem?_cons_zero]; rfl))) (by kernel_rfl) (by kernel_rfl) (by kernel_rfl) (by exact fun _ _ _ h => h) (Or.inl ⟨by rfl, ?_⟩) (by assumption) ?_; rotate_left; (focus (((intro w hSw; (try dsimp only at hSw); go_simp) <;> (try with_reducible rfl)); done)); (try simp only [Act.put, List.setIfInBounds_toArray, List.set_cons_zero, List.set_cons_succ]))); ((refine wpAnyH_take (i := 8) (v := ?_) (by (first | (simp only [List.getElem?_toArray, List.getElem?_cons_succ, List.getElem?_cons_zero]; done) | (simp only [List.getElem?_toArray, List.getElem?_cons_succ, List.getElem?_cons_zero]; rfl))) (by kernel_rfl) (by kernel_rfl) (by kernel_rfl) (by exact fun _ _ _ h => h) (Or.inl ⟨by rfl, ?_⟩) (by assumption) ?_; rotate_left; (focus (((intro w hSw; (try dsimp only at hSw); go_simp) <;> (try with_reducible rfl)); done)); (try simp only [Act.put, List.setIfInBounds_toArray, List.set_cons_zero, List.set_cons_succ]))); ((refine wpAnyH_take (i := 9) (v := ?_) (by (first | (simp only [List.getElem?_toArray, List.getElem?_cons_succ, List.getElem?_cons_zero]; done) | (simp only [List.getElem?_toArray, List.getElem?_cons_succ, List.getElem?_cons_zero]; rfl))) (by kernel_rfl) (by kernel_rfl) (by kernel_rfl) (by exact fun _ _ _ h => h) (Or.inl ⟨by rfl, ?_⟩) (by assumption) ?_; rotate_left; (focus (((intro w hSw; (try dsimp only at hSw); go_simp) <;> (try with_reducible rfl)); done)); (try simp only [Act.put, List.setIfInBounds_toArray, List.set_cons_zero, List.set_cons_succ]))); ((refine wpAnyH_take (i := 10) (v := ?_) (by (first | (simp only [List.getElem?_toArray, List.getElem?_cons_succ, List.getElem?_cons_zero]; done) | (simp only [List.getElem?_toArray, List.getElem?_cons_succ, List.getElem?_cons_zero]; rfl))) (by kernel_rfl) (by kernel_rfl) (by kernel_rfl) (by exact fun _ _ _ h => h) (Or.inl ⟨by rfl, ?_⟩) (by assumption) ?_; rotate_left; (focus (((intro w hSw; (try dsimp only at hSw); go_simp) <;> (try with_reducible rfl)); done)); (try simp only [Act.put, List.setIfInBounds_toArray, List.set_cons_zero, List.set_cons_succ]))); ((refine wpAnyH_take (i := 11) (v := ?_) (by (first | (simp only [List.getElem?_toArray, List.getElem?_cons_succ, List.getElem?_cons_zero]; done) | (simp only [List.getElem?_toArray, List.getElem?_cons_succ, List.getElem?_cons_zero]; rfl))) (by kernel_rfl) (by kernel_rfl) (by kernel_rfl) (by exact fun _ _ _ h => h) (Or.inl ⟨by rfl, ?_⟩) (by assumption) ?_; rotate_left; (focus (((intro w hSw; (try dsimp only at hSw); go_simp) <;> (try with_reducible rfl)); done)); (try simp only [Act.put, List.setIfInBounds_toArray, List.set_cons_zero, List.set_cons_succ]))); ((refine wpAnyH_take (i := 12) (v := ?_) (by (first | (simp only [List.getElem?_toArray, List.getElem?_cons_succ, List.getElem?_cons_zero]; done) | (simp only [List.getElem?_toArray, List.getElem?_cons_succ, List.getElem?_cons_zero]; rfl))) (by kernel_rfl) (by kernel_rfl) (by kernel_rfl) (by exact fun _ _ _ h => h) (Or.inl ⟨by rfl, ?_⟩) (by assumption) ?_; rotate_left; (focus (((intro w hSw; (try dsimp only at hSw); go_simp) <;> (try with_reducible rfl)); done)); (try simp only [Act.put, List.setIfInBounds_toArray, List.set_cons_zero, List.set_cons_succ]))); ((refine wpAnyH_take (i := 13) (v := ?_) (by (first | (simp only [List.getElem?_toArray, List.getElem?_cons_succ, List.getElem?_cons_zero]; done) | (simp only [List.getElem?_toArray, List.getElem?_cons_succ, List.getElem?_cons_zero]; rfl))) (by kernel_rfl) (by kernel_rfl) (by kernel_rfl) (by exact fun _ _ _ h => h) (Or.inl ⟨by rfl, ?_⟩) (by assumption) ?_; rotate_left; (focus (((intro w hSw; (try dsimp only at hSw); go_simp) <;> (try with_reducible rfl)); done)); (try simp only [Act.put, List.setIfInBounds_toArray, List.set_cons_zero, List.set_cons_succ]))); ((refine wpAnyH_take (i := 14) (v := ?_) (by (first | (simp only [List.getElem?_toArray, List.getElem?_cons_succ, List.getElem?_cons_zero]; done) | (simp only [List.getElem?_toArray, List.getElem?_cons_succ, List.getElem?_cons_zero]; rfl))) (by kernel_rfl) (by kernel_rfl) (by kernel_rfl) (by exact fun _ _ _ h => h) (Or.inl ⟨by rfl, ?_⟩) (by assumption) ?_; rotate_left; (focus (((intro w hSw; (try dsimp only at hSw); go_simp) <;> (try with_reducible rfl)); done)); (try simp only [Act.put, List.setIfInBounds_toArray, List.set_cons_zero, List.set_cons_succ]))); ((refine wpAnyH_take (i := 15) (v := ?_) (by (first | (simp only [List.getElem?_toArray, List.getElem?_cons_succ, List.getElem?_cons_zero]; done) | (simp only [List.getElem?_toArray, List.getElem?_cons_succ, List.getElem?_cons_zero]; rfl))) (by kernel_rfl) (by kernel_rfl) (by kernel_rfl) (by exact fun _ _ _ h => h) (Or.inl ⟨by rfl, ?_⟩) (by assumption) ?_; rotate_left; (focus (((intro w hSw; (try dsimp only at hSw); go_simp) <;> (try with_reducible rfl)); done)); (try simp only [Act.put, List.setIfInBounds_toArray, List.set_cons_zero, List.set_cons_succ]))); ((refine wpAnyH_take (i := 16) (v := ?_) (by (first | (simp only [List.getElem?_toArray, List.getElem?_cons_succ, List.getElem?_cons_zero]; done) | (simp only [List.getElem?_toArray, List.getElem?_cons_succ, List.getElem?_cons_zero]; rfl))) (by kernel_rfl) (by kernel_rfl) (by kernel_rfl) (by exact fun _ _ _ h => h) (Or.inl ⟨by rfl, ?_⟩) (by assumption) ?_; rotate_left; (focus (((intro w hSw; (try dsimp only at hSw); go_simp) <;> (try with_reducible rfl)); done)); (try simp only [Act.put, List.setIfInBounds_toArray, List.set_cons_zero, List.set_cons_succ]))); ((refine wpAnyH_take (i := 17) (v := ?_) (by (first | (simp only [List.getElem?_toArray, List.getElem?_cons_succ, List.getElem?_cons_zero]; done) | (simp only [List.getElem?_toArray, List.getElem?_cons_succ, List.getElem?_cons_zero]; rfl))) (by kernel_rfl) (by kernel_rfl) (by kernel_rfl) (by exact fun _ _ _ h => h) (Or.inl ⟨by rfl, ?_⟩) (by assumption) ?_; rotate_left; (focus (((intro w hSw; (try dsimp only at hSw); go_simp) <;> (try with_reducible rfl)); done)); (try simp only [Act.put, List.setIfInBounds_toArray, List.set_cons_zero, List.set_cons_succ]))); ((refine wpAnyH_take (i := 20) (v := ?_) (by (first | (simp only [List.getElem?_toArray, List.getElem?_cons_succ, List.getElem?_cons_zero]; done) | (simp only [List.getElem?_toArray, List.getElem?_cons_succ, List.getElem?_cons_zero]; rfl))) (by kernel_rfl) (by kernel_rfl) (by kernel_rfl) (by exact fun _ _ _ h => h) (Or.inl ⟨by rfl, ?_⟩) (by assumption) ?_; rotate_left; (focus (((intro w hSw; (try dsimp only at hSw); go_simp) <;> (try with_reducible rfl)); done)); (try simp only [Act.put, List.setIfInBounds_toArray, List.set_cons_zero, List.set_cons_succ]))); ((refine wpAnyH_ready (rs := [18]) (by kernel_rfl) (by simp) ?_; refine AllReadyH.cons (by (first | (simp only [List.getElem?_toArray, List.getElem?_cons_succ, List.getElem?_cons_zero]; done) | (simp only [List.getElem?_toArray, List.getElem?_cons_succ, List.getElem?_cons_zero]; rfl))) (fun K hK => ?_) AllReadyH.nil; go_simp; (try go_wp2_with fail); refine hK.out _ _ ?_ (fun hHeld => ?_); (focus ((try dsimp only); (go_keep))); clear hK K; (try simp only [Act.put, List.setIfInBounds_toArray, List.set_cons_zero, List.set_cons_succ]))); ((refine wpAnyH_take (i := 19) (v := ?_) (by (first | (simp only [List.getElem?_toArray, List.getElem?_cons_succ, List.getElem?_cons_zero]; done) | (simp only [List.getElem?_toArray, List.getElem?_cons_succ, List.getElem?_cons_zero]; rfl))) (by kernel_rfl) (by kernel_rfl) (by kernel_rfl) (by exact fun _ _ _ h => h) (Or.inl ⟨by rfl, ?_⟩) (by assumption) ?_; rotate_left; (focus (((intro w hSw; (try dsimp only at hSw); go_simp) <;> (try with_reducible rfl)); done)); (try simp only [Act.put, List.setIfInBounds_toArray, List.set_cons_zero, List.set_cons_succ]))); ((refine wpAnyH_take (i := 21) (v := ?_) (by (first | (simp only [List.getElem?_toArray, List.getElem?_cons_succ, List.getElem?_cons_zero]; done) | (simp only [List.getElem?_toArray, List.getElem?_cons_succ, List.getElem?_cons_zero]; rfl))) (by kernel_rfl) (by kernel_rfl) (by kernel_rfl) (by exact fun _ _ _ h => h) (Or.inl ⟨by rfl, ?_⟩) (by assumption) ?_; rotate_left; (focus (((intro w hSw; (try dsimp only at hSw); go_simp) <;> (try with_reducible rfl)); done)); (try simp only [Act.put, List.setIfInBounds_toArray, List.set_cons_zero, List.set_cons_succ]))); ((refine wpAnyH_take (i := 22) (v := ?_) (by (first | (simp only [List.getElem?_toArray, List.getElem?_cons_succ, List.getElem?_cons_zero]; done) | (simp only [List.getElem?_toArray, List.getElem?_cons_succ, List.getElem?_cons_zero]; rfl))) (by kernel_rfl) (by kernel_rfl) (by kernel_rfl) (by exact fun _ _ _ h => h) (Or.inl ⟨by rfl, ?_⟩) (by assumption) ?_; rotate_left; (focus (((intro w hSw; (try dsimp only at hSw); go_simp) <;> (try with_reducible rfl)); done)); (try simp only [Act.put, List.setIfInBounds_toArray, List.set_cons_zero, List.set_cons_succ]))); ((refine wpAnyH_ready (rs := [23]) (by kernel_rfl) (by simp) ?_; refine AllReadyH.cons (by (first | (simp only [List.getElem?_toArray, List.getElem?_cons_succ, List.getElem?_cons_zero]; done) | (simp only [List.getElem?_toArray, List.getElem?_cons_succ, List.getElem?_cons_zero]; rfl))) (fun K hK => ?_) AllReadyH.nil; go_simp; (try go_wp2_with fail); refine hK.out _ _ ?_ (fun hHeld => ?_); (focus ((try dsimp only); (go_keep))); clear hK K; (try simp only [Act.put, List.setIfInBounds_toArray, List.set_cons_zero, List.set_cons_succ]))); (refine wpAnyH_done (by kernel_rfl) ?_ _))
            clear g1 g2 g3 g6
            go_wp2
            go_roundw
            case rel => exact ⟨j + 1, by go_num, by omega, by (repeat (first | (with_reducible exact hO) | (with_reducible refine BX.new _ _ _ _ _ _ _ _ (by first | omega | (simp; done) | (simp; omega))) | (with_reducible refine BX.below ?_ (by assumption) (by first | omega | (simp; done) | (simp; omega))) | (with_reducible apply BX.drew) | (with_reducible apply BX.drewN) | (with_reducible refine BX.put ?_) | (with_reducible refine BX.put2 ?_) | (with_reducible refine BX.far ?_ (by simp only [ne_eq]; omega) _) | (with_reducible apply BX.alloc) | (with_reducible refine B3.new _ _ _ _ _ _ (by first | omega | (simp; done) | (simp; omega))) | (with_reducible exact B3.of hO) | (with_reducible refine B3.below ?_ (by assumption) (by first | omega | (simp; done) | (simp; omega))) | (with_reducible apply B3.drew) | (with_reducible apply B3.drewN) | (with_reducible refine B3.far ?_ (by simp only [ne_eq]; omega) _) | (with_reducible apply B3.alloc))), OR.drew hs4, by exact only_drew (only_set (g := g) hgr _ _)⟩
            case measure => simp only [intOf]; omega
          · obtain rfl : C = j := by omega
            have hfin := hown.as (pmK_end f i)
            clear hown
            go_wp2
            go_end0
            exact WW.mk rfl hfin hgr (Nat.le_of_lt ol)
end Go.Proofs.Ytacjonkehcamgaa

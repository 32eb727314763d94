/-
  DERIVED. l5Do for sums and signs; rowOp for signs.
-/
import Derived.Test.YtlggfmfelakadaaOpsx
namespace Go.Proofs.Ytlggfmfelakadaa
open Go.RowKit
set_option linter.unusedVariables false
set_option linter.unusedSimpArgs false
/-- The first k columns of row i as in F. -/
def roK (f F : Fn2) (i k : Nat) : Fn2 := fun x y => if x = i ∧ y < k then F i y else f x y
theorem roK_zero (f F : Fn2) (i : Nat) : roK f F i 0 = f := by funext x y; simp [roK]
theorem roK_step (f F : Fn2) (i k : Nat) : upd (roK f F i k) i k (F i k) = roK f F i (k + 1) := by
  funext x y
  unfold upd roK
  by_cases h : x = i ∧ y = k
  · rw [if_pos h, if_pos ⟨h.1, by omega⟩, h.2]
  · rw [if_neg h]
    by_cases h2 : x = i ∧ y < k
    · rw [if_pos h2, if_pos ⟨h2.1, by omega⟩]
    · rw [if_neg h2, if_neg]
      rintro ⟨h3, h4⟩
      exact h2 ⟨h3, by have : y ≠ k := fun e => h ⟨h3, e⟩; omega⟩
theorem roK_at (f F : Fn2) (i k : Nat) : roK f F i k i k = f i k := by simp [roK]
theorem roK_atj {f F : Fn2} {i j : Nat} (h : i ≠ j) (k : Nat) : roK f F i k j k = f j k := by simp [roK, Ne.symm h]
theorem roK_end {f F : Fn2} {R C i : Nat} (h : ∀ x y, x ≠ i → F x y = f x y) : tb R C (roK f F i C) = tb R C F :=
  tb_ext fun x y hx hy => by
    unfold roK
    by_cases h2 : x = i
    · subst h2; rw [if_pos ⟨rfl, hy⟩]
    · rw [if_neg (fun h3 => h2 h3.1), h x y h2]
theorem NB.one : NB (-1) := .inr (by omega)
theorem opN_other {f : Fn2} {i x y : Nat} (h : x ≠ i) : opN f i x y = f x y := by unfold opN; rw [if_neg h]
set_option maxRecDepth 100000 in
set_option maxHeartbeats 4000000 in
theorem spec_l5Do_add (R C p t : Nat) (ti : Int) (A : Option Addr) (n cap : Nat) (f : Nat → Nat → Int) (w : World) {B : Nat} (h : OR w B (.slice A n cap) (tb R C f)) (hp : p < R) (ht : t < R) (hpt : p ≠ t) (hm : Num ti) (hf : NBF f) (hC0 : 0 < C) (hC : C ≤ 24) (hR : R ≤ 24) :
    Calls Try.prog 128 #[.agg #[.int .i64 R, .int .i64 C, .slice A n cap], .agg #[.int .i64 2, .int .i64 p, .int .i64 t, .int .i64 ti]] w (WW (.tuple #[]) (.slice A n cap) B (tb R C (opA f p t ti)) w) := by
  have hn := h.lenEq
  rw [tb_len] at hn
  have hcaps := h.caps
  have hP := idx_nat hp (show C - 1 < C by omega)
  have hT := idx_nat ht (show C - 1 < C by omega)
  obtain ⟨g, rfl, hg1, hg2⟩ := h.begins (by rw [tb_len]; omega)
  have hP2 : p * C + C ≤ n := by omega
  have hT2 : t * C + C ≤ n := by omega
  have HN := Lib.hid hn
  have HPT := Lib.hid hpt
  have HF := Lib.hid hf
  have HM := Lib.hid hm
  have hm : R * C ≤ 24 * 24 := Nat.mul_le_mul hR hC
  have p1 : (p : Int) * (C : Int) = ((p * C : Nat) : Int) := by rw [Int.natCast_mul]
  have t1 : (t : Int) * (C : Int) = ((t * C : Nat) : Int) := by rw [Int.natCast_mul]
  have P1 := Lib.hid p1
  have T1 := Lib.hid t1
  have b1 : 0 ≤ (p : Int) * (C : Int) ∧ (p : Int) * (C : Int) + C ≤ n ∧ (p : Int) * (C : Int) ≤ 10000 := by omega
  have b2 : 0 ≤ (t : Int) * (C : Int) ∧ (t : Int) * (C : Int) + C ≤ n ∧ (t : Int) * (C : Int) ≤ 10000 := by omega
  obtain ⟨b1a, b1b, b1c⟩ := b1
  obtain ⟨b2a, b2b, b2c⟩ := b2
  clear hn hpt hP hT p1 t1 hf hm
  go_enter Try.func128, Try.ntmps128
  go_wp2_with fail
  go_loopw [4] (fun u wr => ∃ k : Nat, u = .int .i64 k ∧ k ≤ C ∧ OR wr B (.slice (some ⟨g, 0, none⟩) n cap) (tb R C (roK f (opA f p t ti) p k)) ∧ BM wr w.heap.size R C (some ⟨g, 0, none⟩) n cap ∧ Blk wr (w.heap.size + 1) 38 #[.int .i64 2, .int .i64 p, .int .i64 t, .int .i64 ti] ∧ w.grownBy wr (some g) ∧ w.heap.size ≤ wr.heap.size) (fun v _ => C - (intOf v).toNat)
  case atStart => exact ⟨0, rfl, Nat.zero_le _, by rw [roK_zero]; (with_reducible (repeat (first | exact h | refine OR.drew ?_ | refine OR.drewN ?_ _ | refine OR.alloc ?_ _ | refine OR.b_ ?_ | refine OR.l_ ?_))), Ka, by (with_reducible (repeat (first | assumption | refine Blk.new_at _ _ _ _ Ks | refine Blk.below ?_ (by assumption) Ks | apply Blk.drew | apply Blk.drewN | refine Blk.far ?_ (by simp only [ne_eq]; omega) _ | apply Blk.alloc))), by (with_reducible (repeat (first | assumption | exact World.grownBy.refl _ _ | refine only_alloc ?_ _ | refine only_drewN ?_ _ | refine only_drew ?_ | refine only_set ?_ _ _ | refine grown_far ?_ Ks _ | refine only_trans ?_ (only_of_below (by assumption) _) | refine only_trans ?_ (by assumption)))), by simp; omega⟩
  case round =>
    clear h
    obtain ⟨k, rfl, hk, hown, hM, hO, hgr, hsz⟩ := hrel
    obtain ⟨oa, ob, oc, of, ol⟩ := hM.mx
    have x0 := hO.cell 0
    have x1 := hO.cell 1
    have x2 := hO.cell 2
    have x3 := hO.cell 3
    have hl := hO.lt
    simp at x0 x1 x2 x3
    by_cases hkC : k < C
    · have c1 := hown.cell (p * C + k) (by rw [tb_len]; exact idx_nat hp hkC)
      have c2 := hown.cell (t * C + k) (by rw [tb_len]; exact idx_nat ht hkC)
      rw [tb_at hp hkC] at c1
      rw [tb_at ht hkC] at c2
      rw [roK_at] at c1
      rw [roK_atj HPT.out] at c2
      have f1 := hown.frozen (p * C + k)
      have hs1 := hown.set_ (p * C + k) (opA f p t ti p k)
      rw [tb_set hp hkC, roK_step] at hs1
      have HX := Lib.hid (HF.out p k)
      have HY := Lib.hid (HF.out t k)
      have HE : Hid (opA f p t ti p k = addB (f p k) (mulF (f t k) ti)) := Lib.hid (by unfold opA; rw [if_pos rfl])
      have hne2 : ¬ g = w.heap.size + 1 := by omega
      generalize opA f p t ti p k = v at *
      generalize f t k = y at *
      generalize f p k = x at *
      go_wp2
      have i1 := P1.out
      have hpk : p * C + k < n := by omega
      have g1 : IntKind.i64.wrap ((p : Int) * (C : Int)) = (p : Int) * (C : Int) := IntWalk.i64_in _ (by omega)
      have g2 : IntKind.i64.wrap ((p : Int) * (C : Int) + (k : Int)) = (p : Int) * (C : Int) + (k : Int) := IntWalk.i64_in _ (by omega)
      have g6 : 0 ≤ (p : Int) * (C : Int) + (k : Int) ∧ (p : Int) * (C : Int) + (k : Int) < (n : Int) := by omega
      have e5 : ((p : Int) * (C : Int) + (k : Int)).toNat = p * C + k := by omega
      rw [← e5] at c1 f1 hs1
      clear i1 e5
      have hne3 : ¬ g = w.heap.size := by omega
      have hne4 : ¬ w.heap.size = g := by omega
      have hne5 : ¬ w.heap.size + 1 = g := by omega
      ((refine wp_region_held_drew (S := (fun w' => w'.cell? ⟨w.heap.size, 1, none⟩ = some (.int .i64 C) ∧ w'.cell? ⟨w.heap.size, 2, none⟩ = some (.slice (some ⟨g, 0, none⟩) n cap) ∧ w'.cell? ⟨w.heap.size + 1, 1, none⟩ = some (.int .i64 p) ∧ w'.cell? ⟨w.heap.size + 1, 3, none⟩ = some (.int .i64 ti))) (by kernel_rfl) ?_ (fun hHeld => ?_)); ((focus ((try dsimp only); (go_keep)))); ((refine tk_ (i := 0) (v := ?_) (y := Or.inl ⟨by rfl, ?_⟩) (h := ?_); rotate_left; (focus (((intro w hSw; (try dsimp only at hSw); go_simp) <;> (try with_reducible rfl)); done)); (try simp only [Act.put, p1_, p2_, p3_]))); ((refine tk_ (i := 1) (v := ?_) (y := Or.inl ⟨by rfl, ?_⟩) (h := ?_); rotate_left; (focus (((intro w hSw; (try dsimp only at hSw); go_simp) <;> (try with_reducible rfl)); done)); (try simp only [Act.put, p1_, p2_, p3_]))); ((refine tk_ (i := 2) (v := ?_) (y := Or.inl ⟨by rfl, ?_⟩) (h := ?_); rotate_left; (focus (((intro w hSw; (try dsimp only at hSw); go_simp) <;> (try with_reducible rfl)); done)); (try simp only [Act.put, p1_, p2_, p3_]))); ((refine tk_ (i := 3) (v := ?_) (y := Or.inl ⟨by rfl, ?_⟩) (h := ?_); rotate_left; (focus (((intro w hSw; (try dsimp only at hSw); go_simp) <;> (try with_reducible rfl)); done)); (try simp only [Act.put, p1_, p2_, p3_]))); ((refine tk_ (i := 4) (v := ?_) (y := Or.inl ⟨by rfl, ?_⟩) (h := ?_); rotate_left; (focus (((intro w hSw; (try dsimp only at hSw); go_simp) <;> (try with_reducible rfl)); done)); (try simp only [Act.put, p1_, p2_, p3_]))); ((refine tk_ (i := 5) (v := ?_) (y := Or.inl ⟨by rfl, ?_⟩) (h := ?_); rotate_left; (focus (((intro w hSw; (try dsimp only at hSw); go_simp) <;> (try with_reducible rfl)); done)); (try simp only [Act.put, p1_, p2_, p3_]))); ((refine tk_ (i := 6) (v := ?_) (y := Or.inl ⟨by rfl, ?_⟩) (h := ?_); rotate_left; (focus (((intro w hSw; (try dsimp only at hSw); go_simp) <;> (try with_reducible rfl)); done)); (try simp only [Act.put, p1_, p2_, p3_]))); ((refine tk_ (i := 7) (v := ?_) (y := Or.inl ⟨by rfl, ?_⟩) (h := ?_); rotate_left; (focus (((intro w hSw; (try dsimp only at hSw); go_simp) <;> (try with_reducible rfl)); done)); (try simp only [Act.put, p1_, p2_, p3_]))); ((refine tk_ (i := 8) (v := ?_) (y := Or.inl ⟨by rfl, ?_⟩) (h := ?_); rotate_left; (focus (((intro w hSw; (try dsimp only at hSw); go_simp) <;> (try with_reducible rfl)); done)); (try simp only [Act.put, p1_, p2_, p3_]))); ((refine tk_ (i := 9) (v := ?_) (y := Or.inl ⟨by rfl, ?_⟩) (h := ?_); rotate_left; (focus (((intro w hSw; (try dsimp only at hSw); go_simp) <;> (try with_reducible rfl)); done)); (try simp only [Act.put, p1_, p2_, p3_]))); ((refine tk_ (i := 10) (v := ?_) (y := Or.inl ⟨by rfl, ?_⟩) (h := ?_); rotate_left; (focus (((intro w hSw; (try dsimp only at hSw); go_simp) <;> (try with_reducible rfl)); done)); (try simp only [Act.put, p1_, p2_, p3_]))); ((refine tk_ (i := 11) (v := ?_) (y := Or.inl ⟨by rfl, ?_⟩) (h := ?_); rotate_left; (focus (((intro w hSw; (try dsimp only at hSw); go_simp) <;> (try with_reducible rfl)); done)); (try simp only [Act.put, p1_, p2_, p3_]))); ((refine tk_ (i := 12) (v := ?_) (y := Or.inl ⟨by rfl, ?_⟩) (h := ?_); rotate_left; (focus (((intro w hSw; (try dsimp only at hSw); go_simp) <;> (try with_reducible rfl)); done)); (try simp only [Act.put, p1_, p2_, p3_]))); ((refine wpAnyH_ready (rs := [13]) (by kernel_rfl) (by simp) ?_; refine AllReadyH.cons (by simp only [e1_, e2_, e3_]; try rfl) (fun K hK => ?_) AllReadyH.nil; go_simp; (go_at_call 133; refine (spec_l1Mul y ti _ HY.out HM.out.nb).mono ?_; rintro e w' ⟨rfl, rfl⟩); (try go_wp2_with fail); refine hK.out _ _ ?_ (fun hHeld => ?_); (focus ((try dsimp only); (go_keep))); clear hK K; (try simp only [Act.put, p1_, p2_, p3_]))); ((refine wpAnyH_ready (rs := [14]) (by kernel_rfl) (by simp) ?_; refine AllReadyH.cons (by simp only [e1_, e2_, e3_]; try rfl) (fun K hK => ?_) AllReadyH.nil; go_simp; (go_at_call 134; refine (spec_l1Add x _ _ HX.out (NB.mulF y ti)).mono ?_; rw [← HE.out]; rintro e w' ⟨rfl, rfl⟩); (try go_wp2_with fail); refine hK.out _ _ ?_ (fun hHeld => ?_); (focus ((try dsimp only); (go_keep))); clear hK K; (try simp only [Act.put, p1_, p2_, p3_]))); ((refine tk_ (i := 15) (v := ?_) (y := Or.inl ⟨by rfl, ?_⟩) (h := ?_); rotate_left; (focus (((intro w hSw; (try dsimp only at hSw); go_simp) <;> (try with_reducible rfl)); done)); (try simp only [Act.put, p1_, p2_, p3_]))); ((refine wpAnyH_ready (rs := [16]) (by kernel_rfl) (by simp) ?_; refine AllReadyH.cons (by simp only [e1_, e2_, e3_]; try rfl) (fun K hK => ?_) AllReadyH.nil; go_simp; (try go_wp2_with fail); refine hK.out _ _ ?_ (fun hHeld => ?_); (focus ((try dsimp only); (go_keep))); clear hK K; (try simp only [Act.put, p1_, p2_, p3_]))); (refine wpAnyH_done (by kernel_rfl) ?_ _))
      go_wp2
      go_roundw
      case rel => exact ⟨k + 1, by go_num, by omega, hs1, Kb hM, by (with_reducible (repeat (first | exact hO | refine Blk.new_at _ _ _ _ Ks | refine Blk.below ?_ (by assumption) Ks | apply Blk.drew | apply Blk.drewN | refine Blk.far ?_ (by simp only [ne_eq]; omega) _ | apply Blk.alloc))), by (with_reducible (repeat (first | assumption | exact World.grownBy.refl _ _ | refine only_alloc ?_ _ | refine only_drewN ?_ _ | refine only_drew ?_ | refine only_set ?_ _ _ | refine grown_far ?_ Ks _ | refine only_trans ?_ (only_of_below (by assumption) _) | refine only_trans ?_ (by assumption)))), by simpa [World.setCell] using hsz⟩
      case measure => simp only [intOf]; omega
    · have hfin := hown.as (show _ = tb R C (opA f p t ti) by rw [show k = C by omega]; exact roK_end (fun x y hx => opA_other hx))
      clear hown
      go_wp2
      go_end0
      exact WW.mk rfl hfin hgr hsz
set_option maxRecDepth 100000 in
set_option maxHeartbeats 4000000 in
theorem spec_l5Do_neg (R C p : Nat) (ti : Int) (A : Option Addr) (n cap : Nat) (f : Nat → Nat → Int) (w : World) {B : Nat} (h : OR w B (.slice A n cap) (tb R C f)) (hp : p < R) (hf : ∀ k, k < C → Num (f p k)) (hC0 : 0 < C) (hC : C ≤ 24) (hR : R ≤ 24) :
    Calls Try.prog 128 #[.agg #[.int .i64 R, .int .i64 C, .slice A n cap], .agg #[.int .i64 1, .int .i64 p, .int .i64 p, .int .i64 ti]] w (WW (.tuple #[]) (.slice A n cap) B (tb R C (opN f p)) w) := by
  have hn := h.lenEq
  rw [tb_len] at hn
  have hcaps := h.caps
  have hP := idx_nat hp (show C - 1 < C by omega)
  obtain ⟨g, rfl, hg1, hg2⟩ := h.begins (by rw [tb_len]; omega)
  have hP2 : p * C + C ≤ n := by omega
  have HN := Lib.hid hn
  have HF := Lib.hid hf
  have hm : R * C ≤ 24 * 24 := Nat.mul_le_mul hR hC
  have p1 : (p : Int) * (C : Int) = ((p * C : Nat) : Int) := by rw [Int.natCast_mul]
  have P1 := Lib.hid p1
  have b1 : 0 ≤ (p : Int) * (C : Int) ∧ (p : Int) * (C : Int) + C ≤ n ∧ (p : Int) * (C : Int) ≤ 10000 := by omega
  obtain ⟨b1a, b1b, b1c⟩ := b1
  clear hn hP p1 hf
  go_enter Try.func128, Try.ntmps128
  go_wp2_with fail
  go_loopw [4] (fun u wr => ∃ k : Nat, u = .int .i64 k ∧ k ≤ C ∧ OR wr B (.slice (some ⟨g, 0, none⟩) n cap) (tb R C (roK f (opN f p) p k)) ∧ BM wr w.heap.size R C (some ⟨g, 0, none⟩) n cap ∧ Blk wr (w.heap.size + 1) 38 #[.int .i64 1, .int .i64 p, .int .i64 p, .int .i64 ti] ∧ w.grownBy wr (some g) ∧ w.heap.size ≤ wr.heap.size) (fun v _ => C - (intOf v).toNat)
  case atStart => exact ⟨0, rfl, Nat.zero_le _, by rw [roK_zero]; (with_reducible (repeat (first | exact h | refine OR.drew ?_ | refine OR.drewN ?_ _ | refine OR.alloc ?_ _ | refine OR.b_ ?_ | refine OR.l_ ?_))), Ka, by (with_reducible (repeat (first | assumption | refine Blk.new_at _ _ _ _ Ks | refine Blk.below ?_ (by assumption) Ks | apply Blk.drew | apply Blk.drewN | refine Blk.far ?_ (by simp only [ne_eq]; omega) _ | apply Blk.alloc))), by (with_reducible (repeat (first | assumption | exact World.grownBy.refl _ _ | refine only_alloc ?_ _ | refine only_drewN ?_ _ | refine only_drew ?_ | refine only_set ?_ _ _ | refine grown_far ?_ Ks _ | refine only_trans ?_ (only_of_below (by assumption) _) | refine only_trans ?_ (by assumption)))), by simp; omega⟩
  case round =>
    clear h
    obtain ⟨k, rfl, hk, hown, hM, hO, hgr, hsz⟩ := hrel
    obtain ⟨oa, ob, oc, of, ol⟩ := hM.mx
    have x0 := hO.cell 0
    have x1 := hO.cell 1
    have x2 := hO.cell 2
    have x3 := hO.cell 3
    have hl := hO.lt
    simp at x0 x1 x2 x3
    by_cases hkC : k < C
    · have c1 := hown.cell (p * C + k) (by rw [tb_len]; exact idx_nat hp hkC)
      rw [tb_at hp hkC] at c1
      rw [roK_at] at c1
      have f1 := hown.frozen (p * C + k)
      have hs1 := hown.set_ (p * C + k) (opN f p p k)
      rw [tb_set hp hkC, roK_step] at hs1
      have HX := Lib.hid (HF.out k hkC)
      have HE : Hid (opN f p p k = mulF (f p k) (-1)) := Lib.hid (by unfold opN; rw [if_pos rfl, mulF_num HX.out ⟨by omega, by omega⟩, fit_in (by have := HX.out; unfold Num at this; omega)]; omega)
      have hne2 : ¬ g = w.heap.size + 1 := by omega
      generalize opN f p p k = v at *
      generalize f p k = x at *
      go_wp2
      have i1 := P1.out
      have hpk : p * C + k < n := by omega
      have g1 : IntKind.i64.wrap ((p : Int) * (C : Int)) = (p : Int) * (C : Int) := IntWalk.i64_in _ (by omega)
      have g2 : IntKind.i64.wrap ((p : Int) * (C : Int) + (k : Int)) = (p : Int) * (C : Int) + (k : Int) := IntWalk.i64_in _ (by omega)
      have g6 : 0 ≤ (p : Int) * (C : Int) + (k : Int) ∧ (p : Int) * (C : Int) + (k : Int) < (n : Int) := by omega
      have e5 : ((p : Int) * (C : Int) + (k : Int)).toNat = p * C + k := by omega
      rw [← e5] at c1 f1 hs1
      clear i1 e5
      have hne3 : ¬ g = w.heap.size := by omega
      have hne4 : ¬ w.heap.size = g := by omega
      have hne5 : ¬ w.heap.size + 1 = g := by omega
      ((refine wp_region_held_drew (S := (fun w' => w'.cell? ⟨w.heap.size, 1, none⟩ = some (.int .i64 C) ∧ w'.cell? ⟨w.heap.size, 2, none⟩ = some (.slice (some ⟨g, 0, none⟩) n cap) ∧ w'.cell? ⟨w.heap.size + 1, 1, none⟩ = some (.int .i64 p))) (by kernel_rfl) ?_ (fun hHeld => ?_)); ((focus ((try dsimp only); (go_keep)))); ((refine tk_ (i := 0) (v := ?_) (y := Or.inl ⟨by rfl, ?_⟩) (h := ?_); rotate_left; (focus (((intro w hSw; (try dsimp only at hSw); go_simp) <;> (try with_reducible rfl)); done)); (try simp only [Act.put, p1_, p2_, p3_]))); ((refine tk_ (i := 1) (v := ?_) (y := Or.inl ⟨by rfl, ?_⟩) (h := ?_); rotate_left; (focus (((intro w hSw; (try dsimp only at hSw); go_simp) <;> (try with_reducible rfl)); done)); (try simp only [Act.put, p1_, p2_, p3_]))); ((refine tk_ (i := 2) (v := ?_) (y := Or.inl ⟨by rfl, ?_⟩) (h := ?_); rotate_left; (focus (((intro w hSw; (try dsimp only at hSw); go_simp) <;> (try with_reducible rfl)); done)); (try simp only [Act.put, p1_, p2_, p3_]))); ((refine tk_ (i := 3) (v := ?_) (y := Or.inl ⟨by rfl, ?_⟩) (h := ?_); rotate_left; (focus (((intro w hSw; (try dsimp only at hSw); go_simp) <;> (try with_reducible rfl)); done)); (try simp only [Act.put, p1_, p2_, p3_]))); ((refine tk_ (i := 4) (v := ?_) (y := Or.inl ⟨by rfl, ?_⟩) (h := ?_); rotate_left; (focus (((intro w hSw; (try dsimp only at hSw); go_simp) <;> (try with_reducible rfl)); done)); (try simp only [Act.put, p1_, p2_, p3_]))); ((refine tk_ (i := 5) (v := ?_) (y := Or.inl ⟨by rfl, ?_⟩) (h := ?_); rotate_left; (focus (((intro w hSw; (try dsimp only at hSw); go_simp) <;> (try with_reducible rfl)); done)); (try simp only [Act.put, p1_, p2_, p3_]))); ((refine tk_ (i := 6) (v := ?_) (y := Or.inl ⟨by rfl, ?_⟩) (h := ?_); rotate_left; (focus (((intro w hSw; (try dsimp only at hSw); go_simp) <;> (try with_reducible rfl)); done)); (try simp only [Act.put, p1_, p2_, p3_]))); ((refine tk_ (i := 7) (v := ?_) (y := Or.inl ⟨by rfl, ?_⟩) (h := ?_); rotate_left; (focus (((intro w hSw; (try dsimp only at hSw); go_simp) <;> (try with_reducible rfl)); done)); (try simp only [Act.put, p1_, p2_, p3_]))); ((refine tk_ (i := 8) (v := ?_) (y := Or.inl ⟨by rfl, ?_⟩) (h := ?_); rotate_left; (focus (((intro w hSw; (try dsimp only at hSw); go_simp) <;> (try with_reducible rfl)); done)); (try simp only [Act.put, p1_, p2_, p3_]))); ((refine tk_ (i := 9) (v := ?_) (y := Or.inl ⟨by rfl, ?_⟩) (h := ?_); rotate_left; (focus (((intro w hSw; (try dsimp only at hSw); go_simp) <;> (try with_reducible rfl)); done)); (try simp only [Act.put, p1_, p2_, p3_]))); ((refine wpAnyH_ready (rs := [10]) (by kernel_rfl) (by simp) ?_; refine AllReadyH.cons (by simp only [e1_, e2_, e3_]; try rfl) (fun K hK => ?_) AllReadyH.nil; go_simp; (go_at_call 133; refine (spec_l1Mul x (-1) _ HX.out.nb (NB.one)).mono ?_; rw [← HE.out]; rintro e w' ⟨rfl, rfl⟩); (try go_wp2_with fail); refine hK.out _ _ ?_ (fun hHeld => ?_); (focus ((try dsimp only); (go_keep))); clear hK K; (try simp only [Act.put, p1_, p2_, p3_]))); ((refine tk_ (i := 11) (v := ?_) (y := Or.inl ⟨by rfl, ?_⟩) (h := ?_); rotate_left; (focus (((intro w hSw; (try dsimp only at hSw); go_simp) <;> (try with_reducible rfl)); done)); (try simp only [Act.put, p1_, p2_, p3_]))); ((refine wpAnyH_ready (rs := [12]) (by kernel_rfl) (by simp) ?_; refine AllReadyH.cons (by simp only [e1_, e2_, e3_]; try rfl) (fun K hK => ?_) AllReadyH.nil; go_simp; (try go_wp2_with fail); refine hK.out _ _ ?_ (fun hHeld => ?_); (focus ((try dsimp only); (go_keep))); clear hK K; (try simp only [Act.put, p1_, p2_, p3_]))); (refine wpAnyH_done (by kernel_rfl) ?_ _))
      go_wp2
      go_roundw
      case rel => exact ⟨k + 1, by go_num, by omega, hs1, Kb hM, by (with_reducible (repeat (first | exact hO | refine Blk.new_at _ _ _ _ Ks | refine Blk.below ?_ (by assumption) Ks | apply Blk.drew | apply Blk.drewN | refine Blk.far ?_ (by simp only [ne_eq]; omega) _ | apply Blk.alloc))), by (with_reducible (repeat (first | assumption | exact World.grownBy.refl _ _ | refine only_alloc ?_ _ | refine only_drewN ?_ _ | refine only_drew ?_ | refine only_set ?_ _ _ | refine grown_far ?_ Ks _ | refine only_trans ?_ (only_of_below (by assumption) _) | refine only_trans ?_ (by assumption)))), by simpa [World.setCell] using hsz⟩
      case measure => simp only [intOf]; omega
    · have hfin := hown.as (show _ = tb R C (opN f p) by rw [show k = C by omega]; exact roK_end (fun x y hx => opN_other hx))
      clear hown
      go_wp2
      go_end0
      exact WW.mk rfl hfin hgr hsz
set_option maxRecDepth 100000 in
set_option maxHeartbeats 4000000 in
theorem impl_rowOp_neg (R C p : Nat) (m : Int) (A : Option Addr) (n cap : Nat) (f : Fn2) (w : World) {B : Nat} (h : OR w B (.slice A n cap) (tb R C f)) (hp : p < R) (hf : ∀ k, k < C → Num (f p k)) (hC0 : 0 < C) (hC : C ≤ 24) (hR : R ≤ 24) :
    Calls Try.prog 64 #[.agg #[.int .i64 R, .int .i64 C, .slice A n cap], .agg #[.int .i64 1, .int .i64 p, .int .i64 p, .int .i64 m]] w (WW (.bool true) (.slice A n cap) B (tb R C (opN f p)) w) := by
  have hn := h.lenEq
  rw [tb_len] at hn
  have hcaps := h.caps
  have hP := idx_nat hp (show C - 1 < C by omega)
  obtain ⟨g, rfl, hg1, hg2⟩ := h.begins (by rw [tb_len]; omega)
  have hP2 : p * C + C ≤ n := by omega
  have HN := Lib.hid hn
  have HF := Lib.hid hf
  clear hn hP hf
  go_enter Try.func64, Try.ntmps64
  go_wp2_with fail
  refine (impl_row_own R C p g n cap _ Ks (by omega) (by omega) hC0 (by omega) (by omega) hP2).mono ?_
  rintro e w1 ⟨rfl, hb1⟩
  have hsz1 := hb1.size
  simp at hsz1
  have hO1 : Blk w1 (w.heap.size + 1) 38 #[.int .i64 1, .int .i64 p, .int .i64 p, .int .i64 m] := by (with_reducible (repeat (first | assumption | refine Blk.new_at _ _ _ _ Ks | refine Blk.below ?_ (by assumption) Ks | apply Blk.drew | apply Blk.drewN | refine Blk.far ?_ (by simp only [ne_eq]; omega) _ | apply Blk.alloc)))
  have hM1 : BM w1 w.heap.size R C (some ⟨g, 0, none⟩) n cap := Ka
  have hown1 : OR w1 B (.slice (some ⟨g, 0, none⟩) n cap) (tb R C f) := Ko h
  have hgr1 : w.grownBy w1 (some g) := by (with_reducible (repeat (first | assumption | exact World.grownBy.refl _ _ | refine only_alloc ?_ _ | refine only_drewN ?_ _ | refine only_drew ?_ | refine only_set ?_ _ _ | refine grown_far ?_ Ks _ | refine only_trans ?_ (only_of_below (by assumption) _) | refine only_trans ?_ (by assumption))))
  obtain ⟨oa, ob, oc, of, ol⟩ := hM1.mx
  have x0 := hO1.cell 0
  have x1 := hO1.cell 1
  have x2 := hO1.cell 2
  have x3 := hO1.cell 3
  simp at x0 x1 x2 x3
  clear hb1
  go_wp2_with fail
  refine (impl_row_own R C p g n cap _ Ks (by omega) (by omega) hC0 (by omega) (by omega) hP2).mono ?_
  rintro e w2 ⟨rfl, hb2⟩
  have hsz2 := hb2.size
  have hO2 : Blk w2 (w.heap.size + 1) 38 #[.int .i64 1, .int .i64 p, .int .i64 p, .int .i64 m] := by (with_reducible (repeat (first | exact hO1 | refine Blk.new_at _ _ _ _ Ks | refine Blk.below ?_ (by assumption) Ks | apply Blk.drew | apply Blk.drewN | refine Blk.far ?_ (by simp only [ne_eq]; omega) _ | apply Blk.alloc)))
  have hown2 : OR w2 B (.slice (some ⟨g, 0, none⟩) n cap) (tb R C f) := Ko hown1
  have hgr2 : w.grownBy w2 (some g) := by (with_reducible (repeat (first | assumption | exact World.grownBy.refl _ _ | refine only_alloc ?_ _ | refine only_drewN ?_ _ | refine only_drew ?_ | refine only_set ?_ _ _ | refine grown_far ?_ Ks _ | refine only_trans ?_ (only_of_below (by assumption) _) | refine only_trans ?_ (by assumption))))
  clear hb2 hown1 hgr1 hO1 hM1 x0 x1 x2 x3 oa ob oc of ol
  go_wp2_with fail
  go_loopw [7, 19] (fun _ u wr => ∃ k : Nat, u = .int .i64 k ∧ k ≤ C ∧ OR wr B (.slice (some ⟨g, 0, none⟩) n cap) (tb R C (roK f (opN f p) p k)) ∧ Blk wr (w.heap.size + 1) 38 #[.int .i64 1, .int .i64 p, .int .i64 p, .int .i64 m] ∧ w.grownBy wr (some g) ∧ w.heap.size ≤ wr.heap.size) (fun _ v _ => C - (intOf v).toNat)
  case atStart => exact ⟨0, rfl, Nat.zero_le _, by rw [roK_zero]; exact hown2, hO2, hgr2, by omega⟩
  case round =>
    clear hown2 hO2 hgr2 h
    obtain ⟨k, rfl, hk, hown, hO, hgr, hsz⟩ := hrel
    have x0 := hO.cell 0
    have x1 := hO.cell 1
    have x2 := hO.cell 2
    have x3 := hO.cell 3
    have hl := hO.lt
    simp at x0 x1 x2 x3
    by_cases hkC : k < C
    · have c1 := hown.cell (p * C + k) (by rw [tb_len]; exact idx_nat hp hkC)
      rw [tb_at hp hkC, roK_at] at c1
      have f1 := hown.frozen (p * C + k)
      have he : opN f p p k = -f p k := by unfold opN; rw [if_pos rfl]
      have hs1 := hown.set_ (p * C + k) (opN f p p k)
      rw [tb_set hp hkC, roK_step, he] at hs1
      obtain ⟨n1, n2⟩ := HF.out k hkC
      generalize f p k = x at *
      clear he
      go_wp2
      go_roundw
      case rel => exact ⟨k + 1, by go_num, by omega, hs1, by (with_reducible (repeat (first | exact hO | refine Blk.new_at _ _ _ _ Ks | refine Blk.below ?_ (by assumption) Ks | apply Blk.drew | apply Blk.drewN | refine Blk.far ?_ (by simp only [ne_eq]; omega) _ | apply Blk.alloc))), by (with_reducible (repeat (first | assumption | exact World.grownBy.refl _ _ | refine only_alloc ?_ _ | refine only_drewN ?_ _ | refine only_drew ?_ | refine only_set ?_ _ _ | refine grown_far ?_ Ks _ | refine only_trans ?_ (only_of_below (by assumption) _) | refine only_trans ?_ (by assumption)))), by simpa [World.setCell] using hsz⟩
      case measure => simp only [intOf]; omega
    · obtain rfl : k = C := by omega
      have hfin := hown.as (roK_end (fun x y hx => opN_other hx))
      clear hown
      go_wp2
      go_ret
      exact WW.mk rfl hfin hgr hsz
end Go.Proofs.Ytlggfmfelakadaa

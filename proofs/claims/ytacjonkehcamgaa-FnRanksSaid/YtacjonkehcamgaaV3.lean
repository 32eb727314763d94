/-
  DERIVED. Several small texts in one: OpsS, Work, Elim, PlainU, SmC, HmT, PlSp, PlRk, PlainQ2, Iden, NewW, SmT, Trn.
-/
import Derived.Test.YtacjonkehcamgaaV2
import Derived.Test.YtacjonkehcamgaaV1
/-
  DERIVED. l5Do for sums and signs; rowOp for signs.
-/
namespace Go.Proofs.Ytacjonkehcamgaa
open Go.RowKit
set_option linter.unusedVariables false
set_option linter.unusedSimpArgs false
/-- The first k columns of row i as in F. -/
def roK (f F : Fn2) (i k : Nat) : Fn2 := fun x y => if x = i ∧ y < k then F i y else f x y
theorem roK_zero (f F : Fn2) (i : Nat) : roK f F i 0 = f := by funext x y; simp [roK]
theorem roK_step (f F : Fn2) (i k : Nat) : upd (roK f F i k) i k (F i k) = roK f F i (k + 1) := by
  funext x y
  unfold upd roK
  by_cases h : x = i ∧ y = k
  · rw [if_pos h, if_pos ⟨h.1, by omega⟩, h.2]
  · rw [if_neg h]
    by_cases h2 : x = i ∧ y < k
    · rw [if_pos h2, if_pos ⟨h2.1, by omega⟩]
    · rw [if_neg h2, if_neg]
      rintro ⟨h3, h4⟩
      exact h2 ⟨h3, by have : y ≠ k := fun e => h ⟨h3, e⟩; omega⟩
theorem roK_at (f F : Fn2) (i k : Nat) : roK f F i k i k = f i k := by simp [roK]
theorem roK_atj {f F : Fn2} {i j : Nat} (h : i ≠ j) (k : Nat) : roK f F i k j k = f j k := by simp [roK, Ne.symm h]
theorem roK_end {f F : Fn2} {R C i : Nat} (h : ∀ x y, x ≠ i → F x y = f x y) : tb R C (roK f F i C) = tb R C F :=
  tb_ext fun x y hx hy => by
    unfold roK
    by_cases h2 : x = i
    · subst h2; rw [if_pos ⟨rfl, hy⟩]
    · rw [if_neg (fun h3 => h2 h3.1), h x y h2]
theorem NB.one : NB (-1) := .inr (by omega)
theorem opN_other {f : Fn2} {i x y : Nat} (h : x ≠ i) : opN f i x y = f x y := by unfold opN; rw [if_neg h]
set_option maxRecDepth 100000 in
set_option maxHeartbeats 4000000 in
theorem spec_l5Do_add (R C p t : Nat) (ti : Int) (A : Option Addr) (n cap : Nat) (f : Nat → Nat → Int) (w : World) {B : Nat} (h : OR w B (.slice A n cap) (tb R C f)) (hp : p < R) (ht : t < R) (hpt : p ≠ t) (hm : Num ti) (hf : NBF f) (hC0 : 0 < C) (hC : C ≤ 24) (hR : R ≤ 24) :
    Calls Try.prog 203 #[.agg #[.int .i64 R, .int .i64 C, .slice A n cap], .agg #[.int .i64 2, .int .i64 p, .int .i64 t, .int .i64 ti]] w (WW (.tuple #[]) (.slice A n cap) B (tb R C (opA f p t ti)) w) := by
  have hn := h.lenEq
  rw [tb_len] at hn
  have hcaps := h.caps
  have hP := idx_nat hp (show C - 1 < C by omega)
  have hT := idx_nat ht (show C - 1 < C by omega)
  obtain ⟨g, rfl, hg1, hg2⟩ := h.begins (by rw [tb_len]; omega)
  have hP2 : p * C + C ≤ n := by omega
  have hT2 : t * C + C ≤ n := by omega
  have HN := Lib.hid hn
  have HPT := Lib.hid hpt
  have HF := Lib.hid hf
  have HM := Lib.hid hm
  have hm : R * C ≤ 24 * 24 := Nat.mul_le_mul hR hC
  have p1 : (p : Int) * (C : Int) = ((p * C : Nat) : Int) := by rw [Int.natCast_mul]
  have t1 : (t : Int) * (C : Int) = ((t * C : Nat) : Int) := by rw [Int.natCast_mul]
  have P1 := Lib.hid p1
  have T1 := Lib.hid t1
  have b1 : 0 ≤ (p : Int) * (C : Int) ∧ (p : Int) * (C : Int) + C ≤ n ∧ (p : Int) * (C : Int) ≤ 10000 := by omega
  have b2 : 0 ≤ (t : Int) * (C : Int) ∧ (t : Int) * (C : Int) + C ≤ n ∧ (t : Int) * (C : Int) ≤ 10000 := by omega
  obtain ⟨b1a, b1b, b1c⟩ := b1
  obtain ⟨b2a, b2b, b2c⟩ := b2
  clear hn hpt hP hT p1 t1 hf hm
  go_enter Try.func203, Try.ntmps203
  go_wp2_with fail
  go_loopw [4] (fun u wr => ∃ k : Nat, u = .int .i64 k ∧ k ≤ C ∧ OR wr B (.slice (some ⟨g, 0, none⟩) n cap) (tb R C (roK f (opA f p t ti) p k)) ∧ BM wr w.heap.size R C (some ⟨g, 0, none⟩) n cap ∧ Blk wr (w.heap.size + 1) 66 #[.int .i64 2, .int .i64 p, .int .i64 t, .int .i64 ti] ∧ w.grownBy wr (some g) ∧ w.heap.size ≤ wr.heap.size) (fun v _ => C - (intOf v).toNat)
  case atStart => exact ⟨0, rfl, Nat.zero_le _, by rw [roK_zero]; (with_reducible (repeat (first | exact h | refine OR.drew ?_ | refine OR.drewN ?_ _ | refine OR.alloc ?_ _ | refine OR.b_ ?_ | refine OR.l_ ?_))), Ka, by (with_reducible (repeat (first | assumption | refine Blk.new_at _ _ _ _ Ks | refine Blk.below ?_ (by assumption) Ks | apply Blk.drew | apply Blk.drewN | refine Blk.far ?_ (by simp only [ne_eq]; omega) _ | apply Blk.alloc))), by (with_reducible (repeat (first | assumption | exact World.grownBy.refl _ _ | refine only_alloc ?_ _ | refine only_drewN ?_ _ | refine only_drew ?_ | refine only_set ?_ _ _ | refine grown_far ?_ Ks _ | refine only_trans ?_ (only_of_below (by assumption) _) | refine only_trans ?_ (by assumption)))), by simp; omega⟩
  case round =>
    clear h
    obtain ⟨k, rfl, hk, hown, hM, hO, hgr, hsz⟩ := hrel
    obtain ⟨oa, ob, oc, of, ol⟩ := hM.mx
    have x0 := hO.cell 0
    have x1 := hO.cell 1
    have x2 := hO.cell 2
    have x3 := hO.cell 3
    have hl := hO.lt
    simp at x0 x1 x2 x3
    by_cases hkC : k < C
    · have c1 := hown.cell (p * C + k) (by rw [tb_len]; exact idx_nat hp hkC)
      have c2 := hown.cell (t * C + k) (by rw [tb_len]; exact idx_nat ht hkC)
      rw [tb_at hp hkC] at c1
      rw [tb_at ht hkC] at c2
      rw [roK_at] at c1
      rw [roK_atj HPT.out] at c2
      have f1 := hown.frozen (p * C + k)
      have hs1 := hown.set_ (p * C + k) (opA f p t ti p k)
      rw [tb_set hp hkC, roK_step] at hs1
      have HX := Lib.hid (HF.out p k)
      have HY := Lib.hid (HF.out t k)
      have HE : Hid (opA f p t ti p k = addB (f p k) (mulF (f t k) ti)) := Lib.hid (by unfold opA; rw [if_pos rfl])
      have hne2 : ¬ g = w.heap.size + 1 := by omega
      generalize opA f p t ti p k = v at *
      generalize f t k = y at *
      generalize f p k = x at *
      go_wp2
      have i1 := P1.out
      have hpk : p * C + k < n := by omega
      have g1 : IntKind.i64.wrap ((p : Int) * (C : Int)) = (p : Int) * (C : Int) := IntWalk.i64_in _ (by omega)
      have g2 : IntKind.i64.wrap ((p : Int) * (C : Int) + (k : Int)) = (p : Int) * (C : Int) + (k : Int) := IntWalk.i64_in _ (by omega)
      have g6 : 0 ≤ (p : Int) * (C : Int) + (k : Int) ∧ (p : Int) * (C : Int) + (k : Int) < (n : Int) := by omega
      have e5 : ((p : Int) * (C : Int) + (k : Int)).toNat = p * C + k := by omega
      rw [← e5] at c1 f1 hs1
      clear i1 e5
      have hne3 : ¬ g = w.heap.size := by omega
      have hne4 : ¬ w.heap.size = g := by omega
      have hne5 : ¬ w.heap.size + 1 = g := by omega
      ((refine wp_region_held_drew (S := (fun w' => w'.cell? ⟨w.heap.size, 1, none⟩ = some (.int .i64 C) ∧ w'.cell? ⟨w.heap.size, 2, none⟩ = some (.slice (some ⟨g, 0, none⟩) n cap) ∧ w'.cell? ⟨w.heap.size + 1, 1, none⟩ = some (.int .i64 p) ∧ w'.cell? ⟨w.heap.size + 1, 3, none⟩ = some (.int .i64 ti))) (by kernel_rfl) ?_ (fun hHeld => ?_)); ((focus ((try dsimp only); (go_keep)))); ((refine tk_ (i := 0) (v := ?_) (y := Or.inl ⟨by rfl, ?_⟩) (h := ?_); rotate_left; (focus (((intro w hSw; (try dsimp only at hSw); go_simp) <;> (try with_reducible rfl)); done)); (try simp only [Act.put, p1_, p2_, p3_]))); ((refine tk_ (i := 1) (v := ?_) (y := Or.inl ⟨by rfl, ?_⟩) (h := ?_); rotate_left; (focus (((intro w hSw; (try dsimp only at hSw); go_simp) <;> (try with_reducible rfl)); done)); (try simp only [Act.put, p1_, p2_, p3_]))); ((refine tk_ (i := 2) (v := ?_) (y := Or.inl ⟨by rfl, ?_⟩) (h := ?_); rotate_left; (focus (((intro w hSw; (try dsimp only at hSw); go_simp) <;> (try with_reducible rfl)); done)); (try simp only [Act.put, p1_, p2_, p3_]))); ((refine tk_ (i := 3) (v := ?_) (y := Or.inl ⟨by rfl, ?_⟩) (h := ?_); rotate_left; (focus (((intro w hSw; (try dsimp only at hSw); go_simp) <;> (try with_reducible rfl)); done)); (try simp only [Act.put, p1_, p2_, p3_]))); ((refine tk_ (i := 4) (v := ?_) (y := Or.inl ⟨by rfl, ?_⟩) (h := ?_); rotate_left; (focus (((intro w hSw; (try dsimp only at hSw); go_simp) <;> (try with_reducible rfl)); done)); (try simp only [Act.put, p1_, p2_, p3_]))); ((refine tk_ (i := 5) (v := ?_) (y := Or.inl ⟨by rfl, ?_⟩) (h := ?_); rotate_left; (focus (((intro w hSw; (try dsimp only at hSw); go_simp) <;> (try with_reducible rfl)); done)); (try simp only [Act.put, p1_, p2_, p3_]))); ((refine tk_ (i := 6) (v := ?_) (y := Or.inl ⟨by rfl, ?_⟩) (h := ?_); rotate_left; (focus (((intro w hSw; (try dsimp only at hSw); go_simp) <;> (try with_reducible rfl)); done)); (try simp only [Act.put, p1_, p2_, p3_]))); ((refine tk_ (i := 7) (v := ?_) (y := Or.inl ⟨by rfl, ?_⟩) (h := ?_); rotate_left; (focus (((intro w hSw; (try dsimp only at hSw); go_simp) <;> (try with_reducible rfl)); done)); (try simp only [Act.put, p1_, p2_, p3_]))); ((refine tk_ (i := 8) (v := ?_) (y := Or.inl ⟨by rfl, ?_⟩) (h := ?_); rotate_left; (focus (((intro w hSw; (try dsimp only at hSw); go_simp) <;> (try with_reducible rfl)); done)); (try simp only [Act.put, p1_, p2_, p3_]))); ((refine tk_ (i := 9) (v := ?_) (y := Or.inl ⟨by rfl, ?_⟩) (h := ?_); rotate_left; (focus (((intro w hSw; (try dsimp only at hSw); go_simp) <;> (try with_reducible rfl)); done)); (try simp only [Act.put, p1_, p2_, p3_]))); ((refine tk_ (i := 10) (v := ?_) (y := Or.inl ⟨by rfl, ?_⟩) (h := ?_); rotate_left; (focus (((intro w hSw; (try dsimp only at hSw); go_simp) <;> (try with_reducible rfl)); done)); (try simp only [Act.put, p1_, p2_, p3_]))); ((refine tk_ (i := 11) (v := ?_) (y := Or.inl ⟨by rfl, ?_⟩) (h := ?_); rotate_left; (focus (((intro w hSw; (try dsimp only at hSw); go_simp) <;> (try with_reducible rfl)); done)); (try simp only [Act.put, p1_, p2_, p3_]))); ((refine tk_ (i := 12) (v := ?_) (y := Or.inl ⟨by rfl, ?_⟩) (h := ?_); rotate_left; (focus (((intro w hSw; (try dsimp only at hSw); go_simp) <;> (try with_reducible rfl)); done)); (try simp only [Act.put, p1_, p2_, p3_]))); ((refine wpAnyH_ready (rs := [13]) (by kernel_rfl) (by simp) ?_; refine AllReadyH.cons (by simp only [e1_, e2_, e3_]; try rfl) (fun K hK => ?_) AllReadyH.nil; go_simp; (go_at_call 190; refine (spec_l1Mul y ti _ HY.out HM.out.nb).mono ?_; rintro e w' ⟨rfl, rfl⟩); (try go_wp2_with fail); refine hK.out _ _ ?_ (fun hHeld => ?_); (focus ((try dsimp only); (go_keep))); clear hK K; (try simp only [Act.put, p1_, p2_, p3_]))); ((refine wpAnyH_ready (rs := [14]) (by kernel_rfl) (by simp) ?_; refine AllReadyH.cons (by simp only [e1_, e2_, e3_]; try rfl) (fun K hK => ?_) AllReadyH.nil; go_simp; (go_at_call 232; refine (spec_l1Add x _ _ HX.out (NB.mulF y ti)).mono ?_; rw [← HE.out]; rintro e w' ⟨rfl, rfl⟩); (try go_wp2_with fail); refine hK.out _ _ ?_ (fun hHeld => ?_); (focus ((try dsimp only); (go_keep))); clear hK K; (try simp only [Act.put, p1_, p2_, p3_]))); ((refine tk_ (i := 15) (v := ?_) (y := Or.inl ⟨by rfl, ?_⟩) (h := ?_); rotate_left; (focus (((intro w hSw; (try dsimp only at hSw); go_simp) <;> (try with_reducible rfl)); done)); (try simp only [Act.put, p1_, p2_, p3_]))); ((refine wpAnyH_ready (rs := [16]) (by kernel_rfl) (by simp) ?_; refine AllReadyH.cons (by simp only [e1_, e2_, e3_]; try rfl) (fun K hK => ?_) AllReadyH.nil; go_simp; (try go_wp2_with fail); refine hK.out _ _ ?_ (fun hHeld => ?_); (focus ((try dsimp only); (go_keep))); clear hK K; (try simp only [Act.put, p1_, p2_, p3_]))); (refine wpAnyH_done (by kernel_rfl) ?_ _))
      go_wp2
      go_roundw
      case rel => exact ⟨k + 1, by go_num, by omega, hs1, Kb hM, by (with_reducible (repeat (first | exact hO | refine Blk.new_at _ _ _ _ Ks | refine Blk.below ?_ (by assumption) Ks | apply Blk.drew | apply Blk.drewN | refine Blk.far ?_ (by simp only [ne_eq]; omega) _ | apply Blk.alloc))), by (with_reducible (repeat (first | assumption | exact World.grownBy.refl _ _ | refine only_alloc ?_ _ | refine only_drewN ?_ _ | refine only_drew ?_ | refine only_set ?_ _ _ | refine grown_far ?_ Ks _ | refine only_trans ?_ (only_of_below (by assumption) _) | refine only_trans ?_ (by assumption)))), by simpa [World.setCell] using hsz⟩
      case measure => simp only [intOf]; omega
    · have hfin := hown.as (show _ = tb R C (opA f p t ti) by rw [show k = C by omega]; exact roK_end (fun x y hx => opA_other hx))
      clear hown
      go_wp2
      go_end0
      exact WW.mk rfl hfin hgr hsz
set_option maxRecDepth 100000 in
set_option maxHeartbeats 4000000 in
theorem spec_l5Do_neg (R C p : Nat) (ti : Int) (A : Option Addr) (n cap : Nat) (f : Nat → Nat → Int) (w : World) {B : Nat} (h : OR w B (.slice A n cap) (tb R C f)) (hp : p < R) (hf : ∀ k, k < C → Num (f p k)) (hC0 : 0 < C) (hC : C ≤ 24) (hR : R ≤ 24) :
    Calls Try.prog 203 #[.agg #[.int .i64 R, .int .i64 C, .slice A n cap], .agg #[.int .i64 1, .int .i64 p, .int .i64 p, .int .i64 ti]] w (WW (.tuple #[]) (.slice A n cap) B (tb R C (opN f p)) w) := by
  have hn := h.lenEq
  rw [tb_len] at hn
  have hcaps := h.caps
  have hP := idx_nat hp (show C - 1 < C by omega)
  obtain ⟨g, rfl, hg1, hg2⟩ := h.begins (by rw [tb_len]; omega)
  have hP2 : p * C + C ≤ n := by omega
  have HN := Lib.hid hn
  have HF := Lib.hid hf
  have hm : R * C ≤ 24 * 24 := Nat.mul_le_mul hR hC
  have p1 : (p : Int) * (C : Int) = ((p * C : Nat) : Int) := by rw [Int.natCast_mul]
  have P1 := Lib.hid p1
  have b1 : 0 ≤ (p : Int) * (C : Int) ∧ (p : Int) * (C : Int) + C ≤ n ∧ (p : Int) * (C : Int) ≤ 10000 := by omega
  obtain ⟨b1a, b1b, b1c⟩ := b1
  clear hn hP p1 hf
  go_enter Try.func203, Try.ntmps203
  go_wp2_with fail
  go_loopw [4] (fun u wr => ∃ k : Nat, u = .int .i64 k ∧ k ≤ C ∧ OR wr B (.slice (some ⟨g, 0, none⟩) n cap) (tb R C (roK f (opN f p) p k)) ∧ BM wr w.heap.size R C (some ⟨g, 0, none⟩) n cap ∧ Blk wr (w.heap.size + 1) 66 #[.int .i64 1, .int .i64 p, .int .i64 p, .int .i64 ti] ∧ w.grownBy wr (some g) ∧ w.heap.size ≤ wr.heap.size) (fun v _ => C - (intOf v).toNat)
  case atStart => exact ⟨0, rfl, Nat.zero_le _, by rw [roK_zero]; (with_reducible (repeat (first | exact h | refine OR.drew ?_ | refine OR.drewN ?_ _ | refine OR.alloc ?_ _ | refine OR.b_ ?_ | refine OR.l_ ?_))), Ka, by (with_reducible (repeat (first | assumption | refine Blk.new_at _ _ _ _ Ks | refine Blk.below ?_ (by assumption) Ks | apply Blk.drew | apply Blk.drewN | refine Blk.far ?_ (by simp only [ne_eq]; omega) _ | apply Blk.alloc))), by (with_reducible (repeat (first | assumption | exact World.grownBy.refl _ _ | refine only_alloc ?_ _ | refine only_drewN ?_ _ | refine only_drew ?_ | refine only_set ?_ _ _ | refine grown_far ?_ Ks _ | refine only_trans ?_ (only_of_below (by assumption) _) | refine only_trans ?_ (by assumption)))), by simp; omega⟩
  case round =>
    clear h
    obtain ⟨k, rfl, hk, hown, hM, hO, hgr, hsz⟩ := hrel
    obtain ⟨oa, ob, oc, of, ol⟩ := hM.mx
    have x0 := hO.cell 0
    have x1 := hO.cell 1
    have x2 := hO.cell 2
    have x3 := hO.cell 3
    have hl := hO.lt
    simp at x0 x1 x2 x3
    by_cases hkC : k < C
    · have c1 := hown.cell (p * C + k) (by rw [tb_len]; exact idx_nat hp hkC)
      rw [tb_at hp hkC] at c1
      rw [roK_at] at c1
      have f1 := hown.frozen (p * C + k)
      have hs1 := hown.set_ (p * C + k) (opN f p p k)
      rw [tb_set hp hkC, roK_step] at hs1
      have HX := Lib.hid (HF.out k hkC)
      have HE : Hid (opN f p p k = mulF (f p k) (-1)) := Lib.hid (by unfold opN; rw [if_pos rfl, mulF_num HX.out ⟨by omega, by omega⟩, fit_in (by have := HX.out; unfold Num at this; omega)]; omega)
      have hne2 : ¬ g = w.heap.size + 1 := by omega
      generalize opN f p p k = v at *
      generalize f p k = x at *
      go_wp2
      have i1 := P1.out
      have hpk : p * C + k < n := by omega
      have g1 : IntKind.i64.wrap ((p : Int) * (C : Int)) = (p : Int) * (C : Int) := IntWalk.i64_in _ (by omega)
      have g2 : IntKind.i64.wrap ((p : Int) * (C : Int) + (k : Int)) = (p : Int) * (C : Int) + (k : Int) := IntWalk.i64_in _ (by omega)
      have g6 : 0 ≤ (p : Int) * (C : Int) + (k : Int) ∧ (p : Int) * (C : Int) + (k : Int) < (n : Int) := by omega
      have e5 : ((p : Int) * (C : Int) + (k : Int)).toNat = p * C + k := by omega
      rw [← e5] at c1 f1 hs1
      clear i1 e5
      have hne3 : ¬ g = w.heap.size := by omega
      have hne4 : ¬ w.heap.size = g := by omega
      have hne5 : ¬ w.heap.size + 1 = g := by omega
      ((refine wp_region_held_drew (S := (fun w' => w'.cell? ⟨w.heap.size, 1, none⟩ = some (.int .i64 C) ∧ w'.cell? ⟨w.heap.size, 2, none⟩ = some (.slice (some ⟨g, 0, none⟩) n cap) ∧ w'.cell? ⟨w.heap.size + 1, 1, none⟩ = some (.int .i64 p))) (by kernel_rfl) ?_ (fun hHeld => ?_)); ((focus ((try dsimp only); (go_keep)))); ((refine tk_ (i := 0) (v := ?_) (y := Or.inl ⟨by rfl, ?_⟩) (h := ?_); rotate_left; (focus (((intro w hSw; (try dsimp only at hSw); go_simp) <;> (try with_reducible rfl)); done)); (try simp only [Act.put, p1_, p2_, p3_]))); ((refine tk_ (i := 1) (v := ?_) (y := Or.inl ⟨by rfl, ?_⟩) (h := ?_); rotate_left; (focus (((intro w hSw; (try dsimp only at hSw); go_simp) <;> (try with_reducible rfl)); done)); (try simp only [Act.put, p1_, p2_, p3_]))); ((refine tk_ (i := 2) (v := ?_) (y := Or.inl ⟨by rfl, ?_⟩) (h := ?_); rotate_left; (focus (((intro w hSw; (try dsimp only at hSw); go_simp) <;> (try with_reducible rfl)); done)); (try simp only [Act.put, p1_, p2_, p3_]))); ((refine tk_ (i := 3) (v := ?_) (y := Or.inl ⟨by rfl, ?_⟩) (h := ?_); rotate_left; (focus (((intro w hSw; (try dsimp only at hSw); go_simp) <;> (try with_reducible rfl)); done)); (try simp only [Act.put, p1_, p2_, p3_]))); ((refine tk_ (i := 4) (v := ?_) (y := Or.inl ⟨by rfl, ?_⟩) (h := ?_); rotate_left; (focus (((intro w hSw; (try dsimp only at hSw); go_simp) <;> (try with_reducible rfl)); done)); (try simp only [Act.put, p1_, p2_, p3_]))); ((refine tk_ (i := 5) (v := ?_) (y := Or.inl ⟨by rfl, ?_⟩) (h := ?_); rotate_left; (focus (((intro w hSw; (try dsimp only at hSw); go_simp) <;> (try with_reducible rfl)); done)); (try simp only [Act.put, p1_, p2_, p3_]))); ((refine tk_ (i := 6) (v := ?_) (y := Or.inl ⟨by rfl, ?_⟩) (h := ?_); rotate_left; (focus (((intro w hSw; (try dsimp only at hSw); go_simp) <;> (try with_reducible rfl)); done)); (try simp only [Act.put, p1_, p2_, p3_]))); ((refine tk_ (i := 7) (v := ?_) (y := Or.inl ⟨by rfl, ?_⟩) (h := ?_); rotate_left; (focus (((intro w hSw; (try dsimp only at hSw); go_simp) <;> (try with_reducible rfl)); done)); (try simp only [Act.put, p1_, p2_, p3_]))); ((refine tk_ (i := 8) (v := ?_) (y := Or.inl ⟨by rfl, ?_⟩) (h := ?_); rotate_left; (focus (((intro w hSw; (try dsimp only at hSw); go_simp) <;> (try with_reducible rfl)); done)); (try simp only [Act.put, p1_, p2_, p3_]))); ((refine tk_ (i := 9) (v := ?_) (y := Or.inl ⟨by rfl, ?_⟩) (h := ?_); rotate_left; (focus (((intro w hSw; (try dsimp only at hSw); go_simp) <;> (try with_reducible rfl)); done)); (try simp only [Act.put, p1_, p2_, p3_]))); ((refine wpAnyH_ready (rs := [10]) (by kernel_rfl) (by simp) ?_; refine AllReadyH.cons (by simp only [e1_, e2_, e3_]; try rfl) (fun K hK => ?_) AllReadyH.nil; go_simp; (go_at_call 190; refine (spec_l1Mul x (-1) _ HX.out.nb (NB.one)).mono ?_; rw [← HE.out]; rintro e w' ⟨rfl, rfl⟩); (try go_wp2_with fail); refine hK.out _ _ ?_ (fun hHeld => ?_); (focus ((try dsimp only); (go_keep))); clear hK K; (try simp only [Act.put, p1_, p2_, p3_]))); ((refine tk_ (i := 11) (v := ?_) (y := Or.inl ⟨by rfl, ?_⟩) (h := ?_); rotate_left; (focus (((intro w hSw; (try dsimp only at hSw); go_simp) <;> (try with_reducible rfl)); done)); (try simp only [Act.put, p1_, p2_, p3_]))); ((refine wpAnyH_ready (rs := [12]) (by kernel_rfl) (by simp) ?_; refine AllReadyH.cons (by simp only [e1_, e2_, e3_]; try rfl) (fun K hK => ?_) AllReadyH.nil; go_simp; (try go_wp2_with fail); refine hK.out _ _ ?_ (fun hHeld => ?_); (focus ((try dsimp only); (go_keep))); clear hK K; (try simp only [Act.put, p1_, p2_, p3_]))); (refine wpAnyH_done (by kernel_rfl) ?_ _))
      go_wp2
      go_roundw
      case rel => exact ⟨k + 1, by go_num, by omega, hs1, Kb hM, by (with_reducible (repeat (first | exact hO | refine Blk.new_at _ _ _ _ Ks | refine Blk.below ?_ (by assumption) Ks | apply Blk.drew | apply Blk.drewN | refine Blk.far ?_ (by simp only [ne_eq]; omega) _ | apply Blk.alloc))), by (with_reducible (repeat (first | assumption | exact World.grownBy.refl _ _ | refine only_alloc ?_ _ | refine only_drewN ?_ _ | refine only_drew ?_ | refine only_set ?_ _ _ | refine grown_far ?_ Ks _ | refine only_trans ?_ (only_of_below (by assumption) _) | refine only_trans ?_ (by assumption)))), by simpa [World.setCell] using hsz⟩
      case measure => simp only [intOf]; omega
    · have hfin := hown.as (show _ = tb R C (opN f p) by rw [show k = C by omega]; exact roK_end (fun x y hx => opN_other hx))
      clear hown
      go_wp2
      go_end0
      exact WW.mk rfl hfin hgr hsz
set_option maxRecDepth 100000 in
set_option maxHeartbeats 4000000 in
theorem impl_rowOp_neg (R C p : Nat) (m : Int) (A : Option Addr) (n cap : Nat) (f : Fn2) (w : World) {B : Nat} (h : OR w B (.slice A n cap) (tb R C f)) (hp : p < R) (hf : ∀ k, k < C → Num (f p k)) (hC0 : 0 < C) (hC : C ≤ 24) (hR : R ≤ 24) :
    Calls Try.prog 165 #[.agg #[.int .i64 R, .int .i64 C, .slice A n cap], .agg #[.int .i64 1, .int .i64 p, .int .i64 p, .int .i64 m]] w (WW (.bool true) (.slice A n cap) B (tb R C (opN f p)) w) := by
  have hn := h.lenEq
  rw [tb_len] at hn
  have hcaps := h.caps
  have hP := idx_nat hp (show C - 1 < C by omega)
  obtain ⟨g, rfl, hg1, hg2⟩ := h.begins (by rw [tb_len]; omega)
  have hP2 : p * C + C ≤ n := by omega
  have HN := Lib.hid hn
  have HF := Lib.hid hf
  clear hn hP hf
  go_enter Try.func165, Try.ntmps165
  go_wp2_with fail
  refine (impl_row_own R C p g n cap _ Ks (by omega) (by omega) hC0 (by omega) (by omega) hP2).mono ?_
  rintro e w1 ⟨rfl, hb1⟩
  have hsz1 := hb1.size
  simp at hsz1
  have hO1 : Blk w1 (w.heap.size + 1) 66 #[.int .i64 1, .int .i64 p, .int .i64 p, .int .i64 m] := by (with_reducible (repeat (first | assumption | refine Blk.new_at _ _ _ _ Ks | refine Blk.below ?_ (by assumption) Ks | apply Blk.drew | apply Blk.drewN | refine Blk.far ?_ (by simp only [ne_eq]; omega) _ | apply Blk.alloc)))
  have hM1 : BM w1 w.heap.size R C (some ⟨g, 0, none⟩) n cap := Ka
  have hown1 : OR w1 B (.slice (some ⟨g, 0, none⟩) n cap) (tb R C f) := Ko h
  have hgr1 : w.grownBy w1 (some g) := by (with_reducible (repeat (first | assumption | exact World.grownBy.refl _ _ | refine only_alloc ?_ _ | refine only_drewN ?_ _ | refine only_drew ?_ | refine only_set ?_ _ _ | refine grown_far ?_ Ks _ | refine only_trans ?_ (only_of_below (by assumption) _) | refine only_trans ?_ (by assumption))))
  obtain ⟨oa, ob, oc, of, ol⟩ := hM1.mx
  have x0 := hO1.cell 0
  have x1 := hO1.cell 1
  have x2 := hO1.cell 2
  have x3 := hO1.cell 3
  simp at x0 x1 x2 x3
  clear hb1
  go_wp2_with fail
  refine (impl_row_own R C p g n cap _ Ks (by omega) (by omega) hC0 (by omega) (by omega) hP2).mono ?_
  rintro e w2 ⟨rfl, hb2⟩
  have hsz2 := hb2.size
  have hO2 : Blk w2 (w.heap.size + 1) 66 #[.int .i64 1, .int .i64 p, .int .i64 p, .int .i64 m] := by (with_reducible (repeat (first | exact hO1 | refine Blk.new_at _ _ _ _ Ks | refine Blk.below ?_ (by assumption) Ks | apply Blk.drew | apply Blk.drewN | refine Blk.far ?_ (by simp only [ne_eq]; omega) _ | apply Blk.alloc)))
  have hown2 : OR w2 B (.slice (some ⟨g, 0, none⟩) n cap) (tb R C f) := Ko hown1
  have hgr2 : w.grownBy w2 (some g) := by (with_reducible (repeat (first | assumption | exact World.grownBy.refl _ _ | refine only_alloc ?_ _ | refine only_drewN ?_ _ | refine only_drew ?_ | refine only_set ?_ _ _ | refine grown_far ?_ Ks _ | refine only_trans ?_ (only_of_below (by assumption) _) | refine only_trans ?_ (by assumption))))
  clear hb2 hown1 hgr1 hO1 hM1 x0 x1 x2 x3 oa ob oc of ol
  go_wp2_with fail
  go_loopw [7, 19] (fun _ u wr => ∃ k : Nat, u = .int .i64 k ∧ k ≤ C ∧ OR wr B (.slice (some ⟨g, 0, none⟩) n cap) (tb R C (roK f (opN f p) p k)) ∧ Blk wr (w.heap.size + 1) 66 #[.int .i64 1, .int .i64 p, .int .i64 p, .int .i64 m] ∧ w.grownBy wr (some g) ∧ w.heap.size ≤ wr.heap.size) (fun _ v _ => C - (intOf v).toNat)
  case atStart => exact ⟨0, rfl, Nat.zero_le _, by rw [roK_zero]; exact hown2, hO2, hgr2, by omega⟩
  case round =>
    clear hown2 hO2 hgr2 h
    obtain ⟨k, rfl, hk, hown, hO, hgr, hsz⟩ := hrel
    have x0 := hO.cell 0
    have x1 := hO.cell 1
    have x2 := hO.cell 2
    have x3 := hO.cell 3
    have hl := hO.lt
    simp at x0 x1 x2 x3
    by_cases hkC : k < C
    · have c1 := hown.cell (p * C + k) (by rw [tb_len]; exact idx_nat hp hkC)
      rw [tb_at hp hkC, roK_at] at c1
      have f1 := hown.frozen (p * C + k)
      have he : opN f p p k = -f p k := by unfold opN; rw [if_pos rfl]
      have hs1 := hown.set_ (p * C + k) (opN f p p k)
      rw [tb_set hp hkC, roK_step, he] at hs1
      obtain ⟨n1, n2⟩ := HF.out k hkC
      generalize f p k = x at *
      clear he
      go_wp2
      go_roundw
      case rel => exact ⟨k + 1, by go_num, by omega, hs1, by (with_reducible (repeat (first | exact hO | refine Blk.new_at _ _ _ _ Ks | refine Blk.below ?_ (by assumption) Ks | apply Blk.drew | apply Blk.drewN | refine Blk.far ?_ (by simp only [ne_eq]; omega) _ | apply Blk.alloc))), by (with_reducible (repeat (first | assumption | exact World.grownBy.refl _ _ | refine only_alloc ?_ _ | refine only_drewN ?_ _ | refine only_drew ?_ | refine only_set ?_ _ _ | refine grown_far ?_ Ks _ | refine only_trans ?_ (only_of_below (by assumption) _) | refine only_trans ?_ (by assumption)))), by simpa [World.setCell] using hsz⟩
      case measure => simp only [intOf]; omega
    · obtain rfl : k = C := by omega
      have hfin := hown.as (roK_end (fun x y hx => opN_other hx))
      clear hown
      go_wp2
      go_ret
      exact WW.mk rfl hfin hgr hsz
end Go.Proofs.Ytacjonkehcamgaa

/-
  DERIVED. The struct 'work' of the program: a matrix, what is done to its rows and columns, a flag; operations on rows.
-/
namespace Go.Proofs.Ytacjonkehcamgaa
open Go.RowKit
set_option linter.unusedVariables false
set_option linter.unusedSimpArgs false
/-- Block b is a work: its matrices own their cells, no two of them the same ones. -/
structure WB (w : World) (B b R C : Nat) (f g h : Fn2) (bd : Bool) (A : Option Addr) (n cap : Nat) (A2 : Option Addr) (n2 cap2 : Nat) (A3 : Option Addr) (n3 cap3 : Nat) : Prop where
  blk : Blk w b 129 #[.int .i64 R, .int .i64 C, .slice A n cap, .int .i64 R, .int .i64 R, .slice A2 n2 cap2, .int .i64 C, .int .i64 C, .slice A3 n3 cap3, .bool bd]
  hb : B ≤ b
  m : OR w B (.slice A n cap) (tb R C f)
  l : OR w B (.slice A2 n2 cap2) (tb R R g)
  r : OR w B (.slice A3 n3 cap3) (tb C C h)
  ml : Apart (.slice A n cap) (.slice A2 n2 cap2)
  mr : Apart (.slice A n cap) (.slice A3 n3 cap3)
  lr : Apart (.slice A2 n2 cap2) (.slice A3 n3 cap3)
  mb : (Value.slice A n cap).ownBlock ≠ some b
  lb : (Value.slice A2 n2 cap2).ownBlock ≠ some b
  rb : (Value.slice A3 n3 cap3).ownBlock ≠ some b
def WK (w : World) (B b R C : Nat) (f g h : Fn2) (bd : Bool) : Prop := ∃ A n cap A2 n2 cap2 A3 n3 cap3, WB w B b R C f g h bd A n cap A2 n2 cap2 A3 n3 cap3
section
variable {w w' : World} {B b R C n cap n2 cap2 n3 cap3 : Nat} {f g h : Fn2} {bd : Bool} {A A2 A3 : Option Addr}
theorem WB.lt (k : WB w B b R C f g h bd A n cap A2 n2 cap2 A3 n3 cap3) : b < w.heap.size := k.blk.lt
theorem WB.drew (k : WB w B b R C f g h bd A n cap A2 n2 cap2 A3 n3 cap3) : WB w.drew B b R C f g h bd A n cap A2 n2 cap2 A3 n3 cap3 :=
  ⟨k.blk.drew, k.hb, k.m.drew, k.l.drew, k.r.drew, k.ml, k.mr, k.lr, k.mb, k.lb, k.rb⟩
theorem WB.drewN (k : WB w B b R C f g h bd A n cap A2 n2 cap2 A3 n3 cap3) (q : Nat) : WB (w.drewN q) B b R C f g h bd A n cap A2 n2 cap2 A3 n3 cap3 :=
  ⟨k.blk.drewN q, k.hb, k.m.drewN q, k.l.drewN q, k.r.drewN q, k.ml, k.mr, k.lr, k.mb, k.lb, k.rb⟩
theorem WB.alloc (k : WB w B b R C f g h bd A n cap A2 n2 cap2 A3 n3 cap3) (o : Obj) : WB (w.alloc o) B b R C f g h bd A n cap A2 n2 cap2 A3 n3 cap3 :=
  ⟨k.blk.alloc o, k.hb, k.m.alloc o, k.l.alloc o, k.r.alloc o, k.ml, k.mr, k.lr, k.mb, k.lb, k.rb⟩
theorem WB.below {D : Nat} (k : WB w B b R C f g h bd A n cap A2 n2 cap2 A3 n3 cap3) (hD : Below D w w') (hs : w.heap.size ≤ D) : WB w' B b R C f g h bd A n cap A2 n2 cap2 A3 n3 cap3 :=
  ⟨k.blk.below hD (by have := k.lt; omega), k.hb, k.m.below hD hs, k.l.below hD hs, k.r.below hD hs, k.ml, k.mr, k.lr, k.mb, k.lb, k.rb⟩
theorem WB.wroteM {f' : Fn2} (k : WB w B b R C f g h bd A n cap A2 n2 cap2 A3 n3 cap3) (ho : OR w' B (.slice A n cap) (tb R C f')) (hg : w.grownBy w' (Value.slice A n cap).ownBlock) : WB w' B b R C f' g h bd A n cap A2 n2 cap2 A3 n3 cap3 :=
  ⟨k.blk.grown hg (fun e => k.mb e.symm), k.hb, ho, k.l.kept hg k.ml.symm.ne, k.r.kept hg k.mr.symm.ne, k.ml, k.mr, k.lr, k.mb, k.lb, k.rb⟩
theorem WB.b_ {D : Nat} {w w' : World} {B b R C : Nat} {f g h : Fn2} {bd : Bool} {A A2 A3 : Option Addr} {n cap n2 cap2 n3 cap3 : Nat} (k : WB w B b R C f g h bd A n cap A2 n2 cap2 A3 n3 cap3) (hD : Below D w w' := by assumption) (hs : w.heap.size ≤ D := by first | omega | (simp; done) | (simp; omega)) : WB w' B b R C f g h bd A n cap A2 n2 cap2 A3 n3 cap3 := WB.below k hD hs
theorem WB.wroteL {g' : Fn2} (k : WB w B b R C f g h bd A n cap A2 n2 cap2 A3 n3 cap3) (ho : OR w' B (.slice A2 n2 cap2) (tb R R g')) (hg : w.grownBy w' (Value.slice A2 n2 cap2).ownBlock) : WB w' B b R C f g' h bd A n cap A2 n2 cap2 A3 n3 cap3 :=
  ⟨k.blk.grown hg (fun e => k.lb e.symm), k.hb, k.m.kept hg k.ml.ne, ho, k.r.kept hg k.lr.symm.ne, k.ml, k.mr, k.lr, k.mb, k.lb, k.rb⟩
theorem WB.setBad (k : WB w B b R C f g h bd A n cap A2 n2 cap2 A3 n3 cap3) : WB (w.setCell ⟨b, 9, none⟩ (.bool true)) B b R C f g h true A n cap A2 n2 cap2 A3 n3 cap3 :=
  ⟨(k.blk.set_ 9 _).as rfl, k.hb, k.m.far k.mb _, k.l.far k.lb _, k.r.far k.rb _, k.ml, k.mr, k.lr, k.mb, k.lb, k.rb⟩
theorem WB.cells (k : WB w B b R C f g h bd A n cap A2 n2 cap2 A3 n3 cap3) :
    w.cell? ⟨b, 0, none⟩ = some (.int .i64 R) ∧ w.cell? ⟨b, 1, none⟩ = some (.int .i64 C) ∧ w.cell? ⟨b, 2, none⟩ = some (.slice A n cap) ∧ w.cell? ⟨b, 3, none⟩ = some (.int .i64 R) ∧ w.cell? ⟨b, 4, none⟩ = some (.int .i64 R) ∧ w.cell? ⟨b, 5, none⟩ = some (.slice A2 n2 cap2) ∧
    w.cell? ⟨b, 6, none⟩ = some (.int .i64 C) ∧ w.cell? ⟨b, 7, none⟩ = some (.int .i64 C) ∧ w.cell? ⟨b, 8, none⟩ = some (.slice A3 n3 cap3) ∧ w.cell? ⟨b, 9, none⟩ = some (.bool bd) ∧ (∀ o, w.frozen? ⟨b, o, none⟩ = false) ∧ b < w.heap.size :=
  ⟨k.blk.cell 0, k.blk.cell 1, k.blk.cell 2, k.blk.cell 3, k.blk.cell 4, k.blk.cell 5, k.blk.cell 6, k.blk.cell 7, k.blk.cell 8, k.blk.cell 9, k.blk.frozen, k.lt⟩
theorem WB.wk (k : WB w B b R C f g h bd A n cap A2 n2 cap2 A3 n3 cap3) : WK w B b R C f g h bd := ⟨_, _, _, _, _, _, _, _, _, k⟩
theorem WB.belowM (k : WB w B b R C f g h bd A n cap A2 n2 cap2 A3 n3 cap3) (hg : w.grownBy w' (Value.slice A n cap).ownBlock) : Below B w w' := k.m.below_grown hg (by have := k.lt; have := k.hb; omega)
theorem WB.belowL (k : WB w B b R C f g h bd A n cap A2 n2 cap2 A3 n3 cap3) (hg : w.grownBy w' (Value.slice A2 n2 cap2).ownBlock) : Below B w w' := k.l.below_grown hg (by have := k.lt; have := k.hb; omega)
end
theorem WK.drew {w : World} {B b R C : Nat} {f g h : Fn2} {bd : Bool} (k : WK w B b R C f g h bd) : WK w.drew B b R C f g h bd := let ⟨_, _, _, _, _, _, _, _, _, k⟩ := k; k.drew.wk
theorem WK.alloc {w : World} {B b R C : Nat} {f g h : Fn2} {bd : Bool} (k : WK w B b R C f g h bd) (o : Obj) : WK (w.alloc o) B b R C f g h bd := let ⟨_, _, _, _, _, _, _, _, _, k⟩ := k; (k.alloc o).wk
theorem WK.below {w w' : World} {B b R C D : Nat} {f g h : Fn2} {bd : Bool} (k : WK w B b R C f g h bd) (hD : Below D w w') (hs : w.heap.size ≤ D) : WK w' B b R C f g h bd := let ⟨_, _, _, _, _, _, _, _, _, k⟩ := k; (k.below hD hs).wk
theorem below_set_at {w : World} {B b k : Nat} {u : Value} (h : B ≤ b) : Below B w (w.setCell ⟨b, k, none⟩ u) :=
  ⟨rfl, rfl, rfl, by simp [World.setCell], fun q hq => Below.heap_setCell w _ u q (by rintro rfl; exact absurd hq (by simp; omega))⟩
/-- A sum of rows as it goes in both. -/
def okA (R C : Nat) (f g : Fn2) (i j : Nat) (t : Int) : Prop := OKF R C (opA f i j t) ∧ OKF R R (opA g i j t)
def RWA (B b R C : Nat) (f g h : Fn2) (i j : Nat) (t : Int) (w : World) (e : Ending) (w' : World) : Prop :=
  e = .returned (.tuple #[]) ∧ Below B w w' ∧ ((okA R C f g i j t ∧ WK w' B b R C (opA f i j t) (opA g i j t) h false) ∨ (¬ okA R C f g i j t ∧ ∃ f' g', WK w' B b R C f' g' h true))
theorem impl_rowOp_add_yes (R C p t : Nat) (m : Int) (A : Option Addr) (n cap : Nat) (f : Fn2) (w : World) {B : Nat} (h : OR w B (.slice A n cap) (tb R C f)) (hp : p < R) (ht : t < R) (hpt : p ≠ t) (hm : Num m) (hf : OKF R C f) (hC0 : 0 < C) (hC : C ≤ 24) (hR : R ≤ 24) (hr : rowOk f p t m C) :
    Calls Try.prog 165 #[.agg #[.int .i64 R, .int .i64 C, .slice A n cap], .agg #[.int .i64 2, .int .i64 p, .int .i64 t, .int .i64 m]] w (WW (.bool true) (.slice A n cap) B (tb R C (opA f p t m)) w) :=
  (impl_rowOp_add R C p t m A n cap f w h hp ht hpt hm hf hC0 hC hR).mono fun _ _ k => k.elim (fun k => k.2) (fun k => absurd hr k.1)
theorem impl_rowOp_add_no (R C p t : Nat) (m : Int) (A : Option Addr) (n cap : Nat) (f : Fn2) (w : World) {B : Nat} (h : OR w B (.slice A n cap) (tb R C f)) (hp : p < R) (ht : t < R) (hpt : p ≠ t) (hm : Num m) (hf : OKF R C f) (hC0 : 0 < C) (hC : C ≤ 24) (hR : R ≤ 24) (hr : ¬ rowOk f p t m C) :
    Calls Try.prog 165 #[.agg #[.int .i64 R, .int .i64 C, .slice A n cap], .agg #[.int .i64 2, .int .i64 p, .int .i64 t, .int .i64 m]] w (fun e w' => ∃ f', WW (.bool false) (.slice A n cap) B (tb R C f') w e w') :=
  (impl_rowOp_add R C p t m A n cap f w h hp ht hpt hm hf hC0 hC hR).mono fun _ _ k => k.elim (fun k => absurd k.1 hr) (fun k => k.2)
set_option maxRecDepth 100000 in
set_option maxHeartbeats 4000000 in
theorem impl_rows_add (B b R C i j : Nat) (f g h : Fn2) (t : Int) (w : World) (hK : WK w B b R C f g h false) (hi : i < R) (hj : j < R) (hij : i ≠ j) (ht : Num t) (hf : OKF R C f) (hg : OKF R R g) (hC0 : 0 < C) (hC : C ≤ 24) (hR : R ≤ 24) :
    Calls Try.prog 149 #[.pointer (some ⟨b, 0, none⟩), .agg #[.int .i64 2, .int .i64 i, .int .i64 j, .int .i64 t]] w (RWA B b R C f g h i j t w) := by
  obtain ⟨A, n, cap, A2, n2, cap2, A3, n3, cap3, hW⟩ := hK
  have hBb := hW.hb
  have hbl := hW.lt
  have hbw : Below B w (w.alloc (.cells #[.int .i64 2, .int .i64 i, .int .i64 j, .int .i64 t] 66)) := by
    refine Below.mono (B := w.heap.size) ?_ (by omega)
    (repeat (first | (with_reducible (first | exact Below.refl _ _ | assumption | refine below_drewN ?_ _ | refine Below.drew ?_ | refine Below.alloc ?_ ?_ _ | refine Below.setCell ?_ ?_ _ | refine below_i ?_)) | go_size))
  have HMO : Hid ((Value.slice A n cap).ownBlock ≠ some w.heap.size) := Lib.hid (fun e => by have := (hW.m.own _ e).2; omega)
  have HLO : Hid ((Value.slice A2 n2 cap2).ownBlock ≠ some w.heap.size) := Lib.hid (fun e => by have := (hW.l.own _ e).2; omega)
  have HF := Lib.hid hf
  have HG := Lib.hid hg
  have HIJ := Lib.hid hij
  have HT := Lib.hid ht
  clear hf hg hij
  obtain ⟨c0, c1, c2, c3, c4, c5, c6, c7, c8, c9, cf, cl⟩ := hW.cells
  have hbe : (b == w.heap.size) = false := by simp; omega
  go_enter Try.func149, Try.ntmps149
  go_wp2_with fail
  have hX : Blk (w.alloc (.cells #[.int .i64 2, .int .i64 i, .int .i64 j, .int .i64 t] 66)) w.heap.size 66 #[.int .i64 2, .int .i64 i, .int .i64 j, .int .i64 t] := Blk.new _ _ _
  have x0 := hX.cell 0; have x1 := hX.cell 1; have x2 := hX.cell 2; have x3 := hX.cell 3; simp at x0 x1 x2 x3
  by_cases hr1 : rowOk f i j t C
  · by_cases hr2 : rowOk g i j t R
    · have hr1 := Lib.hid hr1
      have hr2 := Lib.hid hr2
      ((refine wp_region_held_drew (S := (fun w' => w'.cell? ⟨b, 0, none⟩ = some (.int .i64 R) ∧ w'.cell? ⟨b, 1, none⟩ = some (.int .i64 C) ∧ w'.cell? ⟨b, 2, none⟩ = some (.slice A n cap) ∧ w'.cell? ⟨b, 3, none⟩ = some (.int .i64 R) ∧ w'.cell? ⟨b, 4, none⟩ = some (.int .i64 R) ∧ w'.cell? ⟨b, 5, none⟩ = some (.slice A2 n2 cap2) ∧ w'.cell? ⟨b, 9, none⟩ = some (.bool false) ∧ w'.cell? ⟨w.heap.size, 0, none⟩ = some (.int .i64 2) ∧ w'.cell? ⟨w.heap.size, 1, none⟩ = some (.int .i64 i) ∧ w'.cell? ⟨w.heap.size, 2, none⟩ = some (.int .i64 j) ∧ w'.cell? ⟨w.heap.size, 3, none⟩ = some (.int .i64 t))) (by kernel_rfl) ?_ (fun hHeld => ?_)); ((focus ((try dsimp only); (go_keep)))); ((refine tk_ (i := 0) (v := ?_) (y := Or.inl ⟨by rfl, ?_⟩) (h := ?_); rotate_left; (focus (((intro w hSw; (try dsimp only at hSw); go_simp) <;> (try with_reducible rfl)); done)); (try simp only [Act.put, p1_, p2_, p3_]))); ((refine tk_ (i := 1) (v := ?_) (y := Or.inl ⟨by rfl, ?_⟩) (h := ?_); rotate_left; (focus (((intro w hSw; (try dsimp only at hSw); go_simp) <;> (try with_reducible rfl)); done)); (try simp only [Act.put, p1_, p2_, p3_]))); ((refine tk_ (i := 2) (v := ?_) (y := Or.inl ⟨by rfl, ?_⟩) (h := ?_); rotate_left; (focus (((intro w hSw; (try dsimp only at hSw); go_simp) <;> (try with_reducible rfl)); done)); (try simp only [Act.put, p1_, p2_, p3_]))); ((refine tk_ (i := 3) (v := ?_) (y := Or.inl ⟨by rfl, ?_⟩) (h := ?_); rotate_left; (focus (((intro w hSw; (try dsimp only at hSw); go_simp) <;> (try with_reducible rfl)); done)); (try simp only [Act.put, p1_, p2_, p3_]))); ((refine tk_ (i := 4) (v := ?_) (y := Or.inl ⟨by rfl, ?_⟩) (h := ?_); rotate_left; (focus (((intro w hSw; (try dsimp only at hSw); go_simp) <;> (try with_reducible rfl)); done)); (try simp only [Act.put, p1_, p2_, p3_]))); ((refine tk_ (i := 5) (v := ?_) (y := Or.inl ⟨by rfl, ?_⟩) (h := ?_); rotate_left; (focus (((intro w hSw; (try dsimp only at hSw); go_simp) <;> (try with_reducible rfl)); done)); (try simp only [Act.put, p1_, p2_, p3_]))); ((refine tk_ (i := 6) (v := ?_) (y := Or.inl ⟨by rfl, ?_⟩) (h := ?_); rotate_left; (focus (((intro w hSw; (try dsimp only at hSw); go_simp) <;> (try with_reducible rfl)); done)); (try simp only [Act.put, p1_, p2_, p3_]))); ((refine tk_ (i := 7) (v := ?_) (y := Or.inl ⟨by rfl, ?_⟩) (h := ?_); rotate_left; (focus (((intro w hSw; (try dsimp only at hSw); go_simp) <;> (try with_reducible rfl)); done)); (try simp only [Act.put, p1_, p2_, p3_]))); ((refine tk_ (i := 8) (v := ?_) (y := Or.inl ⟨by rfl, ?_⟩) (h := ?_); rotate_left; (focus (((intro w hSw; (try dsimp only at hSw); go_simp) <;> (try with_reducible rfl)); done)); (try simp only [Act.put, p1_, p2_, p3_]))); ((refine tk_ (i := 9) (v := ?_) (y := Or.inl ⟨by rfl, ?_⟩) (h := ?_); rotate_left; (focus (((intro w hSw; (try dsimp only at hSw); go_simp) <;> (try with_reducible rfl)); done)); (try simp only [Act.put, p1_, p2_, p3_]))); ((refine tk_ (i := 10) (v := ?_) (y := Or.inl ⟨by rfl, ?_⟩) (h := ?_); rotate_left; (focus (((intro w hSw; (try dsimp only at hSw); go_simp) <;> (try with_reducible rfl)); done)); (try simp only [Act.put, p1_, p2_, p3_]))); ((refine wpAnyH_ready (rs := [11]) (by kernel_rfl) (by simp) ?_; refine AllReadyH.cons (by simp only [e1_, e2_, e3_]; try rfl) (fun K hK => ?_) AllReadyH.nil; go_simp; (go_at_call 142; refine (impl_IsRowOp_add R i j t _ hi hj HIJ.out HT.out hR).mono ?_; rintro e w1 ⟨rfl, hb1⟩; (have hW_1 : WB w1 B b R C f g h false A n cap A2 n2 cap2 A3 n3 cap3 := by (with_reducible (repeat (first | exact hW | refine WB.b_ ?_ | refine WB.drew ?_ | refine WB.drewN ?_ _ | refine WB.alloc ?_ _)))); (have hX_1 : Blk w1 w.heap.size 66 #[.int .i64 2, .int .i64 i, .int .i64 j, .int .i64 t] := by (with_reducible (repeat (first | exact hX | refine Blk.below ?_ (by assumption) Ks | apply Blk.drew | apply Blk.drewN | apply Blk.alloc | apply Blk.set_ | apply Blk.far; rotate_left; (simp only [ne_eq]; omega); rotate_right)))); (have hbw_1 : Below B w w1 := by refine Below.trans ?_ (Below.mono hb1 (B' := B) ?_); (first | exact hbw | exact Below.drew hbw); (try simp); omega); (have hsz := hb1.size); (try simp at hsz); clear hb1; clear hW hX hbw; clear c0 c1 c2 c3 c4 c5 c6 c7 c8 c9 cf cl; clear x0 x1 x2 x3; have hW := hW_1; have hX := hX_1; have hbw := hbw_1; clear hW_1 hX_1 hbw_1; obtain ⟨c0, c1, c2, c3, c4, c5, c6, c7, c8, c9, cf, cl⟩ := hW.cells; have x0 := hX.cell 0; have x1 := hX.cell 1; have x2 := hX.cell 2; have x3 := hX.cell 3; simp at x0 x1 x2 x3); (try go_wp2_with fail); refine hK.out _ _ ?_ (fun hHeld => ?_); (focus ((try dsimp only); (go_keep))); clear hK K; (try simp only [Act.put, p1_, p2_, p3_]))); ((refine tk_ (i := 12) (v := ?_) (y := Or.inl ⟨by rfl, ?_⟩) (h := ?_); rotate_left; (focus (((intro w hSw; (try dsimp only at hSw); go_simp) <;> (try with_reducible rfl)); done)); (try simp only [Act.put, p1_, p2_, p3_]))); ((refine tk_ (i := 13) (v := ?_) (y := Or.inl ⟨by rfl, ?_⟩) (h := ?_); rotate_left; (focus (((intro w hSw; (try dsimp only at hSw); go_simp) <;> (try with_reducible rfl)); done)); (try simp only [Act.put, p1_, p2_, p3_]))); ((refine tk_ (i := 14) (v := ?_) (y := Or.inl ⟨by rfl, ?_⟩) (h := ?_); rotate_left; (focus (((intro w hSw; (try dsimp only at hSw); go_simp) <;> (try with_reducible rfl)); done)); (try simp only [Act.put, p1_, p2_, p3_]))); ((refine tk_ (i := 15) (v := ?_) (y := Or.inl ⟨by rfl, ?_⟩) (h := ?_); rotate_left; (focus (((intro w hSw; (try dsimp only at hSw); go_simp) <;> (try with_reducible rfl)); done)); (try simp only [Act.put, p1_, p2_, p3_]))); ((refine tk_ (i := 16) (v := ?_) (y := Or.inl ⟨by rfl, ?_⟩) (h := ?_); rotate_left; (focus (((intro w hSw; (try dsimp only at hSw); go_simp) <;> (try with_reducible rfl)); done)); (try simp only [Act.put, p1_, p2_, p3_]))); ((refine tk_ (i := 17) (v := ?_) (y := Or.inl ⟨by rfl, ?_⟩) (h := ?_); rotate_left; (focus (((intro w hSw; (try dsimp only at hSw); go_simp) <;> (try with_reducible rfl)); done)); (try simp only [Act.put, p1_, p2_, p3_]))); ((refine tk_ (i := 18) (v := ?_) (y := Or.inl ⟨by rfl, ?_⟩) (h := ?_); rotate_left; (focus (((intro w hSw; (try dsimp only at hSw); go_simp) <;> (try with_reducible rfl)); done)); (try simp only [Act.put, p1_, p2_, p3_]))); ((refine tk_ (i := 19) (v := ?_) (y := Or.inl ⟨by rfl, ?_⟩) (h := ?_); rotate_left; (focus (((intro w hSw; (try dsimp only at hSw); go_simp) <;> (try with_reducible rfl)); done)); (try simp only [Act.put, p1_, p2_, p3_]))); ((refine wpAnyH_ready (rs := [20]) (by kernel_rfl) (by simp) ?_; refine AllReadyH.cons (by simp only [e1_, e2_, e3_]; try rfl) (fun K hK => ?_) AllReadyH.nil; go_simp; (go_at_call 165; refine (impl_rowOp_add_yes R C i j t A n cap f _ (B := B) (by have hm := hW.m; (with_reducible (repeat (first | exact hm | refine OR.drew ?_ | refine OR.drewN ?_ _ | refine OR.alloc ?_ _ | refine OR.b_ ?_ | refine OR.l_ ?_)))) hi hj HIJ.out HT.out HF.out hC0 hC hR hr1.out).mono ?_; rintro e w2 ⟨rfl, hown2, hgr2, hs2⟩; (have hW_1 := hW.wroteM hown2 hgr2; have hX_1 := hX.grown hgr2 (fun e => HMO.out e.symm); have hbw_1 := hbw.trans (hW.belowM hgr2); clear hown2 hgr2; clear hW hX hbw; clear c0 c1 c2 c3 c4 c5 c6 c7 c8 c9 cf cl; clear x0 x1 x2 x3; have hW := hW_1; have hX := hX_1; have hbw := hbw_1; clear hW_1 hX_1 hbw_1; obtain ⟨c0, c1, c2, c3, c4, c5, c6, c7, c8, c9, cf, cl⟩ := hW.cells; have x0 := hX.cell 0; have x1 := hX.cell 1; have x2 := hX.cell 2; have x3 := hX.cell 3; simp at x0 x1 x2 x3)); (try go_wp2_with fail); refine hK.out _ _ ?_ (fun hHeld => ?_); (focus ((try dsimp only); (go_keep))); clear hK K; (try simp only [Act.put, p1_, p2_, p3_]))); ((refine tk_ (i := 21) (v := ?_) (y := Or.inl ⟨by rfl, ?_⟩) (h := ?_); rotate_left; (focus (((intro w hSw; (try dsimp only at hSw); go_simp) <;> (try with_reducible rfl)); done)); (try simp only [Act.put, p1_, p2_, p3_]))); ((refine tk_ (i := 22) (v := ?_) (y := Or.inl ⟨by rfl, ?_⟩) (h := ?_); rotate_left; (focus (((intro w hSw; (try dsimp only at hSw); go_simp) <;> (try with_reducible rfl)); done)); (try simp only [Act.put, p1_, p2_, p3_]))); ((refine tk_ (i := 23) (v := ?_) (y := Or.inl ⟨by rfl, ?_⟩) (h := ?_); rotate_left; (focus (((intro w hSw; (try dsimp only at hSw); go_simp) <;> (try with_reducible rfl)); done)); (try simp only [Act.put, p1_, p2_, p3_]))); ((refine tk_ (i := 24) (v := ?_) (y := Or.inl ⟨by rfl, ?_⟩) (h := ?_); rotate_left; (focus (((intro w hSw; (try dsimp only at hSw); go_simp) <;> (try with_reducible rfl)); done)); (try simp only [Act.put, p1_, p2_, p3_]))); ((refine tk_ (i := 25) (v := ?_) (y := Or.inl ⟨by rfl, ?_⟩) (h := ?_); rotate_left; (focus (((intro w hSw; (try dsimp only at hSw); go_simp) <;> (try with_reducible rfl)); done)); (try simp only [Act.put, p1_, p2_, p3_]))); ((refine tk_ (i := 26) (v := ?_) (y := Or.inl ⟨by rfl, ?_⟩) (h := ?_); rotate_left; (focus (((intro w hSw; (try dsimp only at hSw); go_simp) <;> (try with_reducible rfl)); done)); (try simp only [Act.put, p1_, p2_, p3_]))); ((refine tk_ (i := 27) (v := ?_) (y := Or.inl ⟨by rfl, ?_⟩) (h := ?_); rotate_left; (focus (((intro w hSw; (try dsimp only at hSw); go_simp) <;> (try with_reducible rfl)); done)); (try simp only [Act.put, p1_, p2_, p3_]))); ((refine tk_ (i := 28) (v := ?_) (y := Or.inl ⟨by rfl, ?_⟩) (h := ?_); rotate_left; (focus (((intro w hSw; (try dsimp only at hSw); go_simp) <;> (try with_reducible rfl)); done)); (try simp only [Act.put, p1_, p2_, p3_]))); ((refine wpAnyH_ready (rs := [29]) (by kernel_rfl) (by simp) ?_; refine AllReadyH.cons (by simp only [e1_, e2_, e3_]; try rfl) (fun K hK => ?_) AllReadyH.nil; go_simp; (go_at_call 165; refine (impl_rowOp_add_yes R R i j t A2 n2 cap2 g _ (B := B) (by have hm := hW.l; (with_reducible (repeat (first | exact hm | refine OR.drew ?_ | refine OR.drewN ?_ _ | refine OR.alloc ?_ _ | refine OR.b_ ?_ | refine OR.l_ ?_)))) hi hj HIJ.out HT.out HG.out (by omega) (by omega) hR hr2.out).mono ?_; rintro e w2 ⟨rfl, hown2, hgr2, hs2⟩; (have hW_1 := hW.wroteL hown2 hgr2; have hX_1 := hX.grown hgr2 (fun e => HLO.out e.symm); have hbw_1 := hbw.trans (hW.belowL hgr2); clear hown2 hgr2; clear hW hX hbw; clear c0 c1 c2 c3 c4 c5 c6 c7 c8 c9 cf cl; clear x0 x1 x2 x3; have hW := hW_1; have hX := hX_1; have hbw := hbw_1; clear hW_1 hX_1 hbw_1; obtain ⟨c0, c1, c2, c3, c4, c5, c6, c7, c8, c9, cf, cl⟩ := hW.cells; have x0 := hX.cell 0; have x1 := hX.cell 1; have x2 := hX.cell 2; have x3 := hX.cell 3; simp at x0 x1 x2 x3)); (try go_wp2_with fail); refine hK.out _ _ ?_ (fun hHeld => ?_); (focus ((try dsimp only); (go_keep))); clear hK K; (try simp only [Act.put, p1_, p2_, p3_]))); ((refine tk_ (i := 30) (v := ?_) (y := Or.inl ⟨by rfl, ?_⟩) (h := ?_); rotate_left; (focus (((intro w hSw; (try dsimp only at hSw); go_simp) <;> (try with_reducible rfl)); done)); (try simp only [Act.put, p1_, p2_, p3_]))); ((refine tk_ (i := 31) (v := ?_) (y := Or.inl ⟨by rfl, ?_⟩) (h := ?_); rotate_left; (focus (((intro w hSw; (try dsimp only at hSw); go_simp) <;> (try with_reducible rfl)); done)); (try simp only [Act.put, p1_, p2_, p3_]))); (refine wpAnyH_done (by kernel_rfl) ?_ _))
      go_wp2_with fail
      go_end0
      exact ⟨rfl, hbw, .inl ⟨⟨(rowOk_iff HF.out hi hj HT.out).1 hr1.out, (rowOk_iff HG.out hi hj HT.out).1 hr2.out⟩, hW.wk⟩⟩
    · have hr1 := Lib.hid hr1
      have hr2 := Lib.hid hr2
      ((refine wp_region_held_drew (S := (fun w' => w'.cell? ⟨b, 0, none⟩ = some (.int .i64 R) ∧ w'.cell? ⟨b, 1, none⟩ = some (.int .i64 C) ∧ w'.cell? ⟨b, 2, none⟩ = some (.slice A n cap) ∧ w'.cell? ⟨b, 3, none⟩ = some (.int .i64 R) ∧ w'.cell? ⟨b, 4, none⟩ = some (.int .i64 R) ∧ w'.cell? ⟨b, 5, none⟩ = some (.slice A2 n2 cap2) ∧ w'.cell? ⟨b, 9, none⟩ = some (.bool false) ∧ w'.cell? ⟨w.heap.size, 0, none⟩ = some (.int .i64 2) ∧ w'.cell? ⟨w.heap.size, 1, none⟩ = some (.int .i64 i) ∧ w'.cell? ⟨w.heap.size, 2, none⟩ = some (.int .i64 j) ∧ w'.cell? ⟨w.heap.size, 3, none⟩ = some (.int .i64 t))) (by kernel_rfl) ?_ (fun hHeld => ?_)); ((focus ((try dsimp only); (go_keep)))); ((refine tk_ (i := 0) (v := ?_) (y := Or.inl ⟨by rfl, ?_⟩) (h := ?_); rotate_left; (focus (((intro w hSw; (try dsimp only at hSw); go_simp) <;> (try with_reducible rfl)); done)); (try simp only [Act.put, p1_, p2_, p3_]))); ((refine tk_ (i := 1) (v := ?_) (y := Or.inl ⟨by rfl, ?_⟩) (h := ?_); rotate_left; (focus (((intro w hSw; (try dsimp only at hSw); go_simp) <;> (try with_reducible rfl)); done)); (try simp only [Act.put, p1_, p2_, p3_]))); ((refine tk_ (i := 2) (v := ?_) (y := Or.inl ⟨by rfl, ?_⟩) (h := ?_); rotate_left; (focus (((intro w hSw; (try dsimp only at hSw); go_simp) <;> (try with_reducible rfl)); done)); (try simp only [Act.put, p1_, p2_, p3_]))); ((refine tk_ (i := 3) (v := ?_) (y := Or.inl ⟨by rfl, ?_⟩) (h := ?_); rotate_left; (focus (((intro w hSw; (try dsimp only at hSw); go_simp) <;> (try with_reducible rfl)); done)); (try simp only [Act.put, p1_, p2_, p3_]))); ((refine tk_ (i := 4) (v := ?_) (y := Or.inl ⟨by rfl, ?_⟩) (h := ?_); rotate_left; (focus (((intro w hSw; (try dsimp only at hSw); go_simp) <;> (try with_reducible rfl)); done)); (try simp only [Act.put, p1_, p2_, p3_]))); ((refine tk_ (i := 5) (v := ?_) (y := Or.inl ⟨by rfl, ?_⟩) (h := ?_); rotate_left; (focus (((intro w hSw; (try dsimp only at hSw); go_simp) <;> (try with_reducible rfl)); done)); (try simp only [Act.put, p1_, p2_, p3_]))); ((refine tk_ (i := 6) (v := ?_) (y := Or.inl ⟨by rfl, ?_⟩) (h := ?_); rotate_left; (focus (((intro w hSw; (try dsimp only at hSw); go_simp) <;> (try with_reducible rfl)); done)); (try simp only [Act.put, p1_, p2_, p3_]))); ((refine tk_ (i := 7) (v := ?_) (y := Or.inl ⟨by rfl, ?_⟩) (h := ?_); rotate_left; (focus (((intro w hSw; (try dsimp only at hSw); go_simp) <;> (try with_reducible rfl)); done)); (try simp only [Act.put, p1_, p2_, p3_]))); ((refine tk_ (i := 8) (v := ?_) (y := Or.inl ⟨by rfl, ?_⟩) (h := ?_); rotate_left; (focus (((intro w hSw; (try dsimp only at hSw); go_simp) <;> (try with_reducible rfl)); done)); (try simp only [Act.put, p1_, p2_, p3_]))); ((refine tk_ (i := 9) (v := ?_) (y := Or.inl ⟨by rfl, ?_⟩) (h := ?_); rotate_left; (focus (((intro w hSw; (try dsimp only at hSw); go_simp) <;> (try with_reducible rfl)); done)); (try simp only [Act.put, p1_, p2_, p3_]))); ((refine tk_ (i := 10) (v := ?_) (y := Or.inl ⟨by rfl, ?_⟩) (h := ?_); rotate_left; (focus (((intro w hSw; (try dsimp only at hSw); go_simp) <;> (try with_reducible rfl)); done)); (try simp only [Act.put, p1_, p2_, p3_]))); ((refine wpAnyH_ready (rs := [11]) (by kernel_rfl) (by simp) ?_; refine AllReadyH.cons (by simp only [e1_, e2_, e3_]; try rfl) (fun K hK => ?_) AllReadyH.nil; go_simp; (go_at_call 142; refine (impl_IsRowOp_add R i j t _ hi hj HIJ.out HT.out hR).mono ?_; rintro e w1 ⟨rfl, hb1⟩; (have hW_1 : WB w1 B b R C f g h false A n cap A2 n2 cap2 A3 n3 cap3 := by (with_reducible (repeat (first | exact hW | refine WB.b_ ?_ | refine WB.drew ?_ | refine WB.drewN ?_ _ | refine WB.alloc ?_ _)))); (have hX_1 : Blk w1 w.heap.size 66 #[.int .i64 2, .int .i64 i, .int .i64 j, .int .i64 t] := by (with_reducible (repeat (first | exact hX | refine Blk.below ?_ (by assumption) Ks | apply Blk.drew | apply Blk.drewN | apply Blk.alloc | apply Blk.set_ | apply Blk.far; rotate_left; (simp only [ne_eq]; omega); rotate_right)))); (have hbw_1 : Below B w w1 := by refine Below.trans ?_ (Below.mono hb1 (B' := B) ?_); (first | exact hbw | exact Below.drew hbw); (try simp); omega); (have hsz := hb1.size); (try simp at hsz); clear hb1; clear hW hX hbw; clear c0 c1 c2 c3 c4 c5 c6 c7 c8 c9 cf cl; clear x0 x1 x2 x3; have hW := hW_1; have hX := hX_1; have hbw := hbw_1; clear hW_1 hX_1 hbw_1; obtain ⟨c0, c1, c2, c3, c4, c5, c6, c7, c8, c9, cf, cl⟩ := hW.cells; have x0 := hX.cell 0; have x1 := hX.cell 1; have x2 := hX.cell 2; have x3 := hX.cell 3; simp at x0 x1 x2 x3); (try go_wp2_with fail); refine hK.out _ _ ?_ (fun hHeld => ?_); (focus ((try dsimp only); (go_keep))); clear hK K; (try simp only [Act.put, p1_, p2_, p3_]))); ((refine tk_ (i := 12) (v := ?_) (y := Or.inl ⟨by rfl, ?_⟩) (h := ?_); rotate_left; (focus (((intro w hSw; (try dsimp only at hSw); go_simp) <;> (try with_reducible rfl)); done)); (try simp only [Act.put, p1_, p2_, p3_]))); ((refine tk_ (i := 13) (v := ?_) (y := Or.inl ⟨by rfl, ?_⟩) (h := ?_); rotate_left; (focus (((intro w hSw; (try dsimp only at hSw); go_simp) <;> (try with_reducible rfl)); done)); (try simp only [Act.put, p1_, p2_, p3_]))); ((refine tk_ (i := 14) (v := ?_) (y := Or.inl ⟨by rfl, ?_⟩) (h := ?_); rotate_left; (focus (((intro w hSw; (try dsimp only at hSw); go_simp) <;> (try with_reducible rfl)); done)); (try simp only [Act.put, p1_, p2_, p3_]))); ((refine tk_ (i := 15) (v := ?_) (y := Or.inl ⟨by rfl, ?_⟩) (h := ?_); rotate_left; (focus (((intro w hSw; (try dsimp only at hSw); go_simp) <;> (try with_reducible rfl)); done)); (try simp only [Act.put, p1_, p2_, p3_]))); ((refine tk_ (i := 16) (v := ?_) (y := Or.inl ⟨by rfl, ?_⟩) (h := ?_); rotate_left; (focus (((intro w hSw; (try dsimp only at hSw); go_simp) <;> (try with_reducible rfl)); done)); (try simp only [Act.put, p1_, p2_, p3_]))); ((refine tk_ (i := 17) (v := ?_) (y := Or.inl ⟨by rfl, ?_⟩) (h := ?_); rotate_left; (focus (((intro w hSw; (try dsimp only at hSw); go_simp) <;> (try with_reducible rfl)); done)); (try simp only [Act.put, p1_, p2_, p3_]))); ((refine tk_ (i := 18) (v := ?_) (y := Or.inl ⟨by rfl, ?_⟩) (h := ?_); rotate_left; (focus (((intro w hSw; (try dsimp only at hSw); go_simp) <;> (try with_reducible rfl)); done)); (try simp only [Act.put, p1_, p2_, p3_]))); ((refine tk_ (i := 19) (v := ?_) (y := Or.inl ⟨by rfl, ?_⟩) (h := ?_); rotate_left; (focus (((intro w hSw; (try dsimp only at hSw); go_simp) <;> (try with_reducible rfl)); done)); (try simp only [Act.put, p1_, p2_, p3_]))); ((refine wpAnyH_ready (rs := [20]) (by kernel_rfl) (by simp) ?_; refine AllReadyH.cons (by simp only [e1_, e2_, e3_]; try rfl) (fun K hK => ?_) AllReadyH.nil; go_simp; (go_at_call 165; refine (impl_rowOp_add_yes R C i j t A n cap f _ (B := B) (by have hm := hW.m; (with_reducible (repeat (first | exact hm | refine OR.drew ?_ | refine OR.drewN ?_ _ | refine OR.alloc ?_ _ | refine OR.b_ ?_ | refine OR.l_ ?_)))) hi hj HIJ.out HT.out HF.out hC0 hC hR hr1.out).mono ?_; rintro e w2 ⟨rfl, hown2, hgr2, hs2⟩; (have hW_1 := hW.wroteM hown2 hgr2; have hX_1 := hX.grown hgr2 (fun e => HMO.out e.symm); have hbw_1 := hbw.trans (hW.belowM hgr2); clear hown2 hgr2; clear hW hX hbw; clear c0 c1 c2 c3 c4 c5 c6 c7 c8 c9 cf cl; clear x0 x1 x2 x3; have hW := hW_1; have hX := hX_1; have hbw := hbw_1; clear hW_1 hX_1 hbw_1; obtain ⟨c0, c1, c2, c3, c4, c5, c6, c7, c8, c9, cf, cl⟩ := hW.cells; have x0 := hX.cell 0; have x1 := hX.cell 1; have x2 := hX.cell 2; have x3 := hX.cell 3; simp at x0 x1 x2 x3)); (try go_wp2_with fail); refine hK.out _ _ ?_ (fun hHeld => ?_); (focus ((try dsimp only); (go_keep))); clear hK K; (try simp only [Act.put, p1_, p2_, p3_]))); ((refine tk_ (i := 21) (v := ?_) (y := Or.inl ⟨by rfl, ?_⟩) (h := ?_); rotate_left; (focus (((intro w hSw; (try dsimp only at hSw); go_simp) <;> (try with_reducible rfl)); done)); (try simp only [Act.put, p1_, p2_, p3_]))); ((refine tk_ (i := 22) (v := ?_) (y := Or.inl ⟨by rfl, ?_⟩) (h := ?_); rotate_left; (focus (((intro w hSw; (try dsimp only at hSw); go_simp) <;> (try with_reducible rfl)); done)); (try simp only [Act.put, p1_, p2_, p3_]))); ((refine tk_ (i := 23) (v := ?_) (y := Or.inl ⟨by rfl, ?_⟩) (h := ?_); rotate_left; (focus (((intro w hSw; (try dsimp only at hSw); go_simp) <;> (try with_reducible rfl)); done)); (try simp only [Act.put, p1_, p2_, p3_]))); ((refine tk_ (i := 24) (v := ?_) (y := Or.inl ⟨by rfl, ?_⟩) (h := ?_); rotate_left; (focus (((intro w hSw; (try dsimp only at hSw); go_simp) <;> (try with_reducible rfl)); done)); (try simp only [Act.put, p1_, p2_, p3_]))); ((refine tk_ (i := 25) (v := ?_) (y := Or.inl ⟨by rfl, ?_⟩) (h := ?_); rotate_left; (focus (((intro w hSw; (try dsimp only at hSw); go_simp) <;> (try with_reducible rfl)); done)); (try simp only [Act.put, p1_, p2_, p3_]))); ((refine tk_ (i := 26) (v := ?_) (y := Or.inl ⟨by rfl, ?_⟩) (h := ?_); rotate_left; (focus (((intro w hSw; (try dsimp only at hSw); go_simp) <;> (try with_reducible rfl)); done)); (try simp only [Act.put, p1_, p2_, p3_]))); ((refine tk_ (i := 27) (v := ?_) (y := Or.inl ⟨by rfl, ?_⟩) (h := ?_); rotate_left; (focus (((intro w hSw; (try dsimp only at hSw); go_simp) <;> (try with_reducible rfl)); done)); (try simp only [Act.put, p1_, p2_, p3_]))); ((refine tk_ (i := 28) (v := ?_) (y := Or.inl ⟨by rfl, ?_⟩) (h := ?_); rotate_left; (focus (((intro w hSw; (try dsimp only at hSw); go_simp) <;> (try with_reducible rfl)); done)); (try simp only [Act.put, p1_, p2_, p3_]))); ((refine wpAnyH_ready (rs := [29]) (by kernel_rfl) (by simp) ?_; refine AllReadyH.cons (by simp only [e1_, e2_, e3_]; try rfl) (fun K hK => ?_) AllReadyH.nil; go_simp; (go_at_call 165; refine (impl_rowOp_add_no R R i j t A2 n2 cap2 g _ (B := B) (by have hm := hW.l; (with_reducible (repeat (first | exact hm | refine OR.drew ?_ | refine OR.drewN ?_ _ | refine OR.alloc ?_ _ | refine OR.b_ ?_ | refine OR.l_ ?_)))) hi hj HIJ.out HT.out HG.out (by omega) (by omega) hR hr2.out).mono ?_; rintro e w2 ⟨g', rfl, hown2, hgr2, hs2⟩; (have hW_1 := hW.wroteL hown2 hgr2; have hX_1 := hX.grown hgr2 (fun e => HLO.out e.symm); have hbw_1 := hbw.trans (hW.belowL hgr2); clear hown2 hgr2; clear hW hX hbw; clear c0 c1 c2 c3 c4 c5 c6 c7 c8 c9 cf cl; clear x0 x1 x2 x3; have hW := hW_1; have hX := hX_1; have hbw := hbw_1; clear hW_1 hX_1 hbw_1; obtain ⟨c0, c1, c2, c3, c4, c5, c6, c7, c8, c9, cf, cl⟩ := hW.cells; have x0 := hX.cell 0; have x1 := hX.cell 1; have x2 := hX.cell 2; have x3 := hX.cell 3; simp at x0 x1 x2 x3)); (try go_wp2_with fail); refine hK.out _ _ ?_ (fun hHeld => ?_); (focus ((try dsimp only); (go_keep))); clear hK K; (try simp only [Act.put, p1_, p2_, p3_]))); ((refine tk_ (i := 30) (v := ?_) (y := Or.inl ⟨by rfl, ?_⟩) (h := ?_); rotate_left; (focus (((intro w hSw; (try dsimp only at hSw); go_simp) <;> (try with_reducible rfl)); done)); (try simp only [Act.put, p1_, p2_, p3_]))); ((refine tk_ (i := 31) (v := ?_) (y := Or.inl ⟨by rfl, ?_⟩) (h := ?_); rotate_left; (focus (((intro w hSw; (try dsimp only at hSw); go_simp) <;> (try with_reducible rfl)); done)); (try simp only [Act.put, p1_, p2_, p3_]))); (refine wpAnyH_done (by kernel_rfl) ?_ _))
      go_wp2_with fail
      go_end0
      exact ⟨rfl, hbw.trans (below_set_at hW.hb), .inr ⟨fun k => hr2.out ((rowOk_iff HG.out hi hj HT.out).2 k.2), _, _, hW.setBad.wk⟩⟩
  · have hr1 := Lib.hid hr1
    ((refine wp_region_held_drew (S := (fun w' => w'.cell? ⟨b, 0, none⟩ = some (.int .i64 R) ∧ w'.cell? ⟨b, 1, none⟩ = some (.int .i64 C) ∧ w'.cell? ⟨b, 2, none⟩ = some (.slice A n cap) ∧ w'.cell? ⟨b, 3, none⟩ = some (.int .i64 R) ∧ w'.cell? ⟨b, 4, none⟩ = some (.int .i64 R) ∧ w'.cell? ⟨b, 5, none⟩ = some (.slice A2 n2 cap2) ∧ w'.cell? ⟨b, 9, none⟩ = some (.bool false) ∧ w'.cell? ⟨w.heap.size, 0, none⟩ = some (.int .i64 2) ∧ w'.cell? ⟨w.heap.size, 1, none⟩ = some (.int .i64 i) ∧ w'.cell? ⟨w.heap.size, 2, none⟩ = some (.int .i64 j) ∧ w'.cell? ⟨w.heap.size, 3, none⟩ = some (.int .i64 t))) (by kernel_rfl) ?_ (fun hHeld => ?_)); ((focus ((try dsimp only); (go_keep)))); ((refine tk_ (i := 0) (v := ?_) (y := Or.inl ⟨by rfl, ?_⟩) (h := ?_); rotate_left; (focus (((intro w hSw; (try dsimp only at hSw); go_simp) <;> (try with_reducible rfl)); done)); (try simp only [Act.put, p1_, p2_, p3_]))); ((refine tk_ (i := 1) (v := ?_) (y := Or.inl ⟨by rfl, ?_⟩) (h := ?_); rotate_left; (focus (((intro w hSw; (try dsimp only at hSw); go_simp) <;> (try with_reducible rfl)); done)); (try simp only [Act.put, p1_, p2_, p3_]))); ((refine tk_ (i := 2) (v := ?_) (y := Or.inl ⟨by rfl, ?_⟩) (h := ?_); rotate_left; (focus (((intro w hSw; (try dsimp only at hSw); go_simp) <;> (try with_reducible rfl)); done)); (try simp only [Act.put, p1_, p2_, p3_]))); ((refine tk_ (i := 3) (v := ?_) (y := Or.inl ⟨by rfl, ?_⟩) (h := ?_); rotate_left; (focus (((intro w hSw; (try dsimp only at hSw); go_simp) <;> (try with_reducible rfl)); done)); (try simp only [Act.put, p1_, p2_, p3_]))); ((refine tk_ (i := 4) (v := ?_) (y := Or.inl ⟨by rfl, ?_⟩) (h := ?_); rotate_left; (focus (((intro w hSw; (try dsimp only at hSw); go_simp) <;> (try with_reducible rfl)); done)); (try simp only [Act.put, p1_, p2_, p3_]))); ((refine tk_ (i := 5) (v := ?_) (y := Or.inl ⟨by rfl, ?_⟩) (h := ?_); rotate_left; (focus (((intro w hSw; (try dsimp only at hSw); go_simp) <;> (try with_reducible rfl)); done)); (try simp only [Act.put, p1_, p2_, p3_]))); ((refine tk_ (i := 6) (v := ?_) (y := Or.inl ⟨by rfl, ?_⟩) (h := ?_); rotate_left; (focus (((intro w hSw; (try dsimp only at hSw); go_simp) <;> (try with_reducible rfl)); done)); (try simp only [Act.put, p1_, p2_, p3_]))); ((refine tk_ (i := 7) (v := ?_) (y := Or.inl ⟨by rfl, ?_⟩) (h := ?_); rotate_left; (focus (((intro w hSw; (try dsimp only at hSw); go_simp) <;> (try with_reducible rfl)); done)); (try simp only [Act.put, p1_, p2_, p3_]))); ((refine tk_ (i := 8) (v := ?_) (y := Or.inl ⟨by rfl, ?_⟩) (h := ?_); rotate_left; (focus (((intro w hSw; (try dsimp only at hSw); go_simp) <;> (try with_reducible rfl)); done)); (try simp only [Act.put, p1_, p2_, p3_]))); ((refine tk_ (i := 9) (v := ?_) (y := Or.inl ⟨by rfl, ?_⟩) (h := ?_); rotate_left; (focus (((intro w hSw; (try dsimp only at hSw); go_simp) <;> (try with_reducible rfl)); done)); (try simp only [Act.put, p1_, p2_, p3_]))); ((refine tk_ (i := 10) (v := ?_) (y := Or.inl ⟨by rfl, ?_⟩) (h := ?_); rotate_left; (focus (((intro w hSw; (try dsimp only at hSw); go_simp) <;> (try with_reducible rfl)); done)); (try simp only [Act.put, p1_, p2_, p3_]))); ((refine wpAnyH_ready (rs := [11]) (by kernel_rfl) (by simp) ?_; refine AllReadyH.cons (by simp only [e1_, e2_, e3_]; try rfl) (fun K hK => ?_) AllReadyH.nil; go_simp; (go_at_call 142; refine (impl_IsRowOp_add R i j t _ hi hj HIJ.out HT.out hR).mono ?_; rintro e w1 ⟨rfl, hb1⟩; (have hW_1 : WB w1 B b R C f g h false A n cap A2 n2 cap2 A3 n3 cap3 := by (with_reducible (repeat (first | exact hW | refine WB.b_ ?_ | refine WB.drew ?_ | refine WB.drewN ?_ _ | refine WB.alloc ?_ _)))); (have hX_1 : Blk w1 w.heap.size 66 #[.int .i64 2, .int .i64 i, .int .i64 j, .int .i64 t] := by (with_reducible (repeat (first | exact hX | refine Blk.below ?_ (by assumption) Ks | apply Blk.drew | apply Blk.drewN | apply Blk.alloc | apply Blk.set_ | apply Blk.far; rotate_left; (simp only [ne_eq]; omega); rotate_right)))); (have hbw_1 : Below B w w1 := by refine Below.trans ?_ (Below.mono hb1 (B' := B) ?_); (first | exact hbw | exact Below.drew hbw); (try simp); omega); (have hsz := hb1.size); (try simp at hsz); clear hb1; clear hW hX hbw; clear c0 c1 c2 c3 c4 c5 c6 c7 c8 c9 cf cl; clear x0 x1 x2 x3; have hW := hW_1; have hX := hX_1; have hbw := hbw_1; clear hW_1 hX_1 hbw_1; obtain ⟨c0, c1, c2, c3, c4, c5, c6, c7, c8, c9, cf, cl⟩ := hW.cells; have x0 := hX.cell 0; have x1 := hX.cell 1; have x2 := hX.cell 2; have x3 := hX.cell 3; simp at x0 x1 x2 x3); (try go_wp2_with fail); refine hK.out _ _ ?_ (fun hHeld => ?_); (focus ((try dsimp only); (go_keep))); clear hK K; (try simp only [Act.put, p1_, p2_, p3_]))); ((refine tk_ (i := 12) (v := ?_) (y := Or.inl ⟨by rfl, ?_⟩) (h := ?_); rotate_left; (focus (((intro w hSw; (try dsimp only at hSw); go_simp) <;> (try with_reducible rfl)); done)); (try simp only [Act.put, p1_, p2_, p3_]))); ((refine tk_ (i := 13) (v := ?_) (y := Or.inl ⟨by rfl, ?_⟩) (h := ?_); rotate_left; (focus (((intro w hSw; (try dsimp only at hSw); go_simp) <;> (try with_reducible rfl)); done)); (try simp only [Act.put, p1_, p2_, p3_]))); ((refine tk_ (i := 14) (v := ?_) (y := Or.inl ⟨by rfl, ?_⟩) (h := ?_); rotate_left; (focus (((intro w hSw; (try dsimp only at hSw); go_simp) <;> (try with_reducible rfl)); done)); (try simp only [Act.put, p1_, p2_, p3_]))); ((refine tk_ (i := 15) (v := ?_) (y := Or.inl ⟨by rfl, ?_⟩) (h := ?_); rotate_left; (focus (((intro w hSw; (try dsimp only at hSw); go_simp) <;> (try with_reducible rfl)); done)); (try simp only [Act.put, p1_, p2_, p3_]))); ((refine tk_ (i := 16) (v := ?_) (y := Or.inl ⟨by rfl, ?_⟩) (h := ?_); rotate_left; (focus (((intro w hSw; (try dsimp only at hSw); go_simp) <;> (try with_reducible rfl)); done)); (try simp only [Act.put, p1_, p2_, p3_]))); ((refine tk_ (i := 17) (v := ?_) (y := Or.inl ⟨by rfl, ?_⟩) (h := ?_); rotate_left; (focus (((intro w hSw; (try dsimp only at hSw); go_simp) <;> (try with_reducible rfl)); done)); (try simp only [Act.put, p1_, p2_, p3_]))); ((refine tk_ (i := 18) (v := ?_) (y := Or.inl ⟨by rfl, ?_⟩) (h := ?_); rotate_left; (focus (((intro w hSw; (try dsimp only at hSw); go_simp) <;> (try with_reducible rfl)); done)); (try simp only [Act.put, p1_, p2_, p3_]))); ((refine tk_ (i := 19) (v := ?_) (y := Or.inl ⟨by rfl, ?_⟩) (h := ?_); rotate_left; (focus (((intro w hSw; (try dsimp only at hSw); go_simp) <;> (try with_reducible rfl)); done)); (try simp only [Act.put, p1_, p2_, p3_]))); ((refine wpAnyH_ready (rs := [20]) (by kernel_rfl) (by simp) ?_; refine AllReadyH.cons (by simp only [e1_, e2_, e3_]; try rfl) (fun K hK => ?_) AllReadyH.nil; go_simp; (go_at_call 165; refine (impl_rowOp_add_no R C i j t A n cap f _ (B := B) (by have hm := hW.m; (with_reducible (repeat (first | exact hm | refine OR.drew ?_ | refine OR.drewN ?_ _ | refine OR.alloc ?_ _ | refine OR.b_ ?_ | refine OR.l_ ?_)))) hi hj HIJ.out HT.out HF.out hC0 hC hR hr1.out).mono ?_; rintro e w2 ⟨f', rfl, hown2, hgr2, hs2⟩; (have hW_1 := hW.wroteM hown2 hgr2; have hX_1 := hX.grown hgr2 (fun e => HMO.out e.symm); have hbw_1 := hbw.trans (hW.belowM hgr2); clear hown2 hgr2; clear hW hX hbw; clear c0 c1 c2 c3 c4 c5 c6 c7 c8 c9 cf cl; clear x0 x1 x2 x3; have hW := hW_1; have hX := hX_1; have hbw := hbw_1; clear hW_1 hX_1 hbw_1; obtain ⟨c0, c1, c2, c3, c4, c5, c6, c7, c8, c9, cf, cl⟩ := hW.cells; have x0 := hX.cell 0; have x1 := hX.cell 1; have x2 := hX.cell 2; have x3 := hX.cell 3; simp at x0 x1 x2 x3)); (try go_wp2_with fail); refine hK.out _ _ ?_ (fun hHeld => ?_); (focus ((try dsimp only); (go_keep))); clear hK K; (try simp only [Act.put, p1_, p2_, p3_]))); ((refine tk_ (i := 21) (v := ?_) (y := Or.inl ⟨by rfl, ?_⟩) (h := ?_); rotate_left; (focus (((intro w hSw; (try dsimp only at hSw); go_simp) <;> (try with_reducible rfl)); done)); (try simp only [Act.put, p1_, p2_, p3_]))); ((refine tk_ (i := 22) (v := ?_) (y := Or.inl ⟨by rfl, ?_⟩) (h := ?_); rotate_left; (focus (((intro w hSw; (try dsimp only at hSw); go_simp) <;> (try with_reducible rfl)); done)); (try simp only [Act.put, p1_, p2_, p3_]))); ((refine tk_ (i := 23) (v := ?_) (y := Or.inl ⟨by rfl, ?_⟩) (h := ?_); rotate_left; (focus (((intro w hSw; (try dsimp only at hSw); go_simp) <;> (try with_reducible rfl)); done)); (try simp only [Act.put, p1_, p2_, p3_]))); ((refine wpAnyH_take (i := 24) (by simp only [e1_, e2_, e3_]; try rfl) (by kernel_rfl) (by kernel_rfl) (by kernel_rfl) (by exact fun _ _ _ h => h) (Or.inr ⟨by rfl, rfl⟩) (by assumption) ?_; (try simp only [Act.put, p1_, p2_, p3_]))); ((refine wpAnyH_take (i := 25) (by simp only [e1_, e2_, e3_]; try rfl) (by kernel_rfl) (by kernel_rfl) (by kernel_rfl) (by exact fun _ _ _ h => h) (Or.inr ⟨by rfl, rfl⟩) (by assumption) ?_; (try simp only [Act.put, p1_, p2_, p3_]))); ((refine wpAnyH_take (i := 26) (by simp only [e1_, e2_, e3_]; try rfl) (by kernel_rfl) (by kernel_rfl) (by kernel_rfl) (by exact fun _ _ _ h => h) (Or.inr ⟨by rfl, rfl⟩) (by assumption) ?_; (try simp only [Act.put, p1_, p2_, p3_]))); ((refine wpAnyH_take (i := 27) (by simp only [e1_, e2_, e3_]; try rfl) (by kernel_rfl) (by kernel_rfl) (by kernel_rfl) (by exact fun _ _ _ h => h) (Or.inr ⟨by rfl, rfl⟩) (by assumption) ?_; (try simp only [Act.put, p1_, p2_, p3_]))); ((refine wpAnyH_take (i := 28) (by simp only [e1_, e2_, e3_]; try rfl) (by kernel_rfl) (by kernel_rfl) (by kernel_rfl) (by exact fun _ _ _ h => h) (Or.inr ⟨by rfl, rfl⟩) (by assumption) ?_; (try simp only [Act.put, p1_, p2_, p3_]))); ((refine wpAnyH_ready (rs := [29]) (by kernel_rfl) (by simp) ?_; refine AllReadyH.cons (by simp only [e1_, e2_, e3_]; try rfl) (fun K hK => ?_) AllReadyH.nil; go_simp; with_reducible refine hK.out _ _ ?_ (fun hHeld => ?_); (focus ((try dsimp only); (go_keep))); clear hK K; (try simp only [Act.put, p1_, p2_, p3_]))); ((refine wpAnyH_take (i := 30) (by simp only [e1_, e2_, e3_]; try rfl) (by kernel_rfl) (by kernel_rfl) (by kernel_rfl) (by exact fun _ _ _ h => h) (Or.inr ⟨by rfl, rfl⟩) (by assumption) ?_; (try simp only [Act.put, p1_, p2_, p3_]))); ((refine tk_ (i := 31) (v := ?_) (y := Or.inl ⟨by rfl, ?_⟩) (h := ?_); rotate_left; (focus (((intro w hSw; (try dsimp only at hSw); go_simp) <;> (try with_reducible rfl)); done)); (try simp only [Act.put, p1_, p2_, p3_]))); (refine wpAnyH_done (by kernel_rfl) ?_ _))
    go_wp2_with fail
    go_end0
    exact ⟨rfl, hbw.trans (below_set_at hW.hb), .inr ⟨fun k => hr1.out ((rowOk_iff HF.out hi hj HT.out).2 k.1), _, _, hW.setBad.wk⟩⟩
end Go.Proofs.Ytacjonkehcamgaa

/-
  DERIVED. eliminate of the program.
-/
namespace Go.Proofs.Ytacjonkehcamgaa
open Go.RowKit
set_option linter.unusedVariables false
set_option linter.unusedSimpArgs false
set_option maxRecDepth 100000 in
set_option maxHeartbeats 16000000 in
theorem impl_eliminate (R C cols : Nat) (p : Int) (A : Option Addr) (n cap : Nat) (f0 : Nat → Nat → Int) (w : World) {B : Nat} (h : OR w B (.slice A n cap) (tb R C f0)) (hR : R ≤ 24) (hC : C ≤ 48) (hcols : cols ≤ C) (hp : 2 ≤ p ∧ p ≤ 10000) (hf : ∀ i c, 0 ≤ f0 i c ∧ f0 i c < p) :
    Calls Try.prog 126 #[.agg #[.int .i64 R, .int .i64 C, .slice A n cap], .int .i64 cols, .int .i64 p] w (WW (.tuple #[.int .i64 (runE R cols p f0).t, .int .i64 (runE R cols p f0).d]) (.slice A n cap) B (tb R C (runE R cols p f0).f) w) := by
  obtain ⟨hp1, hp2⟩ := hp
  have HG : Hid (0 < R * C → ∃ g, A = some ⟨g, 0, none⟩ ∧ B ≤ g ∧ g < w.heap.size) := Lib.hid (fun h0 => h.begins (by rw [tb_len]; exact h0))
  have hok0 : EOk R p ⟨f0, 0, 1⟩ := ⟨hf, Nat.zero_le _, by show (0 : Int) ≤ 1 ∧ (1 : Int) < p; omega⟩
  have hrun : colsE R p (cols - 0) 0 ⟨f0, 0, 1⟩ = runE R cols p f0 := rfl
  generalize runE R cols p f0 = X at *
  clear hf
  go_enter Try.func126, Try.ntmps126
  go_wp2_with fail
  go_loopw [8, 9, 10] (fun vt vd vj wr => ∃ (j : Nat) (f : Nat → Nat → Int) (t : Nat) (d : Int), vj = .int .i64 j ∧ vt = .int .i64 t ∧ vd = .int .i64 d ∧ j ≤ cols ∧ EOk R p ⟨f, t, d⟩ ∧ colsE R p (cols - j) j ⟨f, t, d⟩ = X ∧ BM wr w.heap.size R C A n cap ∧ OR wr B (.slice A n cap) (tb R C f) ∧ w.grownBy wr (Value.slice A n cap).ownBlock) (fun _ _ v _ => cols - (intOf v).toNat)
  case atStart => exact ⟨0, f0, 0, 1, rfl, rfl, rfl, Nat.zero_le _, hok0, hrun, Ka, h.alloc _, by (with_reducible (repeat (first | assumption | exact World.grownBy.refl _ _ | refine only_alloc ?_ _ | refine only_drewN ?_ _ | refine only_drew ?_ | refine only_set ?_ _ _ | refine grown_far ?_ Ks _ | refine only_trans ?_ (only_of_below (by assumption) _) | refine only_trans ?_ (by assumption))))⟩
  case round =>
    clear h hok0 hrun
    obtain ⟨j, f, t, d, rfl, rfl, rfl, hj, hok, hcol0, hO, hown, hgr⟩ := hrel
    have hcol := Lib.hid hcol0
    obtain ⟨ht0, ⟨hd0, hd1⟩⟩ : t ≤ R ∧ (0 ≤ d ∧ d < p) := ⟨hok.t0, hok.d0⟩
    have HOK := Lib.hid hok
    clear hcol0 hok
    obtain ⟨oa, ob, oc, of, ol⟩ := hO.mx
    by_cases hjc : j < cols
    · by_cases htR : t < R
      · have hnx := Lib.hid (colsE_next (R := R) (p := p) (s := ⟨f, t, d⟩) hjc)
        obtain ⟨g, rfl, hg1, hg2⟩ := HG.out (Nat.mul_pos (by omega) (by omega))
        go_wp2_with fail
        obtain ⟨wo, rfl⟩ : ∃ wo : World, wo = wr := ⟨_, rfl⟩
        go_loopw [11] (fun v wr => ∃ k : Nat, v = .int .i64 k ∧ t ≤ k ∧ k ≤ R ∧ fnd f j (R - k) k = fnd f j (R - t) t ∧ BM wr w.heap.size R C (some ⟨g, 0, none⟩) n cap ∧ OR wr B (.slice (some ⟨g, 0, none⟩) n cap) (tb R C f) ∧ w.grownBy wr (some g)) (fun v _ => R - (intOf v).toNat)
        case atStart => exact ⟨t, rfl, Nat.le_refl _, by omega, rfl, hO, hown, hgr⟩
        case round =>
          clear hO hown hgr oa ob oc of ol
          obtain ⟨k, rfl, hk1, hk2, hfn0, hO, hown, hgr⟩ := hrel
          have hfn := Lib.hid hfn0
          clear hfn0
          obtain ⟨oa, ob, oc, of, ol⟩ := hO.mx
          by_cases hkR : k < R
          · by_cases hz : f k j = 0
            · have hfx := Lib.hid ((fnd_next hkR hz).symm.trans hfn.out)
              have HZ := Lib.hid hz
              clear hz
              go_wp2_with (go_at_call 117; refine (impl_at_tb R C _ _ _ n cap f 0 HZ.out _ (B := B) (Ko hown) (by omega) (by omega) (by omega) (by omega)).mono ?_; rintro e w1 ⟨rfl, hb⟩; have hO_1 : BM w1 w.heap.size R C (some ⟨g, 0, none⟩) n cap := (Kb hO); have hown_1 : OR w1 B (.slice (some ⟨g, 0, none⟩) n cap) (tb R C (f)) := (Ko hown); have hgr_1 : w.grownBy w1 (some g) := (by (with_reducible (repeat (first | assumption | exact World.grownBy.refl _ _ | refine only_alloc ?_ _ | refine only_drewN ?_ _ | refine only_drew ?_ | refine only_set ?_ _ _ | refine grown_far ?_ Ks _ | refine only_trans ?_ (only_of_below (by assumption) _) | refine only_trans ?_ (by assumption))))); clear hb; clear hO hown hgr oa ob oc of ol; have hO := hO_1; have hown := hown_1; have hgr := hgr_1; clear hO_1 hown_1 hgr_1; obtain ⟨oa, ob, oc, of, ol⟩ := hO.mx)
              go_roundw
              case rel => exact ⟨k + 1, by go_num, by omega, by omega, hfx.out, hO, hown, hgr⟩
              case measure => simp only [intOf]; omega
            · have hP : fnd f j (R - t) t = k := hfn.out.symm.trans (fnd_here hkR hz)
              have hce := colE_yes (p := p) (d := d) hP hkR
              have hxb : 0 ≤ f k j ∧ f k j < p := HOK.out.f0 k j
              have hokn := colE_ok hp1 HOK.out j
              generalize hy : f k j = y at hxb
              have HY := Lib.hid hy
              have hyb : (y == 0) = false := by simpa using (hy ▸ hz)
              clear hP hz hy
              have hkRb : ((k : Int) == (R : Int)) = false := by simp; omega
              have HCE0 := Lib.hid hce
              have HY1 : Hid (swF f k t t j = y) := Lib.hid (by rw [swF_t]; exact HY.out)
              have HF1 : Hid (∀ i c, 0 ≤ swF f k t i c ∧ swF f k t i c < p) := Lib.hid (fun i c => HOK.out.f0 _ _)
              clear hce
              by_cases hkt : k = t
              · have HCE1 : Hid (colE R p ⟨f, t, d⟩ j = ⟨elF (scF (swF f k t) t (invOf y p) p) t j p, t + 1, d * y % p⟩) := Lib.hid (by rw [HCE0.out, HY1.out, if_pos hkt])
                have hktb : ((k : Int) != (t : Int)) = false := by simp [hkt]
                have hsf : swF f k t = f := by rw [hkt]; exact swF_same f t
                rw [hsf] at HCE1 HY1 HF1
                clear HCE0 hsf hkt
                have HCE := HCE1
                clear HCE1
                go_wp2_with fail
                refine (impl_at_tb R C k j _ n cap f y HY.out _ (B := B) (Ko hown) (by omega) (by omega) (by omega) (by omega)).mono ?_
                rintro e w1 ⟨rfl, hb⟩
                have hO_1 : BM w1 w.heap.size R C (some ⟨g, 0, none⟩) n cap := (Kb hO); have hown_1 : OR w1 B (.slice (some ⟨g, 0, none⟩) n cap) (tb R C (f)) := (Ko hown); have hgr_1 : w.grownBy w1 (some g) := (by (with_reducible (repeat (first | assumption | exact World.grownBy.refl _ _ | refine only_alloc ?_ _ | refine only_drewN ?_ _ | refine only_drew ?_ | refine only_set ?_ _ _ | refine grown_far ?_ Ks _ | refine only_trans ?_ (only_of_below (by assumption) _) | refine only_trans ?_ (by assumption))))); clear hb; clear hO hown hgr oa ob oc of ol; have hO := hO_1; have hown := hown_1; have hgr := hgr_1; clear hO_1 hown_1 hgr_1; obtain ⟨oa, ob, oc, of, ol⟩ := hO.mx
                go_wp2_with fail
                have HC : Hid (colE R p ⟨f, t, d⟩ j = ⟨elF (scF f t (invOf y p) p) t j p, t + 1, d * y % p⟩) := Lib.hid HCE.out
                have hm1 := mul_bd d y 10000 10000 (by omega) (by omega) (by omega) (by omega)
                obtain ⟨hm2, hm3⟩ := hm1
                have hiv := emod_bds (egRes (y % p) p).2.1 p (by omega)
                rw [show (egRes (y % p) p).2.1 % p = invOf y p from rfl] at hiv
                obtain ⟨hiv1, hiv2⟩ := hiv
                generalize hx : invOf y p = x at *
                have HX := Lib.hid hx
                clear hx
                refine (impl_at_tb R C t j _ n cap f y HY1.out _ (B := B) (Ko hown) (by omega) (by omega) (by omega) (by omega)).mono ?_
                rintro e w1 ⟨rfl, hb⟩
                have hO_1 : BM w1 w.heap.size R C (some ⟨g, 0, none⟩) n cap := (Kb hO); have hown_1 : OR w1 B (.slice (some ⟨g, 0, none⟩) n cap) (tb R C (f)) := (Ko hown); have hgr_1 : w.grownBy w1 (some g) := (by (with_reducible (repeat (first | assumption | exact World.grownBy.refl _ _ | refine only_alloc ?_ _ | refine only_drewN ?_ _ | refine only_drew ?_ | refine only_set ?_ _ _ | refine grown_far ?_ Ks _ | refine only_trans ?_ (only_of_below (by assumption) _) | refine only_trans ?_ (by assumption))))); clear hb; clear hO hown hgr oa ob oc of ol; have hO := hO_1; have hown := hown_1; have hgr := hgr_1; clear hO_1 hown_1 hgr_1; obtain ⟨oa, ob, oc, of, ol⟩ := hO.mx
                go_wp2_with (go_at_call 130; refine (impl_mod _ _ _ (by omega) (by omega) (by omega) (by omega)).mono ?_; rintro e w' ⟨rfl, rfl⟩)
                refine (impl_at_tb R C t j _ n cap f y HY1.out _ (B := B) (Ko hown) (by omega) (by omega) (by omega) (by omega)).mono ?_
                rintro e w2 ⟨rfl, hb⟩
                have hO_1 : BM w2 w.heap.size R C (some ⟨g, 0, none⟩) n cap := (Kb hO); have hown_1 : OR w2 B (.slice (some ⟨g, 0, none⟩) n cap) (tb R C (f)) := (Ko hown); have hgr_1 : w.grownBy w2 (some g) := (by (with_reducible (repeat (first | assumption | exact World.grownBy.refl _ _ | refine only_alloc ?_ _ | refine only_drewN ?_ _ | refine only_drew ?_ | refine only_set ?_ _ _ | refine grown_far ?_ Ks _ | refine only_trans ?_ (only_of_below (by assumption) _) | refine only_trans ?_ (by assumption))))); clear hb; clear hO hown hgr oa ob oc of ol; have hO := hO_1; have hown := hown_1; have hgr := hgr_1; clear hO_1 hown_1 hgr_1; obtain ⟨oa, ob, oc, of, ol⟩ := hO.mx
                go_wp2_with (go_at_call 201; refine (impl_inverseAny y p (by omega) (by omega) _).mono ?_; rw [HX.out]; rintro e w1 ⟨rfl, hb⟩; have hO_1 : BM w1 w.heap.size R C (some ⟨g, 0, none⟩) n cap := (Kb hO); have hown_1 : OR w1 B (.slice (some ⟨g, 0, none⟩) n cap) (tb R C (f)) := (Ko hown); have hgr_1 : w.grownBy w1 (some g) := (by (with_reducible (repeat (first | assumption | exact World.grownBy.refl _ _ | refine only_alloc ?_ _ | refine only_drewN ?_ _ | refine only_drew ?_ | refine only_set ?_ _ _ | refine grown_far ?_ Ks _ | refine only_trans ?_ (only_of_below (by assumption) _) | refine only_trans ?_ (by assumption))))); clear hb; clear hO hown hgr oa ob oc of ol; have hO := hO_1; have hown := hown_1; have hgr := hgr_1; clear hO_1 hown_1 hgr_1; obtain ⟨oa, ob, oc, of, ol⟩ := hO.mx)
                obtain ⟨wo3, rfl⟩ : ∃ wo : World, wo = w1 := ⟨_, rfl⟩
                go_loopw [13] (fun v wr => ∃ c : Nat, v = .int .i64 c ∧ c ≤ C ∧ BM wr w.heap.size R C (some ⟨g, 0, none⟩) n cap ∧ OR wr B (.slice (some ⟨g, 0, none⟩) n cap) (tb R C (scK f t x p c)) ∧ w.grownBy wr (some g)) (fun v _ => C - (intOf v).toNat)
                case atStart => exact ⟨0, rfl, Nat.zero_le _, hO, by rw [scK_zero]; exact hown, hgr⟩
                case round =>
                  clear hO hown hgr oa ob oc of ol
                  obtain ⟨c, rfl, hc, hO, hown, hgr⟩ := hrel
                  obtain ⟨oa, ob, oc, of, ol⟩ := hO.mx
                  by_cases hcC : c < C
                  · have hzb := HF1.out t c
                    have HST := Lib.hid (scK_step f t x p c)
                    generalize hz : f t c = z at hzb HST
                    have HZ := Lib.hid hz
                    clear hz
                    have hm4 := mul_bd z x 10000 10000 (by omega) (by omega) (by omega) (by omega)
                    have g1 : IntKind.i64.wrap (z * x) = z * x := IntWalk.i64_in _ (by omega)
                    go_wp2_with fail
                    ((refine wp_region_held_drew (S := (fun w' => w'.cell? ⟨w.heap.size, 0, none⟩ = some (.int .i64 R) ∧ w'.cell? ⟨w.heap.size, 1, none⟩ = some (.int .i64 C) ∧ w'.cell? ⟨w.heap.size, 2, none⟩ = some (.slice (some ⟨g, 0, none⟩) n cap))) (by kernel_rfl) ?_ (fun hHeld => ?_)); ((focus ((try dsimp only); (go_keep)))); ((refine tk_ (i := 0) (v := ?_) (y := Or.inl ⟨by rfl, ?_⟩) (h := ?_); rotate_left; (focus (((intro w hSw; (try dsimp only at hSw); go_simp) <;> (try with_reducible rfl)); done)); (try simp only [Act.put, p1_, p2_, p3_]))); ((refine tk_ (i := 1) (v := ?_) (y := Or.inl ⟨by rfl, ?_⟩) (h := ?_); rotate_left; (focus (((intro w hSw; (try dsimp only at hSw); go_simp) <;> (try with_reducible rfl)); done)); (try simp only [Act.put, p1_, p2_, p3_]))); ((refine tk_ (i := 2) (v := ?_) (y := Or.inl ⟨by rfl, ?_⟩) (h := ?_); rotate_left; (focus (((intro w hSw; (try dsimp only at hSw); go_simp) <;> (try with_reducible rfl)); done)); (try simp only [Act.put, p1_, p2_, p3_]))); ((refine tk_ (i := 3) (v := ?_) (y := Or.inl ⟨by rfl, ?_⟩) (h := ?_); rotate_left; (focus (((intro w hSw; (try dsimp only at hSw); go_simp) <;> (try with_reducible rfl)); done)); (try simp only [Act.put, p1_, p2_, p3_]))); ((refine tk_ (i := 4) (v := ?_) (y := Or.inl ⟨by rfl, ?_⟩) (h := ?_); rotate_left; (focus (((intro w hSw; (try dsimp only at hSw); go_simp) <;> (try with_reducible rfl)); done)); (try simp only [Act.put, p1_, p2_, p3_]))); ((refine tk_ (i := 5) (v := ?_) (y := Or.inl ⟨by rfl, ?_⟩) (h := ?_); rotate_left; (focus (((intro w hSw; (try dsimp only at hSw); go_simp) <;> (try with_reducible rfl)); done)); (try simp only [Act.put, p1_, p2_, p3_]))); ((refine tk_ (i := 7) (v := ?_) (y := Or.inl ⟨by rfl, ?_⟩) (h := ?_); rotate_left; (focus (((intro w hSw; (try dsimp only at hSw); go_simp) <;> (try with_reducible rfl)); done)); (try simp only [Act.put, p1_, p2_, p3_]))); ((refine tk_ (i := 9) (v := ?_) (y := Or.inl ⟨by rfl, ?_⟩) (h := ?_); rotate_left; (focus (((intro w hSw; (try dsimp only at hSw); go_simp) <;> (try with_reducible rfl)); done)); (try simp only [Act.put, p1_, p2_, p3_]))); ((refine wpAnyH_ready (rs := [6]) (by kernel_rfl) (by simp) ?_; refine AllReadyH.cons (by simp only [e1_, e2_, e3_]; try rfl) (fun K hK => ?_) AllReadyH.nil; go_simp; (go_at_call 117; refine (impl_at_tb R C _ _ _ n cap (scK f t x p c) z ((scK_at _ _ _ _ _).trans HZ.out) _ (B := B) (Ko hown) (by omega) (by omega) (by omega) (by omega)).mono ?_; rintro e w1 ⟨rfl, hb⟩; have hO_1 : BM w1 w.heap.size R C (some ⟨g, 0, none⟩) n cap := (Kb hO); have hown_1 : OR w1 B (.slice (some ⟨g, 0, none⟩) n cap) (tb R C ((scK f t x p c))) := (Ko hown); have hgr_1 : w.grownBy w1 (some g) := (by (with_reducible (repeat (first | assumption | exact World.grownBy.refl _ _ | refine only_alloc ?_ _ | refine only_drewN ?_ _ | refine only_drew ?_ | refine only_set ?_ _ _ | refine grown_far ?_ Ks _ | refine only_trans ?_ (only_of_below (by assumption) _) | refine only_trans ?_ (by assumption))))); clear hb; clear hO hown hgr oa ob oc of ol; have hO := hO_1; have hown := hown_1; have hgr := hgr_1; clear hO_1 hown_1 hgr_1; obtain ⟨oa, ob, oc, of, ol⟩ := hO.mx); (try go_wp2_with fail); refine hK.out _ _ ?_ (fun hHeld => ?_); (focus ((try dsimp only); (go_keep))); clear hK K; (try simp only [Act.put, p1_, p2_, p3_]))); ((refine tk_ (i := 8) (v := ?_) (y := Or.inl ⟨by rfl, ?_⟩) (h := ?_); rotate_left; (focus (((intro w hSw; (try dsimp only at hSw); go_simp) <;> (try with_reducible rfl)); done)); (try simp only [Act.put, p1_, p2_, p3_]))); ((refine wpAnyH_ready (rs := [10]) (by kernel_rfl) (by simp) ?_; refine AllReadyH.cons (by simp only [e1_, e2_, e3_]; try rfl) (fun K hK => ?_) AllReadyH.nil; go_simp; (go_at_call 130; refine (impl_mod _ _ _ (by omega) (by omega) (by omega) (by omega)).mono ?_; rintro e w' ⟨rfl, rfl⟩); (try go_wp2_with fail); refine hK.out _ _ ?_ (fun hHeld => ?_); (focus ((try dsimp only); (go_keep))); clear hK K; (try simp only [Act.put, p1_, p2_, p3_]))); ((refine wpAnyH_ready (rs := [11]) (by kernel_rfl) (by simp) ?_; refine AllReadyH.cons (by simp only [e1_, e2_, e3_]; try rfl) (fun K hK => ?_) AllReadyH.nil; go_simp; (go_at_call 125; refine (impl_set_tb R C _ _ _ _ n cap (scK f t x p c) (scK f t x p (c + 1)) HST.out _ (B := B) (Ko hown) (by omega) (by omega) (by omega) (by omega)).mono ?_; rintro e w1 ⟨rfl, hown_1, hgr_0, hsz_0⟩; have hO_1 : BM w1 w.heap.size R C (some ⟨g, 0, none⟩) n cap := (hO.grown hgr_0 (by simp [Value.ownBlock]; omega)); have hgr_1 : w.grownBy w1 (some g) := (only_trans hgr hgr_0); clear hgr_0 hsz_0; clear hO hown hgr oa ob oc of ol; have hO := hO_1; have hown := hown_1; have hgr := hgr_1; clear hO_1 hown_1 hgr_1; obtain ⟨oa, ob, oc, of, ol⟩ := hO.mx); (try go_wp2_with fail); refine hK.out _ _ ?_ (fun hHeld => ?_); (focus ((try dsimp only); (go_keep))); clear hK K; (try simp only [Act.put, p1_, p2_, p3_]))); (refine wpAnyH_done (by kernel_rfl) ?_ _))
                    clear g1
                    go_wp2
                    go_roundw
                    case rel => exact ⟨c + 1, by go_num, by omega, hO, hown, hgr⟩
                    case measure => simp only [intOf]; omega
                  · obtain rfl : C = c := by omega
                    have hown2 := hown.as (scK_end f t x p)
                    have HF2 : Hid (∀ i c, 0 ≤ scF f t x p i c ∧ scF f t x p i c < p) := Lib.hid (fun i c => by
                      unfold scF
                      split
                      · exact emod_bds _ _ (by omega)
                      · exact HF1.out i c)
                    clear hown
                    have hown := hown2
                    clear hown2
                    have hokn2 := hokn
                    have hnx2 := hnx.out
                    rw [HC.out] at hokn2 hnx2
                    have HOKN := Lib.hid hokn2
                    have HCOL := Lib.hid (hnx2.symm.trans hcol.out)
                    clear hokn2 hnx2
                    generalize scF f t x p = F2 at *
                    go_wp2_with fail
                    obtain ⟨wo4, rfl⟩ : ∃ wo : World, wo = wr := ⟨_, rfl⟩
                    go_loopw [14, 15, 16] (fun v _ _ wr => ∃ i : Nat, v = .int .i64 i ∧ i ≤ R ∧ BM wr w.heap.size R C (some ⟨g, 0, none⟩) n cap ∧ OR wr B (.slice (some ⟨g, 0, none⟩) n cap) (tb R C (elK F2 t j p i 0)) ∧ w.grownBy wr (some g)) (fun v _ _ _ => R - (intOf v).toNat)
                    case atStart => exact ⟨0, rfl, Nat.zero_le _, hO, by rw [elK_zero]; exact hown, hgr⟩
                    case round =>
                      clear hO hown hgr oa ob oc of ol
                      obtain ⟨i, rfl, hi, hO, hown, hgr⟩ := hrel
                      obtain ⟨oa, ob, oc, of, ol⟩ := hO.mx
                      by_cases hiR : i < R
                      · have hqb := HF2.out i j
                        have HAT0 := Lib.hid (elK_at F2 t j p i 0 j (Nat.zero_le _))
                        generalize hq : F2 i j = q at hqb HAT0
                        have HQ := Lib.hid hq
                        clear hq
                        by_cases hit : i = t
                        · have hb1 : ((i : Int) != (t : Int)) = false := by simp [hit]
                          have hnx3 := hown.as (elK_skip' F2 j p hit)
                          clear hit
                          go_wp2_with (go_at_call 117; refine (impl_at_tb R C _ _ _ n cap (elK F2 t j p i 0) q HAT0.out _ (B := B) (Ko hown) (by omega) (by omega) (by omega) (by omega)).mono ?_; rintro e w1 ⟨rfl, hb⟩; (have hnx4 : OR w1 B (.slice (some ⟨g, 0, none⟩) n cap) (tb R C (elK F2 t j p (i + 1) 0)) := (Ko hnx3)); have hO_1 : BM w1 w.heap.size R C (some ⟨g, 0, none⟩) n cap := (Kb hO); have hown_1 : OR w1 B (.slice (some ⟨g, 0, none⟩) n cap) (tb R C ((elK F2 t j p i 0))) := (Ko hown); have hgr_1 : w.grownBy w1 (some g) := (by (with_reducible (repeat (first | assumption | exact World.grownBy.refl _ _ | refine only_alloc ?_ _ | refine only_drewN ?_ _ | refine only_drew ?_ | refine only_set ?_ _ _ | refine grown_far ?_ Ks _ | refine only_trans ?_ (only_of_below (by assumption) _) | refine only_trans ?_ (by assumption))))); clear hb; clear hO hown hgr oa ob oc of ol; have hO := hO_1; have hown := hown_1; have hgr := hgr_1; clear hO_1 hown_1 hgr_1; obtain ⟨oa, ob, oc, of, ol⟩ := hO.mx)
                          refine wp_loop_rounds 1 ?_
                          rw [rounds_succ]
                          go_wp2
                          go_roundw
                          case rel => exact ⟨i + 1, by go_num, by omega, hO, hnx4, hgr⟩
                          case measure => simp only [intOf]; omega
                        · have hb1 : ((i : Int) != (t : Int)) = true := by simp; omega
                          have HIT := Lib.hid hit
                          clear hit
                          go_wp2_with (go_at_call 117; refine (impl_at_tb R C _ _ _ n cap (elK F2 t j p i 0) q HAT0.out _ (B := B) (Ko hown) (by omega) (by omega) (by omega) (by omega)).mono ?_; rintro e w1 ⟨rfl, hb⟩; have hO_1 : BM w1 w.heap.size R C (some ⟨g, 0, none⟩) n cap := (Kb hO); have hown_1 : OR w1 B (.slice (some ⟨g, 0, none⟩) n cap) (tb R C ((elK F2 t j p i 0))) := (Ko hown); have hgr_1 : w.grownBy w1 (some g) := (by (with_reducible (repeat (first | assumption | exact World.grownBy.refl _ _ | refine only_alloc ?_ _ | refine only_drewN ?_ _ | refine only_drew ?_ | refine only_set ?_ _ _ | refine grown_far ?_ Ks _ | refine only_trans ?_ (only_of_below (by assumption) _) | refine only_trans ?_ (by assumption))))); clear hb; clear hO hown hgr oa ob oc of ol; have hO := hO_1; have hown := hown_1; have hgr := hgr_1; clear hO_1 hown_1 hgr_1; obtain ⟨oa, ob, oc, of, ol⟩ := hO.mx)
                          obtain ⟨wo5, rfl⟩ : ∃ wo : World, wo = w1 := ⟨_, rfl⟩
                          go_loopw [16] (fun v wr => ∃ c : Nat, v = .int .i64 c ∧ c ≤ C ∧ BM wr w.heap.size R C (some ⟨g, 0, none⟩) n cap ∧ OR wr B (.slice (some ⟨g, 0, none⟩) n cap) (tb R C (elK F2 t j p i c)) ∧ w.grownBy wr (some g)) (fun v _ => C - (intOf v).toNat)
                          case atStart => exact ⟨0, rfl, Nat.zero_le _, hO, hown, hgr⟩
                          case round =>
                            clear hO hown hgr oa ob oc of ol
                            obtain ⟨c, rfl, hc, hO, hown, hgr⟩ := hrel
                            obtain ⟨oa, ob, oc, of, ol⟩ := hO.mx
                            by_cases hcC : c < C
                            · have hz1 := HF2.out i c
                              have hz2 := HF2.out t c
                              have HA1 := Lib.hid (elK_at F2 t j p i c c (Nat.le_refl _))
                              have HA2 := Lib.hid (elK_t F2 t j p i c c)
                              have hst := elK_step (f := F2) (j := j) p c HIT.out
                              unfold elAt at hst
                              rw [HQ.out] at hst
                              have HST := Lib.hid hst
                              clear hst
                              generalize F2 i c = z1 at *
                              generalize F2 t c = z2 at *
                              have hm5 := mul_bd q z2 10000 10000 (by omega) (by omega) (by omega) (by omega)
                              have g1 : IntKind.i64.wrap (q * z2) = q * z2 := IntWalk.i64_in _ (by omega)
                              have g2 : IntKind.i64.wrap (z1 - q * z2) = z1 - q * z2 := IntWalk.i64_in _ (by omega)
                              go_wp2_with fail
                              ((refine wp_region_held_drew (S := (fun w' => w'.cell? ⟨w.heap.size, 0, none⟩ = some (.int .i64 R) ∧ w'.cell? ⟨w.heap.size, 1, none⟩ = some (.int .i64 C) ∧ w'.cell? ⟨w.heap.size, 2, none⟩ = some (.slice (some ⟨g, 0, none⟩) n cap))) (by kernel_rfl) ?_ (fun hHeld => ?_)); ((focus ((try dsimp only); (go_keep)))); ((refine tk_ (i := 0) (v := ?_) (y := Or.inl ⟨by rfl, ?_⟩) (h := ?_); rotate_left; (focus (((intro w hSw; (try dsimp only at hSw); go_simp) <;> (try with_reducible rfl)); done)); (try simp only [Act.put, p1_, p2_, p3_]))); ((refine tk_ (i := 1) (v := ?_) (y := Or.inl ⟨by rfl, ?_⟩) (h := ?_); rotate_left; (focus (((intro w hSw; (try dsimp only at hSw); go_simp) <;> (try with_reducible rfl)); done)); (try simp only [Act.put, p1_, p2_, p3_]))); ((refine tk_ (i := 2) (v := ?_) (y := Or.inl ⟨by rfl, ?_⟩) (h := ?_); rotate_left; (focus (((intro w hSw; (try dsimp only at hSw); go_simp) <;> (try with_reducible rfl)); done)); (try simp only [Act.put, p1_, p2_, p3_]))); ((refine tk_ (i := 3) (v := ?_) (y := Or.inl ⟨by rfl, ?_⟩) (h := ?_); rotate_left; (focus (((intro w hSw; (try dsimp only at hSw); go_simp) <;> (try with_reducible rfl)); done)); (try simp only [Act.put, p1_, p2_, p3_]))); ((refine tk_ (i := 4) (v := ?_) (y := Or.inl ⟨by rfl, ?_⟩) (h := ?_); rotate_left; (focus (((intro w hSw; (try dsimp only at hSw); go_simp) <;> (try with_reducible rfl)); done)); (try simp only [Act.put, p1_, p2_, p3_]))); ((refine tk_ (i := 5) (v := ?_) (y := Or.inl ⟨by rfl, ?_⟩) (h := ?_); rotate_left; (focus (((intro w hSw; (try dsimp only at hSw); go_simp) <;> (try with_reducible rfl)); done)); (try simp only [Act.put, p1_, p2_, p3_]))); ((refine tk_ (i := 7) (v := ?_) (y := Or.inl ⟨by rfl, ?_⟩) (h := ?_); rotate_left; (focus (((intro w hSw; (try dsimp only at hSw); go_simp) <;> (try with_reducible rfl)); done)); (try simp only [Act.put, p1_, p2_, p3_]))); ((refine tk_ (i := 8) (v := ?_) (y := Or.inl ⟨by rfl, ?_⟩) (h := ?_); rotate_left; (focus (((intro w hSw; (try dsimp only at hSw); go_simp) <;> (try with_reducible rfl)); done)); (try simp only [Act.put, p1_, p2_, p3_]))); ((refine tk_ (i := 9) (v := ?_) (y := Or.inl ⟨by rfl, ?_⟩) (h := ?_); rotate_left; (focus (((intro w hSw; (try dsimp only at hSw); go_simp) <;> (try with_reducible rfl)); done)); (try simp only [Act.put, p1_, p2_, p3_]))); ((refine tk_ (i := 10) (v := ?_) (y := Or.inl ⟨by rfl, ?_⟩) (h := ?_); rotate_left; (focus (((intro w hSw; (try dsimp only at hSw); go_simp) <;> (try with_reducible rfl)); done)); (try simp only [Act.put, p1_, p2_, p3_]))); ((refine tk_ (i := 14) (v := ?_) (y := Or.inl ⟨by rfl, ?_⟩) (h := ?_); rotate_left; (focus (((intro w hSw; (try dsimp only at hSw); go_simp) <;> (try with_reducible rfl)); done)); (try simp only [Act.put, p1_, p2_, p3_]))); ((refine wpAnyH_ready (rs := [6]) (by kernel_rfl) (by simp) ?_; refine AllReadyH.cons (by simp only [e1_, e2_, e3_]; try rfl) (fun K hK => ?_) AllReadyH.nil; go_simp; (go_at_call 117; refine (impl_at_tb R C _ _ _ n cap (elK F2 t j p i c) z1 HA1.out _ (B := B) (Ko hown) (by omega) (by omega) (by omega) (by omega)).mono ?_; rintro e w1 ⟨rfl, hb⟩; have hO_1 : BM w1 w.heap.size R C (some ⟨g, 0, none⟩) n cap := (Kb hO); have hown_1 : OR w1 B (.slice (some ⟨g, 0, none⟩) n cap) (tb R C ((elK F2 t j p i c))) := (Ko hown); have hgr_1 : w.grownBy w1 (some g) := (by (with_reducible (repeat (first | assumption | exact World.grownBy.refl _ _ | refine only_alloc ?_ _ | refine only_drewN ?_ _ | refine only_drew ?_ | refine only_set ?_ _ _ | refine grown_far ?_ Ks _ | refine only_trans ?_ (only_of_below (by assumption) _) | refine only_trans ?_ (by assumption))))); clear hb; clear hO hown hgr oa ob oc of ol; have hO := hO_1; have hown := hown_1; have hgr := hgr_1; clear hO_1 hown_1 hgr_1; obtain ⟨oa, ob, oc, of, ol⟩ := hO.mx); (try go_wp2_with fail); refine hK.out _ _ ?_ (fun hHeld => ?_); (focus ((try dsimp only); (go_keep))); clear hK K; (try simp only [Act.put, p1_, p2_, p3_]))); ((refine wpAnyH_ready (rs := [11]) (by kernel_rfl) (by simp) ?_; refine AllReadyH.cons (by simp only [e1_, e2_, e3_]; try rfl) (fun K hK => ?_) AllReadyH.nil; go_simp; (go_at_call 117; refine (impl_at_tb R C _ _ _ n cap (elK F2 t j p i c) z2 HA2.out _ (B := B) (Ko hown) (by omega) (by omega) (by omega) (by omega)).mono ?_; rintro e w1 ⟨rfl, hb⟩; have hO_1 : BM w1 w.heap.size R C (some ⟨g, 0, none⟩) n cap := (Kb hO); have hown_1 : OR w1 B (.slice (some ⟨g, 0, none⟩) n cap) (tb R C ((elK F2 t j p i c))) := (Ko hown); have hgr_1 : w.grownBy w1 (some g) := (by (with_reducible (repeat (first | assumption | exact World.grownBy.refl _ _ | refine only_alloc ?_ _ | refine only_drewN ?_ _ | refine only_drew ?_ | refine only_set ?_ _ _ | refine grown_far ?_ Ks _ | refine only_trans ?_ (only_of_below (by assumption) _) | refine only_trans ?_ (by assumption))))); clear hb; clear hO hown hgr oa ob oc of ol; have hO := hO_1; have hown := hown_1; have hgr := hgr_1; clear hO_1 hown_1 hgr_1; obtain ⟨oa, ob, oc, of, ol⟩ := hO.mx); (try go_wp2_with fail); refine hK.out _ _ ?_ (fun hHeld => ?_); (focus ((try dsimp only); (go_keep))); clear hK K; (try simp only [Act.put, p1_, p2_, p3_]))); ((refine tk_ (i := 12) (v := ?_) (y := Or.inl ⟨by rfl, ?_⟩) (h := ?_); rotate_left; (focus (((intro w hSw; (try dsimp only at hSw); go_simp) <;> (try with_reducible rfl)); done)); (try simp only [Act.put, p1_, p2_, p3_]))); ((refine tk_ (i := 13) (v := ?_) (y := Or.inl ⟨by rfl, ?_⟩) (h := ?_); rotate_left; (focus (((intro w hSw; (try dsimp only at hSw); go_simp) <;> (try with_reducible rfl)); done)); (try simp only [Act.put, p1_, p2_, p3_]))); ((refine wpAnyH_ready (rs := [15]) (by kernel_rfl) (by simp) ?_; refine AllReadyH.cons (by simp only [e1_, e2_, e3_]; try rfl) (fun K hK => ?_) AllReadyH.nil; go_simp; (go_at_call 130; refine (impl_mod _ _ _ (by omega) (by omega) (by omega) (by omega)).mono ?_; rintro e w' ⟨rfl, rfl⟩); (try go_wp2_with fail); refine hK.out _ _ ?_ (fun hHeld => ?_); (focus ((try dsimp only); (go_keep))); clear hK K; (try simp only [Act.put, p1_, p2_, p3_]))); ((refine wpAnyH_ready (rs := [16]) (by kernel_rfl) (by simp) ?_; refine AllReadyH.cons (by simp only [e1_, e2_, e3_]; try rfl) (fun K hK => ?_) AllReadyH.nil; go_simp; (go_at_call 125; refine (impl_set_tb R C _ _ _ _ n cap (elK F2 t j p i c) (elK F2 t j p i (c + 1)) HST.out _ (B := B) (Ko hown) (by omega) (by omega) (by omega) (by omega)).mono ?_; rintro e w1 ⟨rfl, hown_1, hgr_0, hsz_0⟩; have hO_1 : BM w1 w.heap.size R C (some ⟨g, 0, none⟩) n cap := (hO.grown hgr_0 (by simp [Value.ownBlock]; omega)); have hgr_1 : w.grownBy w1 (some g) := (only_trans hgr hgr_0); clear hgr_0 hsz_0; clear hO hown hgr oa ob oc of ol; have hO := hO_1; have hown := hown_1; have hgr := hgr_1; clear hO_1 hown_1 hgr_1; obtain ⟨oa, ob, oc, of, ol⟩ := hO.mx); (try go_wp2_with fail); refine hK.out _ _ ?_ (fun hHeld => ?_); (focus ((try dsimp only); (go_keep))); clear hK K; (try simp only [Act.put, p1_, p2_, p3_]))); (refine wpAnyH_done (by kernel_rfl) ?_ _))
                              clear g1 g2
                              go_wp2
                              go_roundw
                              case rel => exact ⟨c + 1, by go_num, by omega, hO, hown, hgr⟩
                              case measure => simp only [intOf]; omega
                            · obtain rfl : C = c := by omega
                              have hnx3 := hown.as (elK_row F2 t j p i)
                              go_wp2
                              go_roundw
                              case rel => exact ⟨i + 1, by go_num, by omega, hO, hnx3, hgr⟩
                              case measure => simp only [intOf]; omega
                      · obtain rfl : R = i := by omega
                        have hnx3 := hown.as (elK_end F2 t j p)
                        go_wp2
                        go_roundw
                        case rel => exact ⟨j + 1, _, t + 1, _, by go_num, by go_num, rfl, by omega, HOKN.out, HCOL.out, hO, hnx3, hgr⟩
                        case measure => simp only [intOf]; omega
              · have HCE1 : Hid (colE R p ⟨f, t, d⟩ j = ⟨elF (scF (swF f k t) t (invOf y p) p) t j p, t + 1, ((-d) % p) * y % p⟩) := Lib.hid (by rw [HCE0.out, HY1.out, if_neg hkt])
                have hktb : ((k : Int) != (t : Int)) = true := by simp; omega
                have hdm := emod_bds (-d) p (by omega)
                obtain ⟨hdm1, hdm2⟩ := hdm
                have HKT := Lib.hid hkt
                clear HCE0 hkt
                have HCE := HCE1
                clear HCE1
                go_wp2_with fail
                refine (impl_at_tb R C k j _ n cap f y HY.out _ (B := B) (Ko hown) (by omega) (by omega) (by omega) (by omega)).mono ?_
                rintro e w1 ⟨rfl, hb⟩
                have hO_1 : BM w1 w.heap.size R C (some ⟨g, 0, none⟩) n cap := (Kb hO); have hown_1 : OR w1 B (.slice (some ⟨g, 0, none⟩) n cap) (tb R C (f)) := (Ko hown); have hgr_1 : w.grownBy w1 (some g) := (by (with_reducible (repeat (first | assumption | exact World.grownBy.refl _ _ | refine only_alloc ?_ _ | refine only_drewN ?_ _ | refine only_drew ?_ | refine only_set ?_ _ _ | refine grown_far ?_ Ks _ | refine only_trans ?_ (only_of_below (by assumption) _) | refine only_trans ?_ (by assumption))))); clear hb; clear hO hown hgr oa ob oc of ol; have hO := hO_1; have hown := hown_1; have hgr := hgr_1; clear hO_1 hown_1 hgr_1; obtain ⟨oa, ob, oc, of, ol⟩ := hO.mx
                go_wp2_with fail
                refine (impl_rowOp_swap R C k t 0 _ n cap f _ (B := B) (Ko hown) hkR htR HKT.out (by omega) hC hR).mono ?_
                rintro e w2 ⟨rfl, hown_1, hgr_0, hsz_0⟩
                have hO_1 : BM w2 w.heap.size R C (some ⟨g, 0, none⟩) n cap := (hO.grown hgr_0 (by simp [Value.ownBlock]; omega))
                have hgr_1 : w.grownBy w2 (some g) := only_trans hgr hgr_0
                clear hgr_0 hsz_0
                clear hO hown hgr oa ob oc of ol; have hO := hO_1; have hown := hown_1; have hgr := hgr_1; clear hO_1 hown_1 hgr_1; obtain ⟨oa, ob, oc, of, ol⟩ := hO.mx
                generalize swF f k t = F1 at *
                generalize hd1 : (-d) % p = d1 at *
                have HD1 := Lib.hid hd1
                clear hd1
                go_wp2_with (go_at_call 130; refine (impl_mod (-d) p _ (by omega) (by omega) (by omega) (by omega)).mono ?_; rw [HD1.out]; rintro e w' ⟨rfl, rfl⟩)
                have HC : Hid (colE R p ⟨f, t, d⟩ j = ⟨elF (scF F1 t (invOf y p) p) t j p, t + 1, d1 * y % p⟩) := Lib.hid HCE.out
                have hm1 := mul_bd d1 y 10000 10000 (by omega) (by omega) (by omega) (by omega)
                obtain ⟨hm2, hm3⟩ := hm1
                have hiv := emod_bds (egRes (y % p) p).2.1 p (by omega)
                rw [show (egRes (y % p) p).2.1 % p = invOf y p from rfl] at hiv
                obtain ⟨hiv1, hiv2⟩ := hiv
                generalize hx : invOf y p = x at *
                have HX := Lib.hid hx
                clear hx
                refine (impl_at_tb R C t j _ n cap F1 y HY1.out _ (B := B) (Ko hown) (by omega) (by omega) (by omega) (by omega)).mono ?_
                rintro e w1 ⟨rfl, hb⟩
                have hO_1 : BM w1 w.heap.size R C (some ⟨g, 0, none⟩) n cap := (Kb hO); have hown_1 : OR w1 B (.slice (some ⟨g, 0, none⟩) n cap) (tb R C (F1)) := (Ko hown); have hgr_1 : w.grownBy w1 (some g) := (by (with_reducible (repeat (first | assumption | exact World.grownBy.refl _ _ | refine only_alloc ?_ _ | refine only_drewN ?_ _ | refine only_drew ?_ | refine only_set ?_ _ _ | refine grown_far ?_ Ks _ | refine only_trans ?_ (only_of_below (by assumption) _) | refine only_trans ?_ (by assumption))))); clear hb; clear hO hown hgr oa ob oc of ol; have hO := hO_1; have hown := hown_1; have hgr := hgr_1; clear hO_1 hown_1 hgr_1; obtain ⟨oa, ob, oc, of, ol⟩ := hO.mx
                go_wp2_with (go_at_call 130; refine (impl_mod _ _ _ (by omega) (by omega) (by omega) (by omega)).mono ?_; rintro e w' ⟨rfl, rfl⟩)
                refine (impl_at_tb R C t j _ n cap F1 y HY1.out _ (B := B) (Ko hown) (by omega) (by omega) (by omega) (by omega)).mono ?_
                rintro e w2 ⟨rfl, hb⟩
                have hO_1 : BM w2 w.heap.size R C (some ⟨g, 0, none⟩) n cap := (Kb hO); have hown_1 : OR w2 B (.slice (some ⟨g, 0, none⟩) n cap) (tb R C (F1)) := (Ko hown); have hgr_1 : w.grownBy w2 (some g) := (by (with_reducible (repeat (first | assumption | exact World.grownBy.refl _ _ | refine only_alloc ?_ _ | refine only_drewN ?_ _ | refine only_drew ?_ | refine only_set ?_ _ _ | refine grown_far ?_ Ks _ | refine only_trans ?_ (only_of_below (by assumption) _) | refine only_trans ?_ (by assumption))))); clear hb; clear hO hown hgr oa ob oc of ol; have hO := hO_1; have hown := hown_1; have hgr := hgr_1; clear hO_1 hown_1 hgr_1; obtain ⟨oa, ob, oc, of, ol⟩ := hO.mx
                go_wp2_with (go_at_call 201; refine (impl_inverseAny y p (by omega) (by omega) _).mono ?_; rw [HX.out]; rintro e w1 ⟨rfl, hb⟩; have hO_1 : BM w1 w.heap.size R C (some ⟨g, 0, none⟩) n cap := (Kb hO); have hown_1 : OR w1 B (.slice (some ⟨g, 0, none⟩) n cap) (tb R C (F1)) := (Ko hown); have hgr_1 : w.grownBy w1 (some g) := (by (with_reducible (repeat (first | assumption | exact World.grownBy.refl _ _ | refine only_alloc ?_ _ | refine only_drewN ?_ _ | refine only_drew ?_ | refine only_set ?_ _ _ | refine grown_far ?_ Ks _ | refine only_trans ?_ (only_of_below (by assumption) _) | refine only_trans ?_ (by assumption))))); clear hb; clear hO hown hgr oa ob oc of ol; have hO := hO_1; have hown := hown_1; have hgr := hgr_1; clear hO_1 hown_1 hgr_1; obtain ⟨oa, ob, oc, of, ol⟩ := hO.mx)
                obtain ⟨wo3, rfl⟩ : ∃ wo : World, wo = w1 := ⟨_, rfl⟩
                go_loopw [13] (fun v wr => ∃ c : Nat, v = .int .i64 c ∧ c ≤ C ∧ BM wr w.heap.size R C (some ⟨g, 0, none⟩) n cap ∧ OR wr B (.slice (some ⟨g, 0, none⟩) n cap) (tb R C (scK F1 t x p c)) ∧ w.grownBy wr (some g)) (fun v _ => C - (intOf v).toNat)
                case atStart => exact ⟨0, rfl, Nat.zero_le _, hO, by rw [scK_zero]; exact hown, hgr⟩
                case round =>
                  clear hO hown hgr oa ob oc of ol
                  obtain ⟨c, rfl, hc, hO, hown, hgr⟩ := hrel
                  obtain ⟨oa, ob, oc, of, ol⟩ := hO.mx
                  by_cases hcC : c < C
                  · have hzb := HF1.out t c
                    have HST := Lib.hid (scK_step F1 t x p c)
                    generalize hz : F1 t c = z at hzb HST
                    have HZ := Lib.hid hz
                    clear hz
                    have hm4 := mul_bd z x 10000 10000 (by omega) (by omega) (by omega) (by omega)
                    have g1 : IntKind.i64.wrap (z * x) = z * x := IntWalk.i64_in _ (by omega)
                    go_wp2_with fail
                    ((refine wp_region_held_drew (S := (fun w' => w'.cell? ⟨w.heap.size, 0, none⟩ = some (.int .i64 R) ∧ w'.cell? ⟨w.heap.size, 1, none⟩ = some (.int .i64 C) ∧ w'.cell? ⟨w.heap.size, 2, none⟩ = some (.slice (some ⟨g, 0, none⟩) n cap))) (by kernel_rfl) ?_ (fun hHeld => ?_)); ((focus ((try dsimp only); (go_keep)))); ((refine tk_ (i := 0) (v := ?_) (y := Or.inl ⟨by rfl, ?_⟩) (h := ?_); rotate_left; (focus (((intro w hSw; (try dsimp only at hSw); go_simp) <;> (try with_reducible rfl)); done)); (try simp only [Act.put, p1_, p2_, p3_]))); ((refine tk_ (i := 1) (v := ?_) (y := Or.inl ⟨by rfl, ?_⟩) (h := ?_); rotate_left; (focus (((intro w hSw; (try dsimp only at hSw); go_simp) <;> (try with_reducible rfl)); done)); (try simp only [Act.put, p1_, p2_, p3_]))); ((refine tk_ (i := 2) (v := ?_) (y := Or.inl ⟨by rfl, ?_⟩) (h := ?_); rotate_left; (focus (((intro w hSw; (try dsimp only at hSw); go_simp) <;> (try with_reducible rfl)); done)); (try simp only [Act.put, p1_, p2_, p3_]))); ((refine tk_ (i := 3) (v := ?_) (y := Or.inl ⟨by rfl, ?_⟩) (h := ?_); rotate_left; (focus (((intro w hSw; (try dsimp only at hSw); go_simp) <;> (try with_reducible rfl)); done)); (try simp only [Act.put, p1_, p2_, p3_]))); ((refine tk_ (i := 4) (v := ?_) (y := Or.inl ⟨by rfl, ?_⟩) (h := ?_); rotate_left; (focus (((intro w hSw; (try dsimp only at hSw); go_simp) <;> (try with_reducible rfl)); done)); (try simp only [Act.put, p1_, p2_, p3_]))); ((refine tk_ (i := 5) (v := ?_) (y := Or.inl ⟨by rfl, ?_⟩) (h := ?_); rotate_left; (focus (((intro w hSw; (try dsimp only at hSw); go_simp) <;> (try with_reducible rfl)); done)); (try simp only [Act.put, p1_, p2_, p3_]))); ((refine tk_ (i := 7) (v := ?_) (y := Or.inl ⟨by rfl, ?_⟩) (h := ?_); rotate_left; (focus (((intro w hSw; (try dsimp only at hSw); go_simp) <;> (try with_reducible rfl)); done)); (try simp only [Act.put, p1_, p2_, p3_]))); ((refine tk_ (i := 9) (v := ?_) (y := Or.inl ⟨by rfl, ?_⟩) (h := ?_); rotate_left; (focus (((intro w hSw; (try dsimp only at hSw); go_simp) <;> (try with_reducible rfl)); done)); (try simp only [Act.put, p1_, p2_, p3_]))); ((refine wpAnyH_ready (rs := [6]) (by kernel_rfl) (by simp) ?_; refine AllReadyH.cons (by simp only [e1_, e2_, e3_]; try rfl) (fun K hK => ?_) AllReadyH.nil; go_simp; (go_at_call 117; refine (impl_at_tb R C _ _ _ n cap (scK F1 t x p c) z ((scK_at _ _ _ _ _).trans HZ.out) _ (B := B) (Ko hown) (by omega) (by omega) (by omega) (by omega)).mono ?_; rintro e w1 ⟨rfl, hb⟩; have hO_1 : BM w1 w.heap.size R C (some ⟨g, 0, none⟩) n cap := (Kb hO); have hown_1 : OR w1 B (.slice (some ⟨g, 0, none⟩) n cap) (tb R C ((scK F1 t x p c))) := (Ko hown); have hgr_1 : w.grownBy w1 (some g) := (by (with_reducible (repeat (first | assumption | exact World.grownBy.refl _ _ | refine only_alloc ?_ _ | refine only_drewN ?_ _ | refine only_drew ?_ | refine only_set ?_ _ _ | refine grown_far ?_ Ks _ | refine only_trans ?_ (only_of_below (by assumption) _) | refine only_trans ?_ (by assumption))))); clear hb; clear hO hown hgr oa ob oc of ol; have hO := hO_1; have hown := hown_1; have hgr := hgr_1; clear hO_1 hown_1 hgr_1; obtain ⟨oa, ob, oc, of, ol⟩ := hO.mx); (try go_wp2_with fail); refine hK.out _ _ ?_ (fun hHeld => ?_); (focus ((try dsimp only); (go_keep))); clear hK K; (try simp only [Act.put, p1_, p2_, p3_]))); ((refine tk_ (i := 8) (v := ?_) (y := Or.inl ⟨by rfl, ?_⟩) (h := ?_); rotate_left; (focus (((intro w hSw; (try dsimp only at hSw); go_simp) <;> (try with_reducible rfl)); done)); (try simp only [Act.put, p1_, p2_, p3_]))); ((refine wpAnyH_ready (rs := [10]) (by kernel_rfl) (by simp) ?_; refine AllReadyH.cons (by simp only [e1_, e2_, e3_]; try rfl) (fun K hK => ?_) AllReadyH.nil; go_simp; (go_at_call 130; refine (impl_mod _ _ _ (by omega) (by omega) (by omega) (by omega)).mono ?_; rintro e w' ⟨rfl, rfl⟩); (try go_wp2_with fail); refine hK.out _ _ ?_ (fun hHeld => ?_); (focus ((try dsimp only); (go_keep))); clear hK K; (try simp only [Act.put, p1_, p2_, p3_]))); ((refine wpAnyH_ready (rs := [11]) (by kernel_rfl) (by simp) ?_; refine AllReadyH.cons (by simp only [e1_, e2_, e3_]; try rfl) (fun K hK => ?_) AllReadyH.nil; go_simp; (go_at_call 125; refine (impl_set_tb R C _ _ _ _ n cap (scK F1 t x p c) (scK F1 t x p (c + 1)) HST.out _ (B := B) (Ko hown) (by omega) (by omega) (by omega) (by omega)).mono ?_; rintro e w1 ⟨rfl, hown_1, hgr_0, hsz_0⟩; have hO_1 : BM w1 w.heap.size R C (some ⟨g, 0, none⟩) n cap := (hO.grown hgr_0 (by simp [Value.ownBlock]; omega)); have hgr_1 : w.grownBy w1 (some g) := (only_trans hgr hgr_0); clear hgr_0 hsz_0; clear hO hown hgr oa ob oc of ol; have hO := hO_1; have hown := hown_1; have hgr := hgr_1; clear hO_1 hown_1 hgr_1; obtain ⟨oa, ob, oc, of, ol⟩ := hO.mx); (try go_wp2_with fail); refine hK.out _ _ ?_ (fun hHeld => ?_); (focus ((try dsimp only); (go_keep))); clear hK K; (try simp only [Act.put, p1_, p2_, p3_]))); (refine wpAnyH_done (by kernel_rfl) ?_ _))
                    clear g1
                    go_wp2
                    go_roundw
                    case rel => exact ⟨c + 1, by go_num, by omega, hO, hown, hgr⟩
                    case measure => simp only [intOf]; omega
                  · obtain rfl : C = c := by omega
                    have hown2 := hown.as (scK_end F1 t x p)
                    have HF2 : Hid (∀ i c, 0 ≤ scF F1 t x p i c ∧ scF F1 t x p i c < p) := Lib.hid (fun i c => by
                      unfold scF
                      split
                      · exact emod_bds _ _ (by omega)
                      · exact HF1.out i c)
                    clear hown
                    have hown := hown2
                    clear hown2
                    have hokn2 := hokn
                    have hnx2 := hnx.out
                    rw [HC.out] at hokn2 hnx2
                    have HOKN := Lib.hid hokn2
                    have HCOL := Lib.hid (hnx2.symm.trans hcol.out)
                    clear hokn2 hnx2
                    generalize scF F1 t x p = F2 at *
                    go_wp2_with fail
                    obtain ⟨wo4, rfl⟩ : ∃ wo : World, wo = wr := ⟨_, rfl⟩
                    go_loopw [14, 15, 16] (fun v _ _ wr => ∃ i : Nat, v = .int .i64 i ∧ i ≤ R ∧ BM wr w.heap.size R C (some ⟨g, 0, none⟩) n cap ∧ OR wr B (.slice (some ⟨g, 0, none⟩) n cap) (tb R C (elK F2 t j p i 0)) ∧ w.grownBy wr (some g)) (fun v _ _ _ => R - (intOf v).toNat)
                    case atStart => exact ⟨0, rfl, Nat.zero_le _, hO, by rw [elK_zero]; exact hown, hgr⟩
                    case round =>
                      clear hO hown hgr oa ob oc of ol
                      obtain ⟨i, rfl, hi, hO, hown, hgr⟩ := hrel
                      obtain ⟨oa, ob, oc, of, ol⟩ := hO.mx
                      by_cases hiR : i < R
                      · have hqb := HF2.out i j
                        have HAT0 := Lib.hid (elK_at F2 t j p i 0 j (Nat.zero_le _))
                        generalize hq : F2 i j = q at hqb HAT0
                        have HQ := Lib.hid hq
                        clear hq
                        by_cases hit : i = t
                        · have hb1 : ((i : Int) != (t : Int)) = false := by simp [hit]
                          have hnx3 := hown.as (elK_skip' F2 j p hit)
                          clear hit
                          go_wp2_with (go_at_call 117; refine (impl_at_tb R C _ _ _ n cap (elK F2 t j p i 0) q HAT0.out _ (B := B) (Ko hown) (by omega) (by omega) (by omega) (by omega)).mono ?_; rintro e w1 ⟨rfl, hb⟩; (have hnx4 : OR w1 B (.slice (some ⟨g, 0, none⟩) n cap) (tb R C (elK F2 t j p (i + 1) 0)) := (Ko hnx3)); have hO_1 : BM w1 w.heap.size R C (some ⟨g, 0, none⟩) n cap := (Kb hO); have hown_1 : OR w1 B (.slice (some ⟨g, 0, none⟩) n cap) (tb R C ((elK F2 t j p i 0))) := (Ko hown); have hgr_1 : w.grownBy w1 (some g) := (by (with_reducible (repeat (first | assumption | exact World.grownBy.refl _ _ | refine only_alloc ?_ _ | refine only_drewN ?_ _ | refine only_drew ?_ | refine only_set ?_ _ _ | refine grown_far ?_ Ks _ | refine only_trans ?_ (only_of_below (by assumption) _) | refine only_trans ?_ (by assumption))))); clear hb; clear hO hown hgr oa ob oc of ol; have hO := hO_1; have hown := hown_1; have hgr := hgr_1; clear hO_1 hown_1 hgr_1; obtain ⟨oa, ob, oc, of, ol⟩ := hO.mx)
                          refine wp_loop_rounds 1 ?_
                          rw [rounds_succ]
                          go_wp2
                          go_roundw
                          case rel => exact ⟨i + 1, by go_num, by omega, hO, hnx4, hgr⟩
                          case measure => simp only [intOf]; omega
                        · have hb1 : ((i : Int) != (t : Int)) = true := by simp; omega
                          have HIT := Lib.hid hit
                          clear hit
                          go_wp2_with (go_at_call 117; refine (impl_at_tb R C _ _ _ n cap (elK F2 t j p i 0) q HAT0.out _ (B := B) (Ko hown) (by omega) (by omega) (by omega) (by omega)).mono ?_; rintro e w1 ⟨rfl, hb⟩; have hO_1 : BM w1 w.heap.size R C (some ⟨g, 0, none⟩) n cap := (Kb hO); have hown_1 : OR w1 B (.slice (some ⟨g, 0, none⟩) n cap) (tb R C ((elK F2 t j p i 0))) := (Ko hown); have hgr_1 : w.grownBy w1 (some g) := (by (with_reducible (repeat (first | assumption | exact World.grownBy.refl _ _ | refine only_alloc ?_ _ | refine only_drewN ?_ _ | refine only_drew ?_ | refine only_set ?_ _ _ | refine grown_far ?_ Ks _ | refine only_trans ?_ (only_of_below (by assumption) _) | refine only_trans ?_ (by assumption))))); clear hb; clear hO hown hgr oa ob oc of ol; have hO := hO_1; have hown := hown_1; have hgr := hgr_1; clear hO_1 hown_1 hgr_1; obtain ⟨oa, ob, oc, of, ol⟩ := hO.mx)
                          obtain ⟨wo5, rfl⟩ : ∃ wo : World, wo = w1 := ⟨_, rfl⟩
                          go_loopw [16] (fun v wr => ∃ c : Nat, v = .int .i64 c ∧ c ≤ C ∧ BM wr w.heap.size R C (some ⟨g, 0, none⟩) n cap ∧ OR wr B (.slice (some ⟨g, 0, none⟩) n cap) (tb R C (elK F2 t j p i c)) ∧ w.grownBy wr (some g)) (fun v _ => C - (intOf v).toNat)
                          case atStart => exact ⟨0, rfl, Nat.zero_le _, hO, hown, hgr⟩
                          case round =>
                            clear hO hown hgr oa ob oc of ol
                            obtain ⟨c, rfl, hc, hO, hown, hgr⟩ := hrel
                            obtain ⟨oa, ob, oc, of, ol⟩ := hO.mx
                            by_cases hcC : c < C
                            · have hz1 := HF2.out i c
                              have hz2 := HF2.out t c
                              have HA1 := Lib.hid (elK_at F2 t j p i c c (Nat.le_refl _))
                              have HA2 := Lib.hid (elK_t F2 t j p i c c)
                              have hst := elK_step (f := F2) (j := j) p c HIT.out
                              unfold elAt at hst
                              rw [HQ.out] at hst
                              have HST := Lib.hid hst
                              clear hst
                              generalize F2 i c = z1 at *
                              generalize F2 t c = z2 at *
                              have hm5 := mul_bd q z2 10000 10000 (by omega) (by omega) (by omega) (by omega)
                              have g1 : IntKind.i64.wrap (q * z2) = q * z2 := IntWalk.i64_in _ (by omega)
                              have g2 : IntKind.i64.wrap (z1 - q * z2) = z1 - q * z2 := IntWalk.i64_in _ (by omega)
                              go_wp2_with fail
                              ((refine wp_region_held_drew (S := (fun w' => w'.cell? ⟨w.heap.size, 0, none⟩ = some (.int .i64 R) ∧ w'.cell? ⟨w.heap.size, 1, none⟩ = some (.int .i64 C) ∧ w'.cell? ⟨w.heap.size, 2, none⟩ = some (.slice (some ⟨g, 0, none⟩) n cap))) (by kernel_rfl) ?_ (fun hHeld => ?_)); ((focus ((try dsimp only); (go_keep)))); ((refine tk_ (i := 0) (v := ?_) (y := Or.inl ⟨by rfl, ?_⟩) (h := ?_); rotate_left; (focus (((intro w hSw; (try dsimp only at hSw); go_simp) <;> (try with_reducible rfl)); done)); (try simp only [Act.put, p1_, p2_, p3_]))); ((refine tk_ (i := 1) (v := ?_) (y := Or.inl ⟨by rfl, ?_⟩) (h := ?_); rotate_left; (focus (((intro w hSw; (try dsimp only at hSw); go_simp) <;> (try with_reducible rfl)); done)); (try simp only [Act.put, p1_, p2_, p3_]))); ((refine tk_ (i := 2) (v := ?_) (y := Or.inl ⟨by rfl, ?_⟩) (h := ?_); rotate_left; (focus (((intro w hSw; (try dsimp only at hSw); go_simp) <;> (try with_reducible rfl)); done)); (try simp only [Act.put, p1_, p2_, p3_]))); ((refine tk_ (i := 3) (v := ?_) (y := Or.inl ⟨by rfl, ?_⟩) (h := ?_); rotate_left; (focus (((intro w hSw; (try dsimp only at hSw); go_simp) <;> (try with_reducible rfl)); done)); (try simp only [Act.put, p1_, p2_, p3_]))); ((refine tk_ (i := 4) (v := ?_) (y := Or.inl ⟨by rfl, ?_⟩) (h := ?_); rotate_left; (focus (((intro w hSw; (try dsimp only at hSw); go_simp) <;> (try with_reducible rfl)); done)); (try simp only [Act.put, p1_, p2_, p3_]))); ((refine tk_ (i := 5) (v := ?_) (y := Or.inl ⟨by rfl, ?_⟩) (h := ?_); rotate_left; (focus (((intro w hSw; (try dsimp only at hSw); go_simp) <;> (try with_reducible rfl)); done)); (try simp only [Act.put, p1_, p2_, p3_]))); ((refine tk_ (i := 7) (v := ?_) (y := Or.inl ⟨by rfl, ?_⟩) (h := ?_); rotate_left; (focus (((intro w hSw; (try dsimp only at hSw); go_simp) <;> (try with_reducible rfl)); done)); (try simp only [Act.put, p1_, p2_, p3_]))); ((refine tk_ (i := 8) (v := ?_) (y := Or.inl ⟨by rfl, ?_⟩) (h := ?_); rotate_left; (focus (((intro w hSw; (try dsimp only at hSw); go_simp) <;> (try with_reducible rfl)); done)); (try simp only [Act.put, p1_, p2_, p3_]))); ((refine tk_ (i := 9) (v := ?_) (y := Or.inl ⟨by rfl, ?_⟩) (h := ?_); rotate_left; (focus (((intro w hSw; (try dsimp only at hSw); go_simp) <;> (try with_reducible rfl)); done)); (try simp only [Act.put, p1_, p2_, p3_]))); ((refine tk_ (i := 10) (v := ?_) (y := Or.inl ⟨by rfl, ?_⟩) (h := ?_); rotate_left; (focus (((intro w hSw; (try dsimp only at hSw); go_simp) <;> (try with_reducible rfl)); done)); (try simp only [Act.put, p1_, p2_, p3_]))); ((refine tk_ (i := 14) (v := ?_) (y := Or.inl ⟨by rfl, ?_⟩) (h := ?_); rotate_left; (focus (((intro w hSw; (try dsimp only at hSw); go_simp) <;> (try with_reducible rfl)); done)); (try simp only [Act.put, p1_, p2_, p3_]))); ((refine wpAnyH_ready (rs := [6]) (by kernel_rfl) (by simp) ?_; refine AllReadyH.cons (by simp only [e1_, e2_, e3_]; try rfl) (fun K hK => ?_) AllReadyH.nil; go_simp; (go_at_call 117; refine (impl_at_tb R C _ _ _ n cap (elK F2 t j p i c) z1 HA1.out _ (B := B) (Ko hown) (by omega) (by omega) (by omega) (by omega)).mono ?_; rintro e w1 ⟨rfl, hb⟩; have hO_1 : BM w1 w.heap.size R C (some ⟨g, 0, none⟩) n cap := (Kb hO); have hown_1 : OR w1 B (.slice (some ⟨g, 0, none⟩) n cap) (tb R C ((elK F2 t j p i c))) := (Ko hown); have hgr_1 : w.grownBy w1 (some g) := (by (with_reducible (repeat (first | assumption | exact World.grownBy.refl _ _ | refine only_alloc ?_ _ | refine only_drewN ?_ _ | refine only_drew ?_ | refine only_set ?_ _ _ | refine grown_far ?_ Ks _ | refine only_trans ?_ (only_of_below (by assumption) _) | refine only_trans ?_ (by assumption))))); clear hb; clear hO hown hgr oa ob oc of ol; have hO := hO_1; have hown := hown_1; have hgr := hgr_1; clear hO_1 hown_1 hgr_1; obtain ⟨oa, ob, oc, of, ol⟩ := hO.mx); (try go_wp2_with fail); refine hK.out _ _ ?_ (fun hHeld => ?_); (focus ((try dsimp only); (go_keep))); clear hK K; (try simp only [Act.put, p1_, p2_, p3_]))); ((refine wpAnyH_ready (rs := [11]) (by kernel_rfl) (by simp) ?_; refine AllReadyH.cons (by simp only [e1_, e2_, e3_]; try rfl) (fun K hK => ?_) AllReadyH.nil; go_simp; (go_at_call 117; refine (impl_at_tb R C _ _ _ n cap (elK F2 t j p i c) z2 HA2.out _ (B := B) (Ko hown) (by omega) (by omega) (by omega) (by omega)).mono ?_; rintro e w1 ⟨rfl, hb⟩; have hO_1 : BM w1 w.heap.size R C (some ⟨g, 0, none⟩) n cap := (Kb hO); have hown_1 : OR w1 B (.slice (some ⟨g, 0, none⟩) n cap) (tb R C ((elK F2 t j p i c))) := (Ko hown); have hgr_1 : w.grownBy w1 (some g) := (by (with_reducible (repeat (first | assumption | exact World.grownBy.refl _ _ | refine only_alloc ?_ _ | refine only_drewN ?_ _ | refine only_drew ?_ | refine only_set ?_ _ _ | refine grown_far ?_ Ks _ | refine only_trans ?_ (only_of_below (by assumption) _) | refine only_trans ?_ (by assumption))))); clear hb; clear hO hown hgr oa ob oc of ol; have hO := hO_1; have hown := hown_1; have hgr := hgr_1; clear hO_1 hown_1 hgr_1; obtain ⟨oa, ob, oc, of, ol⟩ := hO.mx); (try go_wp2_with fail); refine hK.out _ _ ?_ (fun hHeld => ?_); (focus ((try dsimp only); (go_keep))); clear hK K; (try simp only [Act.put, p1_, p2_, p3_]))); ((refine tk_ (i := 12) (v := ?_) (y := Or.inl ⟨by rfl, ?_⟩) (h := ?_); rotate_left; (focus (((intro w hSw; (try dsimp only at hSw); go_simp) <;> (try with_reducible rfl)); done)); (try simp only [Act.put, p1_, p2_, p3_]))); ((refine tk_ (i := 13) (v := ?_) (y := Or.inl ⟨by rfl, ?_⟩) (h := ?_); rotate_left; (focus (((intro w hSw; (try dsimp only at hSw); go_simp) <;> (try with_reducible rfl)); done)); (try simp only [Act.put, p1_, p2_, p3_]))); ((refine wpAnyH_ready (rs := [15]) (by kernel_rfl) (by simp) ?_; refine AllReadyH.cons (by simp only [e1_, e2_, e3_]; try rfl) (fun K hK => ?_) AllReadyH.nil; go_simp; (go_at_call 130; refine (impl_mod _ _ _ (by omega) (by omega) (by omega) (by omega)).mono ?_; rintro e w' ⟨rfl, rfl⟩); (try go_wp2_with fail); refine hK.out _ _ ?_ (fun hHeld => ?_); (focus ((try dsimp only); (go_keep))); clear hK K; (try simp only [Act.put, p1_, p2_, p3_]))); ((refine wpAnyH_ready (rs := [16]) (by kernel_rfl) (by simp) ?_; refine AllReadyH.cons (by simp only [e1_, e2_, e3_]; try rfl) (fun K hK => ?_) AllReadyH.nil; go_simp; (go_at_call 125; refine (impl_set_tb R C _ _ _ _ n cap (elK F2 t j p i c) (elK F2 t j p i (c + 1)) HST.out _ (B := B) (Ko hown) (by omega) (by omega) (by omega) (by omega)).mono ?_; rintro e w1 ⟨rfl, hown_1, hgr_0, hsz_0⟩; have hO_1 : BM w1 w.heap.size R C (some ⟨g, 0, none⟩) n cap := (hO.grown hgr_0 (by simp [Value.ownBlock]; omega)); have hgr_1 : w.grownBy w1 (some g) := (only_trans hgr hgr_0); clear hgr_0 hsz_0; clear hO hown hgr oa ob oc of ol; have hO := hO_1; have hown := hown_1; have hgr := hgr_1; clear hO_1 hown_1 hgr_1; obtain ⟨oa, ob, oc, of, ol⟩ := hO.mx); (try go_wp2_with fail); refine hK.out _ _ ?_ (fun hHeld => ?_); (focus ((try dsimp only); (go_keep))); clear hK K; (try simp only [Act.put, p1_, p2_, p3_]))); (refine wpAnyH_done (by kernel_rfl) ?_ _))
                              clear g1 g2
                              go_wp2
                              go_roundw
                              case rel => exact ⟨c + 1, by go_num, by omega, hO, hown, hgr⟩
                              case measure => simp only [intOf]; omega
                            · obtain rfl : C = c := by omega
                              have hnx3 := hown.as (elK_row F2 t j p i)
                              go_wp2
                              go_roundw
                              case rel => exact ⟨i + 1, by go_num, by omega, hO, hnx3, hgr⟩
                              case measure => simp only [intOf]; omega
                      · obtain rfl : R = i := by omega
                        have hnx3 := hown.as (elK_end F2 t j p)
                        go_wp2
                        go_roundw
                        case rel => exact ⟨j + 1, _, t + 1, _, by go_num, by go_num, rfl, by omega, HOKN.out, HCOL.out, hO, hnx3, hgr⟩
                        case measure => simp only [intOf]; omega
          · obtain rfl : k = R := by omega
            have hP : fnd f j (k - t) t = k := hfn.out.symm.trans (fnd_end f j k)
            have hnx2 := Lib.hid ((colE_no (p := p) (d := d) hP) ▸ hnx.out)
            clear hP
            have hcol2 := Lib.hid (hnx2.out.symm.trans hcol.out)
            go_wp2_with fail
            go_roundw
            case rel => exact ⟨j + 1, f, t, d, by go_num, rfl, rfl, by omega, HOK.out, hcol2.out, hO, hown, hgr⟩
            case measure => simp only [intOf]; omega
      · have hX : X = ⟨f, t, d⟩ := hcol.out.symm.trans (colsE_full (by show R ≤ t; omega) _ _)
        subst hX
        go_wp2_with fail
        go_ret2
        exact WW.mk rfl hown hgr (Nat.le_of_lt ol)
    · obtain rfl : j = cols := by omega
      have hX : X = ⟨f, t, d⟩ := hcol.out.symm.trans (colsE_end _ _ _ _)
      subst hX
      go_wp2_with fail
      go_ret2
      exact WW.mk rfl hown hgr (Nat.le_of_lt ol)
end Go.Proofs.Ytacjonkehcamgaa

/-
  DERIVED. A part of a row anew; a matrix of zeros. No program in sight.
-/
namespace Go.Proofs.Ytacjonkehcamgaa
set_option linter.unusedVariables false
theorem splL_get {xs ys : List Int} {off q : Nat} (h : off + ys.length ≤ xs.length) : (splL xs off ys).getD q 0 = if off ≤ q ∧ q < off + ys.length then ys.getD (q - off) 0 else xs.getD q 0 := by
  by_cases h1 : off ≤ q ∧ q < off + ys.length
  · rw [if_pos h1]
    have := splL_getD (xs := xs) (ys := ys) (off := off) (k := q - off) h (by omega)
    rw [show off + (q - off) = q by omega] at this
    exact this
  · rw [if_neg h1]
    have htl : (xs.take off).length = off := by rw [List.length_take]; omega
    unfold splL
    simp only [List.getD]
    congr 1
    by_cases h2 : q < off
    · rw [List.append_assoc, List.getElem?_append_left (by omega), List.getElem?_take_of_lt h2]
    · rw [List.getElem?_append_right (by rw [List.length_append, htl]; omega), List.getElem?_drop, List.length_append, htl]
      congr 1
      omega
/-- Row i anew from place o on. -/
def setW (f : Nat → Nat → Int) (i o : Nat) (ys : List Int) : Nat → Nat → Int := fun a c => if a = i ∧ o ≤ c ∧ c < o + ys.length then ys.getD (c - o) 0 else f a c
theorem spl_tbo {R C i o : Nat} {f : Nat → Nat → Int} {ys : List Int} (hi : i < R) (hy : o + ys.length ≤ C) : splL (tb R C f) (i * C + o) ys = tb R C (setW f i o ys) := by
  have hl : i * C + C ≤ R * C := by
    have h3 := Nat.mul_le_mul_right C (show i + 1 ≤ R by omega); rw [Nat.add_mul, Nat.one_mul] at h3; exact h3
  have hf : i * C + o + ys.length ≤ (tb R C f).length := by rw [tb_len]; omega
  have hlen : (splL (tb R C f) (i * C + o) ys).length = R * C := by rw [splL_len hf, tb_len]
  rw [tb_of hlen]
  apply tb_ext
  intro a c ha hc
  rw [cel_nat, splL_get hf]
  unfold setW
  rcases Nat.lt_trichotomy a i with h | h | h
  · have h3 := Nat.mul_le_mul_right C (show a + 1 ≤ i by omega)
    rw [Nat.add_mul, Nat.one_mul] at h3
    rw [if_neg (by omega), if_neg (by omega), tb_at ha hc]
  · subst h
    by_cases h4 : o ≤ c ∧ c < o + ys.length
    · rw [if_pos (by omega), if_pos ⟨rfl, h4⟩]
      congr 1
      omega
    · rw [if_neg (by omega), if_neg (by omega), tb_at ha hc]
  · have h3 := Nat.mul_le_mul_right C (show i + 1 ≤ a by omega)
    rw [Nat.add_mul, Nat.one_mul] at h3
    rw [if_neg (by omega), if_neg (by omega), tb_at ha hc]
theorem tb_zeros (R C : Nat) : tb R C (fun _ _ => 0) = List.replicate (R * C) 0 := by
  unfold tb tab
  apply List.ext_getElem?
  intro i
  by_cases h : i < R * C <;> simp [h]
end Go.Proofs.Ytacjonkehcamgaa

/-
  DERIVED. What is left behind the two sweeps of a round, and whether another one follows: no program in sight.
-/
namespace Go.Proofs.Ytacjonkehcamgaa
set_option linter.unusedVariables false
/-- What is left behind the two sweeps. -/
theorem clnS_of {R C t : Nat} {f : Fn2} (h1 : ∀ x, t < x → x < R → f x t = 0) (h2 : ∀ y, t < y → y < C → f t y = 0) : clnS R C t f = true := by
  unfold clnS
  have a1 : oth R f t t t = false := by
    refine Bool.eq_false_iff.2 fun h => ?_
    obtain ⟨i, a, b, c, d⟩ := oth_iff.1 h
    exact d (h1 i (by omega) b)
  have a2 : oth C (tp f) t t t = false := by
    refine Bool.eq_false_iff.2 fun h => ?_
    obtain ⟨i, a, b, c, d⟩ := oth_iff.1 h
    exact d (h2 i (by omega) b)
  rw [a1, a2]; rfl
theorem clnS_not {R C t : Nat} {f : Fn2} (h : (∃ x, t < x ∧ x < R ∧ f x t ≠ 0) ∨ ∃ y, t < y ∧ y < C ∧ f t y ≠ 0) : clnS R C t f = false := by
  refine Bool.eq_false_iff.2 fun hc => ?_
  obtain ⟨z1, z2⟩ := clnS_yes hc
  rcases h with ⟨x, a, b, c⟩ | ⟨y, a, b, c⟩
  · exact c (z1 x a b)
  · exact c (z2 y a b)
theorem fdS_all {f : Fn2} {t C : Nat} : ∀ m i, (∀ k, i ≤ k → k < i + m → fdR f t C k = false) → fdS f t C i m = none
  | 0, i, _ => rfl
  | m + 1, i, h => by rw [fdS_no (h i (Nat.le_refl _) (by omega))]; exact fdS_all m (i + 1) fun k h1 h2 => h k (by omega) (by omega)
theorem fdS_first {f : Fn2} {t C k : Nat} : ∀ m i, i ≤ k → k < i + m → (∀ x, i ≤ x → x < k → fdR f t C x = false) → fdR f t C k = true → fdS f t C i m = some k
  | 0, i, h1, h2, _, _ => by omega
  | m + 1, i, h1, h2, h3, h4 => by
    by_cases e : i = k
    · subst e; exact fdS_yes h4
    · rw [fdS_no (h3 i (Nat.le_refl _) (by omega))]
      exact fdS_first m (i + 1) (by omega) (by omega) (fun x a b => h3 x (by omega) b) h4
theorem fd_none {f : Fn2} {R C t : Nat} (h : ∀ k, t < k → k < R → fdR f t C k = false) : fd R C t f = none := fdS_all _ _ fun k h1 h2 => h k (by omega) (by omega)
theorem fd_first {f : Fn2} {R C t k : Nat} (h1 : t < k) (h2 : k < R) (h3 : ∀ x, t < x → x < k → fdR f t C x = false) (h4 : fdR f t C k = true) : fd R C t f = some k :=
  fdS_first _ _ (by omega) (by omega) (fun x a b => h3 x (by omega) b) h4
theorem sfD_left {R C t : Nat} {s : SS} (h : clnS R C t s.f = false) : sfD R C t s = (s, false) := by unfold sfD; rw [h]; rfl
theorem sfD_done {R C t : Nat} {s : SS} (h : clnS R C t s.f = true) (h2 : fd R C t s.f = none) : sfD R C t s = (s, true) := by unfold sfD; rw [h, if_pos rfl, h2]
theorem sfD_next {R C t i : Nat} {s : SS} (h : clnS R C t s.f = true) (h2 : fd R C t s.f = some i) : sfD R C t s = (s.wr (s.row.add t i 1), false) := by unfold sfD; rw [h, if_pos rfl, h2]
theorem rnd_of {R C t p q : Nat} {s : SS} (e : ls2 R C s.f t = ((p : Int), (q : Int))) : rnd R C t s = sfD R C t (sfC C t (sfB R t (sfA2 t q (sfA1 t p s)))) := by
  unfold rnd sfA
  rw [e]
  rfl
end Go.Proofs.Ytacjonkehcamgaa

/-
  DERIVED. The Hermite form: what HermiteForm of both answers, and its result's form: two matrices and a flag.
-/
namespace Go.Proofs.Ytacjonkehcamgaa
open Go.RowKit
set_option linter.unusedVariables false
def hmX (r c : Int) (xs : List Int) : Option (HS × Nat) := if isMat r c xs then hmRun r.toNat c.toNat (fun i j => cel xs c i j) else none
def hmMO (r c : Int) : Option (HS × Nat) → Mx
  | some x => ⟨r, c, tb r.toNat c.toNat x.1.f⟩
  | none => .none
def hmUO (r : Int) : Option (HS × Nat) → Mx
  | some x => ⟨r, r, tb r.toNat r.toNat x.1.g⟩
  | none => .none
def hmM (r c : Int) (xs : List Int) : Mx := hmMO r c (hmX r c xs)
def hmU (r c : Int) (xs : List Int) : Mx := hmUO r (hmX r c xs)
theorem hmX_no {r c : Int} {xs : List Int} (h : isMat r c xs = false) : hmX r c xs = none := by unfold hmX; rw [h]; rfl
theorem hmX_yes {R C : Nat} {xs : List Int} (h : isMat R C xs = true) : hmX R C xs = hmOut R C C 0 0 ⟨fun i j => cel xs C i j, idF⟩ := by unfold hmX; rw [h]; rfl
/-- The call returned two matrices, their cells their own, and the flag. -/
def M2R (m m' : Mx) (b : Bool) (w : World) (e : Ending) (w' : World) : Prop :=
  ∃ A n cap A2 n2 cap2, e = .returned (.tuple #[.agg #[.int .i64 m.r, .int .i64 m.c, .slice A n cap], .agg #[.int .i64 m'.r, .int .i64 m'.c, .slice A2 n2 cap2], .bool b]) ∧ OR w' w.heap.size (.slice A n cap) m.xs ∧ OR w' w.heap.size (.slice A2 n2 cap2) m'.xs ∧ Apart (.slice A n cap) (.slice A2 n2 cap2) ∧ Below w.heap.size w w'
theorem M2R.none_ {r c : Int} {X : Option (HS × Nat)} {w w' : World} (hX : X = none) (hb : Below w.heap.size w w') :
    M2R (hmMO r c X) (hmUO r X) X.isSome w (.returned (.tuple #[.agg #[.int .i64 0, .int .i64 0, .slice none 0 0], .agg #[.int .i64 0, .int .i64 0, .slice none 0 0], .bool false])) w' := by
  subst hX
  refine ⟨none, 0, 0, none, 0, 0, rfl, OR.nil_ _ _, OR.nil_ _ _, ?_, hb⟩
  intro g h1
  simp [Value.ownBlock] at h1
theorem M2R.some_ {R C t : Nat} {s : HS} {X : Option (HS × Nat)} {w w' : World} {A A2 : Option Addr} {n cap n2 cap2 : Nat} (hX : X = some (s, t)) (h1 : OR w' w.heap.size (.slice A n cap) (tb R C s.f)) (h2 : OR w' w.heap.size (.slice A2 n2 cap2) (tb R R s.g)) (ha : Apart (.slice A n cap) (.slice A2 n2 cap2)) (hb : Below w.heap.size w w') :
    M2R (hmMO R C X) (hmUO R X) X.isSome w (.returned (.tuple #[.agg #[.int .i64 R, .int .i64 C, .slice A n cap], .agg #[.int .i64 R, .int .i64 R, .slice A2 n2 cap2], .bool true])) w' := by
  subst hX
  exact ⟨A, n, cap, A2, n2, cap2, rfl, h1, h2, ha, hb⟩
theorem ret_M2 {fn : Func} {R : Ending → World → Prop} {a : Act} {w : World} {t t' s : Tmp} {b n cap b' n' cap' : Nat} {r c r' c' : Int} {A A' : Option Addr} (hr : fn.results = #[.cell t 26, .cell t' 26, .tmp s])
    (ht : a.tmps.getD t undef = .pointer (some ⟨b, 0, none⟩)) (ht' : a.tmps.getD t' undef = .pointer (some ⟨b', 0, none⟩)) (h : BM w b r c A n cap) (h' : BM w b' r' c' A' n' cap') (hd : a.defers = [])
    (hR : R (.returned (.tuple #[.agg #[.int .i64 r, .int .i64 c, .slice A n cap], .agg #[.int .i64 r', .int .i64 c', .slice A' n' cap'], a.tmps.getD s undef])) w) : bodyPost Try.prog fn R .ret a w :=
  bodyPost_ret (v := .tuple #[.agg #[.int .i64 r, .int .i64 c, .slice A n cap], .agg #[.int .i64 r', .int .i64 c', .slice A' n' cap'], a.tmps.getD s undef]) (by
    obtain ⟨r0, r1, r2, rf, rl⟩ := h.mx
    obtain ⟨s0, s1, s2, sf, sl⟩ := h'.mx
    simp only [Array.getD_eq_getD_getElem?] at ht ht'
    simp [results, hr, ht, ht', go_sem, r0, r1, r2, s0, s1, s2]) hd hR
end Go.Proofs.Ytacjonkehcamgaa

/-
  DERIVED. Sums of rows; two matrices whose rows span the same. No program in sight.
-/
namespace Go.Proofs.Ytacjonkehcamgaa
set_option linter.unusedVariables false
/-- v is a sum of rows. -/
def Sp (R C : Nat) (f : Fn2) (v : Nat → Int) : Prop := ∃ c : Nat → Int, ∀ y, y < C → v y = sumTo (fun k => c k * f k y) R
theorem Sp.row {R C : Nat} {f : Fn2} {i : Nat} (hi : i < R) : Sp R C f (f i) := ⟨idF i, fun y hy => by
  rw [sumTo_one (i := i) R hi (fun k hk hne => by unfold idF; rw [if_neg (fun e => hne e.symm), Int.zero_mul])]
  unfold idF; rw [if_pos rfl, Int.one_mul]⟩
theorem Sp.add {R C : Nat} {f : Fn2} {u v z : Nat → Int} {t : Int} (h : Sp R C f u) (h2 : Sp R C f v) (e : ∀ y, y < C → z y = u y + v y * t) : Sp R C f z := by
  obtain ⟨c, hc⟩ := h
  obtain ⟨d, hd⟩ := h2
  refine ⟨fun k => c k + d k * t, fun y hy => ?_⟩
  rw [e y hy, hc y hy, hd y hy, ← sumTo_mul, ← sumTo_add]
  exact sumTo_congr R fun k _ => by grind
theorem Sp.neg {R C : Nat} {f : Fn2} {u z : Nat → Int} (h : Sp R C f u) (e : ∀ y, y < C → z y = -u y) : Sp R C f z := by
  obtain ⟨c, hc⟩ := h
  refine ⟨fun k => -c k, fun y hy => ?_⟩
  rw [e y hy, hc y hy, ← sumTo_neg]
  exact sumTo_congr R fun k _ => by grind
theorem Sp.as {R C : Nat} {f : Fn2} {u z : Nat → Int} (h : Sp R C f u) (e : ∀ y, y < C → z y = u y) : Sp R C f z := by
  obtain ⟨c, hc⟩ := h
  exact ⟨c, fun y hy => by rw [e y hy, hc y hy]⟩
theorem Sp.trans {R R' C : Nat} {f g : Fn2} {v : Nat → Int} (h : Sp R C f v) (k : ∀ i, i < R → Sp R' C g (f i)) : Sp R' C g v := by
  obtain ⟨c, hc⟩ := h
  have hd : ∀ i, ∃ d : Nat → Int, i < R → ∀ y, y < C → f i y = sumTo (fun l => d l * g l y) R' := fun i => by
    by_cases hi : i < R
    · obtain ⟨d, hd⟩ := k i hi
      exact ⟨d, fun _ => hd⟩
    · exact ⟨fun _ => 0, fun h => absurd h hi⟩
  let d : Fn2 := fun i => Classical.choose (hd i)
  have hdd : ∀ i, i < R → ∀ y, y < C → f i y = sumTo (fun l => d i l * g l y) R' := fun i => Classical.choose_spec (hd i)
  refine ⟨fun l => sumTo (fun i => c i * d i l) R, fun y hy => ?_⟩
  rw [hc y hy]
  have e1 : sumTo (fun k => c k * f k y) R = sumTo (fun k => sumTo (fun l => c k * (d k l * g l y)) R') R := sumTo_congr R fun k hk => by
    rw [hdd k hk y hy, sumTo_mul']
  rw [e1, sumTo_swap]
  refine sumTo_congr R' fun l hl => ?_
  rw [← sumTo_mul]
  exact sumTo_congr R fun k hk => by grind
theorem Sp.mm {R n C : Nat} {a f : Fn2} {i : Nat} (hi : i < n) : Sp R C f (mm R a f i) := ⟨a i, fun y _ => rfl⟩
/-- Rows of both span the same. -/
def SPN (R C : Nat) (m f : Fn2) : Prop := (∀ i, i < R → Sp R C m (f i)) ∧ ∀ i, i < R → Sp R C f (m i)
theorem SPN.add {R C i j : Nat} {t : Int} {m f f' : Fn2} (h : SPN R C m f) (hi : i < R) (hj : j < R) (hij : i ≠ j) (h1 : ∀ y, y < C → f' i y = f i y + f j y * t) (h2 : ∀ x y, x < R → y < C → x ≠ i → f' x y = f x y) : SPN R C m f' := by
  have hr : ∀ x, x < R → Sp R C f' (f x) := fun x hx => by
    by_cases e : x = i
    · subst e
      exact Sp.add (t := -t) (Sp.row hi) (Sp.row (i := j) hj) fun y hy => by rw [h1 y hy, h2 j y hj hy (fun e => hij e.symm)]; grind
    · exact (Sp.row hx).as fun y hy => (h2 x y hx hy e).symm
  refine ⟨fun x hx => ?_, fun x hx => (h.2 x hx).trans hr⟩
  by_cases e : x = i
  · subst e
    exact Sp.add (h.1 x hx) (h.1 j hj) h1
  · exact (h.1 x hx).as fun y hy => h2 x y hx hy e
theorem SPN.neg {R C i : Nat} {m f f' : Fn2} (h : SPN R C m f) (hi : i < R) (h1 : ∀ y, y < C → f' i y = -f i y) (h2 : ∀ x y, x < R → y < C → x ≠ i → f' x y = f x y) : SPN R C m f' := by
  have hr : ∀ x, x < R → Sp R C f' (f x) := fun x hx => by
    by_cases e : x = i
    · subst e
      exact Sp.neg (Sp.row hx) fun y hy => by rw [h1 y hy]; omega
    · exact (Sp.row hx).as fun y hy => (h2 x y hx hy e).symm
  refine ⟨fun x hx => ?_, fun x hx => (h.2 x hx).trans hr⟩
  by_cases e : x = i
  · subst e
    exact Sp.neg (h.1 x hx) h1
  · exact (h.1 x hx).as fun y hy => h2 x y hx hy e
theorem SPN.swap {R C i j : Nat} {m f : Fn2} (h : SPN R C m f) (hi : i < R) (hj : j < R) : SPN R C m (swF f i j) := by
  have e1 : ∀ x, ∃ z, (x < R → z < R) ∧ swF f i j x = f z := fun x => ⟨if x = i then j else if x = j then i else x, fun hx => (by (split; exact hj; split; exact hi; exact hx)), rfl⟩
  have e2 : ∀ x, ∃ z, (x < R → z < R) ∧ f x = swF f i j z := fun x => by
    refine ⟨if x = i then j else if x = j then i else x, fun hx => (by (split; exact hj; split; exact hi; exact hx)), ?_⟩
    funext y
    unfold swF
    congr 1
    by_cases a : x = i
    · subst a
      rw [if_pos rfl]
      by_cases b : j = x
      · rw [if_pos b, b]
      · rw [if_neg b, if_pos rfl]
    · rw [if_neg a]
      by_cases b : x = j
      · subst b
        rw [if_pos rfl, if_pos rfl]
      · rw [if_neg b, if_neg a, if_neg b]
  refine ⟨fun x hx => ?_, fun x hx => (h.2 x hx).trans fun k hk => ?_⟩
  · obtain ⟨z, hz, e⟩ := e1 x
    rw [e]; exact h.1 z (hz hx)
  · obtain ⟨z, hz, e⟩ := e2 k
    rw [e]; exact Sp.row (hz hk)
theorem SPN.refl (R C : Nat) (m : Fn2) : SPN R C m m := ⟨fun i hi => Sp.row hi, fun i hi => Sp.row hi⟩
theorem SPN.symm {R C : Nat} {m f : Fn2} (h : SPN R C m f) : SPN R C f m := ⟨h.2, h.1⟩
theorem SPN.trans {R C : Nat} {m f g : Fn2} (h : SPN R C m f) (k : SPN R C f g) : SPN R C m g := ⟨fun i hi => (k.1 i hi).trans h.1, fun i hi => (h.2 i hi).trans k.2⟩
/-- A unimodular matrix times another one: the same rows are spanned. -/
theorem SPN.left {n C : Nat} {u m : Fn2} (h : SPN n n idF u) : SPN n C m (mm n u m) := by
  refine ⟨fun i hi => Sp.mm hi, fun i hi => ?_⟩
  obtain ⟨c, hc⟩ := h.2 i hi
  refine ⟨c, fun y hy => ?_⟩
  have e1 : m i y = sumTo (fun l => idF i l * m l y) n := by
    rw [sumTo_one (i := i) n hi (fun k hk hne => by unfold idF; rw [if_neg (fun e => hne e.symm), Int.zero_mul])]
    unfold idF; rw [if_pos rfl, Int.one_mul]
  rw [e1]
  have e2 : sumTo (fun l => idF i l * m l y) n = sumTo (fun l => sumTo (fun k => c k * (u k l * m l y)) n) n := sumTo_congr n fun l hl => by
    rw [hc l hl, ← sumTo_mul]
    exact sumTo_congr n fun k _ => by grind
  rw [e2, sumTo_swap]
  exact sumTo_congr n fun k hk => by rw [sumTo_mul']; rfl
end Go.Proofs.Ytacjonkehcamgaa

/-
  DERIVED. More unknowns than equations have a solution that is not all zeros; how many rows can be independent. No program in sight.
-/
namespace Go.Proofs.Ytacjonkehcamgaa
set_option linter.unusedVariables false
/-- The place that sk leaves out is put back. -/
def unsk (c : Nat) (v : Int) (z : Nat → Int) (j : Nat) : Int := if j < c then z j else if j = c then v else z (j - 1)
theorem unsk_sk (c : Nat) (v : Int) (z : Nat → Int) (k : Nat) : unsk c v z (sk c k) = z k := by
  unfold unsk sk
  by_cases h : k < c
  · rw [if_pos h, if_pos h]
  · rw [if_neg h, if_neg (by omega), if_neg (by omega), Nat.add_sub_cancel]
theorem unsk_at (c : Nat) (v : Int) (z : Nat → Int) : unsk c v z c = v := by
  unfold unsk
  rw [if_neg (Nat.lt_irrefl _), if_pos rfl]
/-- A sum with one place set apart. -/
theorem sumTo_out {g : Nat → Int} {c n : Nat} (hc : c < n + 1) : sumTo g (n + 1) = g c + sumTo (fun k => g (sk c k)) n := by
  rw [sumTo_skip n hc]
  have h1 : sumTo g (n + 1) = sumTo (fun b => (if b = c then g c else 0) + (if b = c then 0 else g b)) (n + 1) := sumTo_congr (n + 1) fun k _ => by
    by_cases h : k = c
    · rw [if_pos h, if_pos h, h, Int.add_zero]
    · rw [if_neg h, if_neg h, Int.zero_add]
  rw [h1, sumTo_add, sumTo_one (i := c) (n + 1) hc (fun k _ hne => if_neg hne), if_pos rfl]
/-- More unknowns than equations. -/
theorem sys_zero : ∀ (m : Nat) (f : Fn2), ∃ z : Nat → Int, (∃ k, k < m + 1 ∧ z k ≠ 0) ∧ ∀ i, i < m → mv (m + 1) f z i = 0
  | 0, f => ⟨fun _ => 1, ⟨0, by omega, by decide⟩, fun i hi => absurd hi (Nat.not_lt_zero _)⟩
  | m + 1, f => by
    by_cases hp : ∃ c, c < m + 2 ∧ f 0 c ≠ 0
    · obtain ⟨c, hc, hne⟩ := hp
      obtain ⟨z, ⟨k, hk, hkz⟩, hz⟩ := sys_zero m fun i j => f 0 c * f (i + 1) (sk c j) - f (i + 1) c * f 0 (sk c j)
      refine ⟨unsk c (-sumTo (fun k => f 0 (sk c k) * z k) (m + 1)) fun k => f 0 c * z k, ⟨sk c k, sk_lt hk, ?_⟩, fun i hi => ?_⟩
      · rw [unsk_sk]
        exact Int.mul_ne_zero hne hkz
      · unfold mv
        rw [sumTo_out (n := m + 1) hc, unsk_at]
        have e1 : sumTo (fun k => f i (sk c k) * unsk c (-sumTo (fun k => f 0 (sk c k) * z k) (m + 1)) (fun k => f 0 c * z k) (sk c k)) (m + 1) = sumTo (fun k => f 0 c * (f i (sk c k) * z k)) (m + 1) := sumTo_congr (m + 1) fun k _ => by
          rw [unsk_sk]; grind
        rw [e1, sumTo_mul']
        rcases Nat.eq_zero_or_pos i with h0 | h0
        · subst h0
          grind
        · obtain ⟨i', rfl⟩ : ∃ i', i = i' + 1 := ⟨i - 1, by omega⟩
          have h2 := hz i' (by omega)
          unfold mv at h2
          have e2 : sumTo (fun k => (f 0 c * f (i' + 1) (sk c k) - f (i' + 1) c * f 0 (sk c k)) * z k) (m + 1) = f 0 c * sumTo (fun k => f (i' + 1) (sk c k) * z k) (m + 1) - f (i' + 1) c * sumTo (fun k => f 0 (sk c k) * z k) (m + 1) := by
            rw [← sumTo_mul', ← sumTo_mul', ← sumTo_sub]
            exact sumTo_congr (m + 1) fun k _ => by grind
          rw [e2] at h2
          grind
    · have h0 : ∀ c, c < m + 2 → f 0 c = 0 := fun c hc => Decidable.byContradiction fun hne => hp ⟨c, hc, hne⟩
      obtain ⟨z, ⟨k, hk, hkz⟩, hz⟩ := sys_zero m fun i j => f (i + 1) j
      refine ⟨fun j => if j < m + 1 then z j else 0, ⟨k, by omega, by show (if _ then _ else _) ≠ _; rw [if_pos hk]; exact hkz⟩, fun i hi => ?_⟩
      show sumTo (fun k => f i k * (if k < m + 1 then z k else 0)) (m + 1 + 1) = 0
      rw [sumTo_succ, if_neg (by omega), Int.mul_zero, Int.add_zero]
      have e1 : sumTo (fun k => f i k * (if k < m + 1 then z k else 0)) (m + 1) = sumTo (fun k => f i k * z k) (m + 1) := sumTo_congr (m + 1) fun k hk => by rw [if_pos hk]
      rw [e1]
      rcases Nat.eq_zero_or_pos i with hi0 | hi0
      · subst hi0
        exact sumTo_null (m + 1) fun k hk => by rw [h0 k (by omega), Int.zero_mul]
      · obtain ⟨i', rfl⟩ : ∃ i', i = i' + 1 := ⟨i - 1, by omega⟩
        exact hz i' (by omega)
/-- The first n rows of C cells are independent. -/
def Ind (n C : Nat) (v : Fn2) : Prop := ∀ z : Nat → Int, (∀ y, y < C → sumTo (fun k => z k * v k y) n = 0) → ∀ k, k < n → z k = 0
/-- Each of the first n rows of v, some times, is a sum of the first m rows of u. -/
def Span (n m C : Nat) (v u : Fn2) : Prop := ∀ i, i < n → ∃ (d : Int) (c : Nat → Int), d ≠ 0 ∧ ∀ y, y < C → d * v i y = sumTo (fun k => c k * u k y) m
theorem Ind.take {n m C : Nat} {v : Fn2} (h : Ind n C v) (hm : m ≤ n) : Ind m C v := fun z hz k hk => by
  have hs : ∀ y (q : Nat), m ≤ q → sumTo (fun k => (if k < m then z k else 0) * v k y) q = sumTo (fun k => z k * v k y) m := fun y q => by
    induction q with
    | zero => intro hq; obtain rfl : m = 0 := by omega
              rfl
    | succ q ih =>
      intro hq
      by_cases e : m = q + 1
      · subst e
        exact sumTo_congr (q + 1) fun k hk => by rw [if_pos hk]
      · rw [sumTo_succ, ih (by omega), if_neg (by omega), Int.zero_mul, Int.add_zero]
  have := h (fun k => if k < m then z k else 0) (fun y hy => by rw [hs y n hm]; exact hz y hy) k (by omega)
  simpa [hk] using this
/-- There are no more independent rows than rows that they are sums of. -/
theorem Ind.le {n m C : Nat} {v u : Fn2} (hi : Ind n C v) (hs : Span n m C v u) : n ≤ m := by
  refine Nat.le_of_not_lt fun hlt => ?_
  have hi' := hi.take (show m + 1 ≤ n by omega)
  have hch : ∀ i, ∃ (d : Int) (c : Nat → Int), i < m + 1 → d ≠ 0 ∧ ∀ y, y < C → d * v i y = sumTo (fun k => c k * u k y) m := fun i => by
    by_cases h : i < m + 1
    · obtain ⟨d, c, h1, h2⟩ := hs i (by omega)
      exact ⟨d, c, fun _ => ⟨h1, h2⟩⟩
    · exact ⟨0, fun _ => 0, fun h2 => absurd h2 h⟩
  obtain ⟨d, hd⟩ := Classical.axiomOfChoice hch
  obtain ⟨c, hc⟩ := Classical.axiomOfChoice hd
  obtain ⟨z, ⟨k, hk, hkz⟩, hz⟩ := sys_zero m fun k i => c i k
  have h0 := hi' (fun i => z i * d i) (fun y hy => by
    have e1 : sumTo (fun i => z i * d i * v i y) (m + 1) = sumTo (fun i => sumTo (fun k => z i * c i k * u k y) m) (m + 1) := sumTo_congr (m + 1) fun i hi => by
      rw [Int.mul_assoc, (hc i hi).2 y hy, ← sumTo_mul']
      exact sumTo_congr m fun k _ => by rw [Int.mul_assoc]
    rw [e1, sumTo_swap]
    refine sumTo_null m fun k hk => ?_
    have e2 : sumTo (fun i => z i * c i k * u k y) (m + 1) = sumTo (fun i => c i k * z i) (m + 1) * u k y := by
      rw [← sumTo_mul]
      exact sumTo_congr (m + 1) fun i _ => by grind
    rw [e2]
    have := hz k hk
    unfold mv at this
    rw [this, Int.zero_mul]) k hk
  exact (Int.mul_ne_zero hkz (hc k hk).1) h0
end Go.Proofs.Ytacjonkehcamgaa

/-
  DERIVED. Elimination with primitive rows, step by step: no program in sight.
-/
namespace Go.Proofs.Ytacjonkehcamgaa
set_option linter.unusedVariables false
def cbV (f : Nat → Nat → Int) (t j i k : Nat) : Int := (f t j).tdiv (Int.gcd (f i j) (f t j) : Nat) * f i k - (f i j).tdiv (Int.gcd (f i j) (f t j) : Nat) * f t k
def cbK (f : Nat → Nat → Int) (t j i k : Nat) : Nat → Nat → Int := fun a c => if a = i ∧ c < k then cbV f t j i c else f a c
theorem cbK_zero (f : Nat → Nat → Int) (t j i : Nat) : cbK f t j i 0 = f := by funext a c; simp [cbK]
theorem cbK_at (f : Nat → Nat → Int) (t j i k c : Nat) (h : k ≤ c) : cbK f t j i k i c = f i c := by unfold cbK; rw [if_neg (by omega)]
theorem cbK_t (f : Nat → Nat → Int) (t j i k c : Nat) (h : i ≠ t) : cbK f t j i k t c = f t c := by unfold cbK; rw [if_neg (by omega)]
theorem cbK_step (f : Nat → Nat → Int) (t j i k : Nat) : upd (cbK f t j i k) i k (cbV f t j i k) = cbK f t j i (k + 1) := by
  funext a c
  unfold upd cbK
  grind
def okQ (C : Nat) (f : Nat → Nat → Int) (t j i : Nat) : Bool := (List.range C).all fun k => isNum (cbV f t j i k)
def stQ (C : Nat) (f : Nat → Nat → Int) (t j i : Nat) : Nat → Nat → Int := prF C (cbK f t j i C) i
def rowsQ (C t j : Nat) : Nat → Nat → (Nat → Nat → Int) → Option (Nat → Nat → Int)
  | 0, _, f => some f
  | n + 1, i, f => if i = t ∨ f i j = 0 then rowsQ C t j n (i + 1) f else if okQ C f t j i = true then rowsQ C t j n (i + 1) (stQ C f t j i) else none
theorem rowsQ_skip {C t j R i : Nat} {f : Nat → Nat → Int} (hi : i < R) (h : i = t ∨ f i j = 0) : rowsQ C t j (R - i) i f = rowsQ C t j (R - (i + 1)) (i + 1) f := by
  rw [show R - i = (R - (i + 1)) + 1 by omega]
  conv => lhs; unfold rowsQ
  rw [if_pos h]
theorem rowsQ_do {C t j R i : Nat} {f : Nat → Nat → Int} (hi : i < R) (h : i ≠ t) (h0 : f i j ≠ 0) (hk : okQ C f t j i = true) : rowsQ C t j (R - i) i f = rowsQ C t j (R - (i + 1)) (i + 1) (stQ C f t j i) := by
  rw [show R - i = (R - (i + 1)) + 1 by omega]
  conv => lhs; unfold rowsQ
  rw [if_neg (by rintro (e | e); exact h e; exact h0 e), if_pos hk]
theorem rowsQ_bad {C t j R i : Nat} {f : Nat → Nat → Int} (hi : i < R) (h : i ≠ t) (h0 : f i j ≠ 0) (hk : okQ C f t j i = false) : rowsQ C t j (R - i) i f = none := by
  rw [show R - i = (R - (i + 1)) + 1 by omega]
  unfold rowsQ
  rw [if_neg (by rintro (e | e); exact h e; exact h0 e), if_neg (by rw [hk]; simp)]
theorem rowsQ_end (C t j R : Nat) (f : Nat → Nat → Int) : rowsQ C t j (R - R) R f = some f := by rw [Nat.sub_self]; rfl
structure QSt where
  f : Nat → Nat → Int
  ps : List Int
def colsQ (R C : Nat) : Nat → Nat → QSt → Option QSt
  | 0, _, s => some s
  | n + 1, j, s =>
    if R ≤ fnd s.f j (R - s.ps.length) s.ps.length then colsQ R C n (j + 1) s else
    match rowsQ C s.ps.length j (R - 0) 0 (swF s.f (fnd s.f j (R - s.ps.length) s.ps.length) s.ps.length) with
    | none => none
    | some f' => colsQ R C n (j + 1) ⟨f', s.ps ++ [(j : Int)]⟩
theorem colsQ_no {R C j : Nat} {f : Nat → Nat → Int} {ps : List Int} (hj : j < C) (hP : fnd f j (R - ps.length) ps.length = R) : colsQ R C (C - j) j ⟨f, ps⟩ = colsQ R C (C - (j + 1)) (j + 1) ⟨f, ps⟩ := by
  rw [show C - j = (C - (j + 1)) + 1 by omega]
  conv => lhs; unfold colsQ
  simp only [hP]
  rw [if_pos (Nat.le_refl _)]
theorem colsQ_none {R C j k : Nat} {f : Nat → Nat → Int} {ps : List Int} (hj : j < C) (hP : fnd f j (R - ps.length) ps.length = k) (hk : k < R) (hr : rowsQ C ps.length j (R - 0) 0 (swF f k ps.length) = none) : colsQ R C (C - j) j ⟨f, ps⟩ = none := by
  rw [show C - j = (C - (j + 1)) + 1 by omega]
  unfold colsQ
  simp only [hP]
  rw [if_neg (by omega), hr]
theorem colsQ_some {R C j k : Nat} {f f' : Nat → Nat → Int} {ps : List Int} (hj : j < C) (hP : fnd f j (R - ps.length) ps.length = k) (hk : k < R) (hr : rowsQ C ps.length j (R - 0) 0 (swF f k ps.length) = some f') : colsQ R C (C - j) j ⟨f, ps⟩ = colsQ R C (C - (j + 1)) (j + 1) ⟨f', ps ++ [(j : Int)]⟩ := by
  rw [show C - j = (C - (j + 1)) + 1 by omega]
  conv => lhs; unfold colsQ
  simp only [hP]
  rw [if_neg (by omega), hr]
theorem colsQ_end (R C : Nat) (s : QSt) : colsQ R C (C - C) C s = some s := by rw [Nat.sub_self]; rfl
theorem colsQ_full {R C : Nat} {s : QSt} (h : R ≤ s.ps.length) : ∀ n j, colsQ R C n j s = some s
  | 0, _ => rfl
  | n + 1, j => by
    unfold colsQ
    have := fnd_le s.f j (R - s.ps.length) s.ps.length
    rw [if_pos (by omega)]
    exact colsQ_full h n (j + 1)
/-- What holds of the rows between the steps: numbers, and primitive. -/
structure QOk (R C : Nat) (f : Nat → Nat → Int) : Prop where
  bd : ∀ i c, i < R → c < C → -400000000 ≤ f i c ∧ f i c ≤ 400000000
  pr : ∀ i, i < R → primL (rw_ C f i) = rw_ C f i
theorem rw_bd {C i : Nat} {f : Nat → Nat → Int} (h : ∀ c, c < C → -400000000 ≤ f i c ∧ f i c ≤ 400000000) (k : Nat) : ((rw_ C f i).getD k 0).natAbs ≤ 400000000 := by
  by_cases hk : k < C
  · rw [rw_at hk]; have := h k hk; omega
  · simp [List.getD, List.getElem?_eq_none (show (rw_ C f i).length ≤ k by rw [rw_len]; omega)]
theorem QOk.sw {R C k t : Nat} {f : Nat → Nat → Int} (h : QOk R C f) (hk : k < R) (ht : t < R) : QOk R C (swF f k t) := by
  have hx : ∀ i, i < R → (if i = k then t else if i = t then k else i) < R := fun i hi => by split; exact ht; split; exact hk; exact hi
  refine ⟨fun i c hi hc => h.bd _ c (hx i hi) hc, fun i hi => ?_⟩
  have e : rw_ C (swF f k t) i = rw_ C f (if i = k then t else if i = t then k else i) := rw_ext fun c hc => rfl
  rw [e]
  exact h.pr _ (hx i hi)
theorem QOk.all {R C : Nat} {f : Nat → Nat → Int} (h : ∀ i c, i < R → c < C → -400000000 ≤ f i c ∧ f i c ≤ 400000000) : QOk R C (prK C f R) := by
  refine ⟨fun i c hi hc => ?_, fun i hi => ?_⟩
  · have h1 := primL_bd (rw_bd (fun c hc => h i c hi hc)) c
    have e : prK C f R i c = (primL (rw_ C f i)).getD c 0 := by simp [prK, hi]
    rw [e]; omega
  · rw [rw_prK hi, primL_idem]
theorem QOk.st {R C t j i : Nat} {f : Nat → Nat → Int} (h : QOk R C f) (hi : i < R) (hk : okQ C f t j i = true) : QOk R C (stQ C f t j i) := by
  have hrow : ∀ c, c < C → -400000000 ≤ cbK f t j i C i c ∧ cbK f t j i C i c ≤ 400000000 := fun c hc => by
    have h1 : isNum (cbV f t j i c) = true := List.all_eq_true.1 hk c (List.mem_range.2 hc)
    have e : cbK f t j i C i c = cbV f t j i c := by unfold cbK; rw [if_pos ⟨rfl, hc⟩]
    rw [e]; exact (isNum_iff _).1 h1
  have hoth : ∀ a c, a ≠ i → cbK f t j i C a c = f a c := fun a c ha => by unfold cbK; rw [if_neg (fun e => ha e.1)]
  refine ⟨fun a c ha hc => ?_, fun a ha => ?_⟩
  · unfold stQ prF setR
    by_cases hai : a = i
    · rw [if_pos hai]
      have := primL_bd (rw_bd hrow) c
      omega
    · rw [if_neg hai, hoth a c hai]; exact h.bd a c ha hc
  · unfold stQ prF
    by_cases hai : a = i
    · subst hai
      rw [rw_setR (by rw [primL_len, rw_len]), primL_idem]
    · rw [rw_setR_ne hai, show rw_ C (cbK f t j i C) a = rw_ C f a from rw_ext fun c hc => hoth a c hai]
      exact h.pr a ha
/-- A row that is primitive stays as it is. -/
theorem prF_same {R C i : Nat} {f : Nat → Nat → Int} (h : primL (rw_ C f i) = rw_ C f i) : tb R C (prF C f i) = tb R C f := tb_ext fun a c ha hc => by
  unfold prF setR
  by_cases hai : a = i
  · rw [if_pos hai, h, rw_at hc, hai]
  · rw [if_neg hai]
/-- The whole. -/
def echQ (R C : Nat) (f : Nat → Nat → Int) : Option QSt := colsQ R C (C - 0) 0 ⟨prK C f R, []⟩
end Go.Proofs.Ytacjonkehcamgaa

/-
  DERIVED. IdentityMatrix of both.
-/
namespace Go.Proofs.Ytacjonkehcamgaa
open Go.RowKit
set_option linter.unusedVariables false
set_option linter.unusedSimpArgs false
def idK (k : Nat) : Fn2 := fun i j => if i = j ∧ i < k then 1 else 0
theorem idK_zero : idK 0 = fun _ _ => 0 := by funext i j; simp [idK]
theorem idK_step (k : Nat) : upd (idK k) k k 1 = idK (k + 1) := by
  funext i j
  unfold upd idK
  by_cases h : i = k ∧ j = k
  · rw [if_pos h, if_pos ⟨by omega, by omega⟩]
  · rw [if_neg h]
    by_cases h2 : i = j ∧ i < k
    · rw [if_pos h2, if_pos ⟨h2.1, by omega⟩]
    · rw [if_neg h2, if_neg]
      rintro ⟨h3, h4⟩
      exact h2 ⟨h3, by have : i ≠ k := fun e => h ⟨e, by omega⟩; omega⟩
theorem idK_end (n : Nat) : tb n n (idK n) = tb n n idF := tb_ext fun i j hi hj => by
  unfold idK idF
  by_cases h : i = j
  · rw [if_pos ⟨h, hi⟩, if_pos h]
  · rw [if_neg (fun k => h k.1), if_neg h]
set_option maxHeartbeats 4000000 in
theorem impl_IdentityMatrix (n : Nat) (w : World) (hn : n ≤ 24) :
    Calls Try.prog 141 #[.int .i64 n] w (MBR ⟨n, n, tb n n idF⟩ true w) := by
  have hnn : n * n ≤ 24 * 24 := Nat.mul_le_mul hn hn
  go_enter Try.func141, Try.ntmps141
  go_wp2_with fail
  refine (impl_newMatrix n n _ (by omega) (by omega) (by omega)).mono ?_
  rintro e w1 ⟨A, m, cap, rfl, how0, hb1⟩
  have hsz1 := hb1.size
  simp at hsz1
  have hR1 : BM w1 w.heap.size 0 0 none 0 0 := Ka
  have hbw1 : Below w.heap.size w w1 := Kw
  generalize hbO : w1.heap.size = bO at *
  have hR : BM (w1.alloc (.cells #[.int .i64 n, .int .i64 n, .slice A m cap] 26)) w.heap.size 0 0 none 0 0 := Kb hR1
  have hO : BM (w1.alloc (.cells #[.int .i64 n, .int .i64 n, .slice A m cap] 26)) bO n n A m cap := Ka
  have hown : OR (w1.alloc (.cells #[.int .i64 n, .int .i64 n, .slice A m cap] 26)) (w.heap.size + 1) (.slice A m cap) (tb n n (idK 0)) := by
    rw [idK_zero, tb_zeros]; exact OR.alloc (OR.mono (xs := List.replicate (n * n) 0) how0 (by simp)) _
  have hbw : Below w.heap.size w (w1.alloc (.cells #[.int .i64 n, .int .i64 n, .slice A m cap] 26)) := Kw
  have HU : Hid (Own (.slice A m cap) (w.heap.size + 1) bO) := Lib.hid (by rw [← hbO]; exact (OR.own (xs := List.replicate (n * n) 0) how0).wide (by simp) (Nat.le_refl _))
  have hbO2 : w.heap.size + 1 ≤ bO := by omega
  clear hR1 hbw1 how0 hb1
  obtain ⟨oa, ob, oc, of, ol⟩ := hO.mx; obtain ⟨ra, rb, rc, rf, rl⟩ := hR.mx
  go_wp2_with fail
  generalize w1.alloc (.cells #[.int .i64 n, .int .i64 n, .slice A m cap] 26) = wo at *
  go_loopw [5] (fun v wr => ∃ k : Nat, v = .int .i64 k ∧ k ≤ n ∧ BM wr w.heap.size 0 0 none 0 0 ∧ BM wr bO n n A m cap ∧ OR wr (w.heap.size + 1) (.slice A m cap) (tb n n (idK k)) ∧ Below w.heap.size w wr) (fun v _ => n - (intOf v).toNat)
  case atStart => exact ⟨0, rfl, Nat.zero_le _, hR, hO, hown, hbw⟩
  case round =>
    clear hR hO hown hbw oa ob oc of ol ra rb rc rf rl
    obtain ⟨k, rfl, hk, hR, hO, hown, hbw⟩ := hrel
    obtain ⟨oa, ob, oc, of, ol⟩ := hO.mx; obtain ⟨ra, rb, rc, rf, rl⟩ := hR.mx
    have hszw := hbw.size
    by_cases hkn : k < n
    · have HST := Lib.hid (idK_step k)
      go_wp2_with fail
      refine (impl_set_tb n n k k 1 A m cap (idK k) (idK (k + 1)) HST.out _ (B := w.heap.size + 1) (Ko hown) (by omega) (by omega) hkn hkn).mono ?_
      rintro e w2 ⟨rfl, hown2, hgr, hsz2⟩
      have hR2 : BM w2 w.heap.size 0 0 none 0 0 := BX.keptOwn (Kb hR) hgr HU.out (by omega)
      have hO2 : BM w2 bO n n A m cap := BX.keptOwn (Kb hO) hgr HU.out (by omega)
      have hbw2 : Below w.heap.size w w2 := Below.trans Kw (below_keptOwn hgr HU.out (by omega) Ks)
      go_wp2_with fail
      go_roundw
      case rel => exact ⟨k + 1, by go_num, by omega, Kb hR2, Kb hO2, Ko hown2, Kw⟩
      case measure => simp only [intOf]; omega
    · obtain rfl : k = n := by omega
      have hown2 := hown.as (idK_end k)
      clear hown
      go_wp2_with fail
      refine ret_MB (r := k) (c := k) (A := A) (n := m) (cap := cap) Try.results141 rfl (Kb hR) rfl ?_
      exact MBR.mk rfl (OR.mono (B := w.heap.size + 1) (Ko hown2) (by omega)) Kw
set_option maxHeartbeats 4000000 in
theorem spec_IdentityMatrix (n : Nat) (w : World) (hn : n ≤ 24) :
    Calls Try.prog 136 #[.int .i64 n] w (MBR ⟨n, n, tb n n idF⟩ true w) := by
  have hnn : n * n ≤ 24 * 24 := Nat.mul_le_mul hn hn
  go_enter Try.func136, Try.ntmps136
  go_wp2_with (first | (go_at_call 154; (first | refine (spec_l1In_yes _ _ _ _ (by omega)).mono ?_ | refine (spec_l1In_no _ _ _ _ (by omega)).mono ?_ | refine (spec_l1In _ _ _ _).mono ?_); rintro e w' ⟨rfl, rfl⟩))
  refine (spec_l3New n n _ (by omega) (by omega) (by omega)).mono ?_
  rintro e w1 ⟨A, m, cap, rfl, how0, hb1⟩
  have hsz1 := hb1.size
  simp at hsz1
  have hR1 : BM w1 w.heap.size 0 0 none 0 0 := Ka
  have hbw1 : Below w.heap.size w w1 := Kw
  generalize hbO : w1.heap.size = bO at *
  have hR : BM (w1.alloc (.cells #[.int .i64 n, .int .i64 n, .slice A m cap] 26)) w.heap.size 0 0 none 0 0 := Kb hR1
  have hO : BM (w1.alloc (.cells #[.int .i64 n, .int .i64 n, .slice A m cap] 26)) bO n n A m cap := Ka
  have hown : OR (w1.alloc (.cells #[.int .i64 n, .int .i64 n, .slice A m cap] 26)) (w.heap.size + 1) (.slice A m cap) (tb n n (idK 0)) := by
    rw [idK_zero, tb_zeros]; exact OR.alloc (OR.mono (xs := List.replicate (n * n) 0) how0 (by simp)) _
  have hbw : Below w.heap.size w (w1.alloc (.cells #[.int .i64 n, .int .i64 n, .slice A m cap] 26)) := Kw
  have HU : Hid (Own (.slice A m cap) (w.heap.size + 1) bO) := Lib.hid (by rw [← hbO]; exact (OR.own (xs := List.replicate (n * n) 0) how0).wide (by simp) (Nat.le_refl _))
  have hbO2 : w.heap.size + 1 ≤ bO := by omega
  clear hR1 hbw1 how0 hb1
  obtain ⟨oa, ob, oc, of, ol⟩ := hO.mx; obtain ⟨ra, rb, rc, rf, rl⟩ := hR.mx
  go_wp2_with fail
  generalize w1.alloc (.cells #[.int .i64 n, .int .i64 n, .slice A m cap] 26) = wo at *
  go_loopw [5] (fun v wr => ∃ k : Nat, v = .int .i64 k ∧ k ≤ n ∧ BM wr w.heap.size 0 0 none 0 0 ∧ BM wr bO n n A m cap ∧ OR wr (w.heap.size + 1) (.slice A m cap) (tb n n (idK k)) ∧ Below w.heap.size w wr) (fun v _ => n - (intOf v).toNat)
  case atStart => exact ⟨0, rfl, Nat.zero_le _, hR, hO, hown, hbw⟩
  case round =>
    clear hR hO hown hbw oa ob oc of ol ra rb rc rf rl
    obtain ⟨k, rfl, hk, hR, hO, hown, hbw⟩ := hrel
    obtain ⟨oa, ob, oc, of, ol⟩ := hO.mx; obtain ⟨ra, rb, rc, rf, rl⟩ := hR.mx
    have hszw := hbw.size
    by_cases hkn : k < n
    · have hln := hown.lenEq
      rw [tb_len] at hln
      obtain ⟨g, rfl, hg1, hg2⟩ := hown.begins (by rw [tb_len]; exact Nat.mul_pos (by omega) (by omega))
      have hix := idx_nat hkn hkn
      have c1 := hown.cell (k * n + k) (by rw [tb_len]; exact hix)
      have f1 := hown.frozen (k * n + k)
      have hst := hown.set_ (k * n + k) 1
      rw [tb_set hkn hkn, idK_step] at hst
      have i1 : (k : Int) * (n : Int) = ((k * n : Nat) : Int) := by rw [Int.natCast_mul]
      have i2 : 0 ≤ (k : Int) * (n : Int) ∧ (k : Int) * (n : Int) + (k : Int) < (m : Int) ∧ (k : Int) * (n : Int) ≤ 10000 := by omega
      obtain ⟨i2, i3, i4⟩ := i2
      have hgU := HU.out g rfl
      have hgO : ¬ g = bO := by omega
      have hg0 : ¬ g = w.heap.size := by omega
      generalize hcv : (tb n n (idK k)).getD (k * n + k) 0 = cv at c1
      clear i1 hix hln hcv
      go_wp2_with fail
      go_roundw
      case rel => exact ⟨k + 1, by go_num, by omega, Kb hR, Kb hO, hst, Kw⟩
      case measure => simp only [intOf]; omega
    · obtain rfl : k = n := by omega
      have hown2 := hown.as (idK_end k)
      clear hown
      go_wp2_with fail
      refine ret_MB (r := k) (c := k) (A := A) (n := m) (cap := cap) Try.results136 rfl (Kb hR) rfl ?_
      exact MBR.mk rfl (OR.mono (B := w.heap.size + 1) (Ko hown2) (by omega)) Kw
end Go.Proofs.Ytacjonkehcamgaa

/-
  DERIVED. newWork of the program.
-/
namespace Go.Proofs.Ytacjonkehcamgaa
open Go.RowKit
set_option linter.unusedVariables false
set_option linter.unusedSimpArgs false
def NW (R C : Nat) (f : Fn2) (w : World) (e : Ending) (w' : World) : Prop := ∃ b, e = .returned (.pointer (some ⟨b, 0, none⟩)) ∧ WK w' w.heap.size b R C f idF idF false ∧ Below w.heap.size w w'
set_option maxHeartbeats 4000000 in
theorem impl_newWork (R C : Nat) (A : Option Addr) (n cap : Nat) (f : Fn2) (w : World) {B : Nat} (h : RI w B A n (tb R C f)) (hB : B ≤ w.heap.size) (hR : R ≤ 24) (hC : C ≤ 24) :
    Calls Try.prog 144 #[.agg #[.int .i64 R, .int .i64 C, .slice A n cap]] w (NW R C f w) := by
  have hln := h.len
  rw [tb_len] at hln
  have H2 := Lib.hid (h.more hB)
  clear h
  have hRC : R * C ≤ 24 * 24 := Nat.mul_le_mul hR hC
  have hnn : n ≤ 1048576 := by omega
  clear hln hRC
  go_enter Try.func144, Try.ntmps144
  go_wp2_with fail
  refine (impl_IdentityMatrix R _ hR).mono ?_
  rintro e w1 ⟨A2, n2, cap2, rfl, how2, hb1⟩
  have hsz1 := hb1.size
  simp at hsz1
  have hM1 : BM w1 w.heap.size R C A n cap := Ka
  have hbw1 : Below w.heap.size w w1 := Kw
  generalize hbU : w1.heap.size = bU at *
  have hM2 : BM (w1.alloc (.cells #[.int .i64 R, .int .i64 R, .slice A2 n2 cap2] 26)) w.heap.size R C A n cap := Kb hM1
  have hMU : BM (w1.alloc (.cells #[.int .i64 R, .int .i64 R, .slice A2 n2 cap2] 26)) bU R R A2 n2 cap2 := Ka
  have hsU : (w1.alloc (.cells #[.int .i64 R, .int .i64 R, .slice A2 n2 cap2] 26)).heap.size = bU + 1 := by simp [hbU]
  obtain ⟨aa, ab, ac, af, al⟩ := hM2.mx
  obtain ⟨ua, ub, uc, uf, ul⟩ := hMU.mx
  go_wp2_with fail
  refine (impl_IdentityMatrix C _ hC).mono ?_
  rintro e w2 ⟨A3, n3, cap3, rfl, how3, hb2⟩
  have hsz2 := hb2.size
  simp at hsz2
  have hM3 : BM w2 w.heap.size R C A n cap := Kb hM2
  have hMU3 : BM w2 bU R R A2 n2 cap2 := Kb hMU
  have ho2 : OR w1 (w.heap.size + 1) (.slice A2 n2 cap2) (tb R R idF) := OR.mono (xs := tb R R idF) how2 (by simp)
  have ho24 : OR w2 (w.heap.size + 1) (.slice A2 n2 cap2) (tb R R idF) := (ho2.alloc _).below hb2 (Nat.le_refl _)
  have hbw2 : Below w.heap.size w w2 := Kw
  have hlb : w.heap.size + 1 ≤ bU := hsz1
  have HU2 : Hid (Own (.slice A2 n2 cap2) (w.heap.size + 1) bU) := Lib.hid (by rw [← hbU]; exact (OR.own (xs := tb R R idF) how2).wide (by simp) (Nat.le_refl _))
  generalize hbV : w2.heap.size = bV at *
  have HU3 : Hid (Own (.slice A3 n3 cap3) (bU + 1) bV) := Lib.hid (by rw [← hbV]; exact (OR.own (xs := tb C C idF) how3).wide (by rw [hsU]; exact Nat.le_refl _) (Nat.le_refl _))
  have ho22 : Hid (OR (w2.alloc (.cells #[.int .i64 C, .int .i64 C, .slice A3 n3 cap3] 26)) (w.heap.size + 1) (.slice A2 n2 cap2) (tb R R idF)) := Lib.hid (OR.alloc ho24 _)
  have ho33 : Hid (OR (w2.alloc (.cells #[.int .i64 C, .int .i64 C, .slice A3 n3 cap3] 26)) (w.heap.size + 1) (.slice A3 n3 cap3) (tb C C idF)) := Lib.hid (OR.alloc (OR.mono (xs := tb C C idF) how3 (by rw [hsU]; omega)) _)
  have hM : BM (w2.alloc (.cells #[.int .i64 C, .int .i64 C, .slice A3 n3 cap3] 26)) w.heap.size R C A n cap := Kb hM3
  have hMU4 : BM (w2.alloc (.cells #[.int .i64 C, .int .i64 C, .slice A3 n3 cap3] 26)) bU R R A2 n2 cap2 := Kb hMU3
  have hMV : BM (w2.alloc (.cells #[.int .i64 C, .int .i64 C, .slice A3 n3 cap3] 26)) bV C C A3 n3 cap3 := Ka
  have hbw3 : Below w.heap.size w (w2.alloc (.cells #[.int .i64 C, .int .i64 C, .slice A3 n3 cap3] 26)) := Kw
  have hsV : (w2.alloc (.cells #[.int .i64 C, .int .i64 C, .slice A3 n3 cap3] 26)).heap.size = bV + 1 := by simp [hbV]
  have hlb2 : bU + 1 ≤ bV := by omega
  clear aa ab ac af al ua ub uc uf ul hM1 hM2 hM3 hMU hMU3 how2 how3 ho2 ho24 hbw1 hbw2 hb1 hb2
  obtain ⟨aa, ab, ac, af, al⟩ := hM.mx
  obtain ⟨ua, ub, uc, uf, ul⟩ := hMU4.mx
  obtain ⟨va, vb, vc, vf, vl⟩ := hMV.mx
  go_wp2_with fail
  generalize hwo : w2.alloc (.cells #[.int .i64 C, .int .i64 C, .slice A3 n3 cap3] 26) = wo at *
  clear hwo
  ((refine wp_region_held_drew (S := (fun w' => w'.cell? ⟨w.heap.size, 0, none⟩ = some (.int .i64 R) ∧ w'.cell? ⟨w.heap.size, 1, none⟩ = some (.int .i64 C) ∧ w'.cell? ⟨w.heap.size, 2, none⟩ = some (.slice A n cap) ∧ w'.cell? ⟨bU, 0, none⟩ = some (.int .i64 R) ∧ w'.cell? ⟨bU, 1, none⟩ = some (.int .i64 R) ∧ w'.cell? ⟨bU, 2, none⟩ = some (.slice A2 n2 cap2) ∧ w'.cell? ⟨bV, 0, none⟩ = some (.int .i64 C) ∧ w'.cell? ⟨bV, 1, none⟩ = some (.int .i64 C) ∧ w'.cell? ⟨bV, 2, none⟩ = some (.slice A3 n3 cap3))) (by kernel_rfl) ?_ (fun hHeld => ?_)); ((focus ((try dsimp only); (go_keep)))); ((refine tk_ (i := 0) (v := ?_) (y := Or.inl ⟨by rfl, ?_⟩) (h := ?_); rotate_left; (focus (((intro w hSw; (try dsimp only at hSw); go_simp) <;> (try with_reducible rfl)); done)); (try simp only [Act.put, p1_, p2_, p3_]))); ((refine tk_ (i := 2) (v := ?_) (y := Or.inl ⟨by rfl, ?_⟩) (h := ?_); rotate_left; (focus (((intro w hSw; (try dsimp only at hSw); go_simp) <;> (try with_reducible rfl)); done)); (try simp only [Act.put, p1_, p2_, p3_]))); ((refine tk_ (i := 3) (v := ?_) (y := Or.inl ⟨by rfl, ?_⟩) (h := ?_); rotate_left; (focus (((intro w hSw; (try dsimp only at hSw); go_simp) <;> (try with_reducible rfl)); done)); (try simp only [Act.put, p1_, p2_, p3_]))); ((refine wpAnyH_ready (rs := [1]) (by kernel_rfl) (by simp) ?_; refine AllReadyH.cons (by simp only [e1_, e2_, e3_]; try rfl) (fun K hK => ?_) AllReadyH.nil; go_simp; (go_at_call 133; refine (impl_copyMatrix R C A n cap (tb R C f) _ (B := w.heap.size) (Kr H2.out) Ks hnn).mono ?_; rintro e w4 ⟨A1, n1, cap1, rfl, -, how1, hb4⟩; (have hM4 : BM w4 w.heap.size R C A n cap := Kb hM); (have hU4 : BM w4 bU R R A2 n2 cap2 := Kb hMU4); (have hV4 : BM w4 bV C C A3 n3 cap3 := Kb hMV); obtain ⟨a4, b4, c4, f4, l4⟩ := hM4.mx; obtain ⟨ua4, ub4, uc4, uf4, ul4⟩ := hU4.mx; obtain ⟨va4, vb4, vc4, vf4, vl4⟩ := hV4.mx); (try go_wp2_with fail); refine hK.out _ _ ?_ (fun hHeld => ?_); (focus ((try dsimp only); (go_keep))); clear hK K; (try simp only [Act.put, p1_, p2_, p3_]))); ((refine tk_ (i := 4) (v := ?_) (y := Or.inl ⟨by rfl, ?_⟩) (h := ?_); rotate_left; (focus (((intro w hSw; (try dsimp only at hSw); go_simp) <;> (try with_reducible rfl)); done)); (try simp only [Act.put, p1_, p2_, p3_]))); ((refine wpAnyH_ready (rs := [5]) (by kernel_rfl) (by simp) ?_; refine AllReadyH.cons (by simp only [e1_, e2_, e3_]; try rfl) (fun K hK => ?_) AllReadyH.nil; go_simp; (try go_wp2_with fail); refine hK.out _ _ ?_ (fun hHeld => ?_); (focus ((try dsimp only); (go_keep))); clear hK K; (try simp only [Act.put, p1_, p2_, p3_]))); ((refine tk_ (i := 6) (v := ?_) (y := Or.inl ⟨by rfl, ?_⟩) (h := ?_); rotate_left; (focus (((intro w hSw; (try dsimp only at hSw); go_simp) <;> (try with_reducible rfl)); done)); (try simp only [Act.put, p1_, p2_, p3_]))); (refine wpAnyH_done (by kernel_rfl) ?_ _))
  go_wp2_with fail
  have hs4 := hb4.size
  have how1 : OR w4 wo.heap.size (.slice A1 n1 cap1) (tb R C f) := how1
  have hlw : w.heap.size + 1 ≤ wo.heap.size := by rw [hsV]; omega
  have h2 : OR w4 (w.heap.size + 1) (.slice A2 n2 cap2) (tb R R idF) := ho22.out.drew.below hb4 (Nat.le_refl _)
  have h3 : OR w4 (w.heap.size + 1) (.slice A3 n3 cap3) (tb C C idF) := ho33.out.drew.below hb4 (Nat.le_refl _)
  have o1 : Own (.slice A1 n1 cap1) (bV + 1) w4.heap.size := how1.own.wide (by rw [hsV]; exact Nat.le_refl _) (Nat.le_refl _)
  have hlv : bV + 1 ≤ w4.heap.size := by rw [← hsV]; exact hs4
  go_ret
  refine ⟨w4.heap.size, rfl, WB.wk (A := A1) (n := n1) (cap := cap1) (A2 := A2) (n2 := n2) (cap2 := cap2) (A3 := A3) (n3 := n3) (cap3 := cap3) ⟨Blk.new _ _ _, by omega, (how1.mono (by omega)).alloc _, (h2.mono (by omega)).alloc _, (h3.mono (by omega)).alloc _, Apart.of_own o1 HU2.out (.inr (by omega)), Apart.of_own o1 HU3.out (.inr (by omega)), Apart.of_own HU2.out HU3.out (.inl (by omega)), fun e => ?_, fun e => ?_, fun e => ?_⟩, Kw⟩
  · have := (o1 _ e).2; omega
  · have := (HU2.out _ e).2; omega
  · have := (HU3.out _ e).2; omega
end Go.Proofs.Ytacjonkehcamgaa

/-
  DERIVED. What SmithForm of both answers: three matrices and a flag.
-/
namespace Go.Proofs.Ytacjonkehcamgaa
open Go.RowKit
set_option linter.unusedVariables false
def sfDO (r c : Int) : Option SS → Mx
  | some s => ⟨r, c, tb r.toNat c.toNat s.f⟩
  | none => .none
def sfUO (r : Int) : Option SS → Mx
  | some s => ⟨r, r, tb r.toNat r.toNat s.g⟩
  | none => .none
def sfVO (c : Int) : Option SS → Mx
  | some s => ⟨c, c, tb c.toNat c.toNat s.h⟩
  | none => .none
/-- The call returned three matrices, their cells their own, and the flag. -/
def M3R (m m' m'' : Mx) (b : Bool) (w : World) (e : Ending) (w' : World) : Prop :=
  ∃ A n cap A2 n2 cap2 A3 n3 cap3, e = .returned (.tuple #[.agg #[.int .i64 m.r, .int .i64 m.c, .slice A n cap], .agg #[.int .i64 m'.r, .int .i64 m'.c, .slice A2 n2 cap2], .agg #[.int .i64 m''.r, .int .i64 m''.c, .slice A3 n3 cap3], .bool b]) ∧
    OR w' w.heap.size (.slice A n cap) m.xs ∧ OR w' w.heap.size (.slice A2 n2 cap2) m'.xs ∧ OR w' w.heap.size (.slice A3 n3 cap3) m''.xs ∧ Apart (.slice A n cap) (.slice A2 n2 cap2) ∧ Apart (.slice A n cap) (.slice A3 n3 cap3) ∧ Apart (.slice A2 n2 cap2) (.slice A3 n3 cap3) ∧ Below w.heap.size w w'
theorem apart_nil {v : Value} : Apart (.slice none 0 0) v := by
  intro g h1
  simp [Value.ownBlock] at h1
theorem M3R.none_ {r c : Int} {X : Option SS} {w w' : World} (hX : X = none) (hb : Below w.heap.size w w') :
    M3R (sfDO r c X) (sfUO r X) (sfVO c X) X.isSome w (.returned (.tuple #[.agg #[.int .i64 0, .int .i64 0, .slice none 0 0], .agg #[.int .i64 0, .int .i64 0, .slice none 0 0], .agg #[.int .i64 0, .int .i64 0, .slice none 0 0], .bool false])) w' := by
  subst hX
  exact ⟨none, 0, 0, none, 0, 0, none, 0, 0, rfl, OR.nil_ _ _, OR.nil_ _ _, OR.nil_ _ _, apart_nil, apart_nil, apart_nil, hb⟩
theorem M3R.some_ {R C : Nat} {s : SS} {X : Option SS} {w w' : World} {A A2 A3 : Option Addr} {n cap n2 cap2 n3 cap3 : Nat} (hX : X = some s) (h1 : OR w' w.heap.size (.slice A n cap) (tb R C s.f)) (h2 : OR w' w.heap.size (.slice A2 n2 cap2) (tb R R s.g)) (h3 : OR w' w.heap.size (.slice A3 n3 cap3) (tb C C s.h))
    (ha : Apart (.slice A n cap) (.slice A2 n2 cap2)) (ha2 : Apart (.slice A n cap) (.slice A3 n3 cap3)) (ha3 : Apart (.slice A2 n2 cap2) (.slice A3 n3 cap3)) (hb : Below w.heap.size w w') :
    M3R (sfDO R C X) (sfUO R X) (sfVO C X) X.isSome w (.returned (.tuple #[.agg #[.int .i64 R, .int .i64 C, .slice A n cap], .agg #[.int .i64 R, .int .i64 R, .slice A2 n2 cap2], .agg #[.int .i64 C, .int .i64 C, .slice A3 n3 cap3], .bool true])) w' := by
  subst hX
  exact ⟨A, n, cap, A2, n2, cap2, A3, n3, cap3, rfl, h1, h2, h3, ha, ha2, ha3, hb⟩
theorem ret_M3 {fn : Func} {R : Ending → World → Prop} {a : Act} {w : World} {t t' t'' s : Tmp} {b n cap b' n' cap' b'' n'' cap'' : Nat} {r c r' c' r'' c'' : Int} {A A' A'' : Option Addr} (hr : fn.results = #[.cell t 26, .cell t' 26, .cell t'' 26, .tmp s])
    (ht : a.tmps.getD t undef = .pointer (some ⟨b, 0, none⟩)) (ht' : a.tmps.getD t' undef = .pointer (some ⟨b', 0, none⟩)) (ht'' : a.tmps.getD t'' undef = .pointer (some ⟨b'', 0, none⟩)) (h : BM w b r c A n cap) (h' : BM w b' r' c' A' n' cap') (h'' : BM w b'' r'' c'' A'' n'' cap'') (hd : a.defers = [])
    (hR : R (.returned (.tuple #[.agg #[.int .i64 r, .int .i64 c, .slice A n cap], .agg #[.int .i64 r', .int .i64 c', .slice A' n' cap'], .agg #[.int .i64 r'', .int .i64 c'', .slice A'' n'' cap''], a.tmps.getD s undef])) w) : bodyPost Try.prog fn R .ret a w :=
  bodyPost_ret (v := .tuple #[.agg #[.int .i64 r, .int .i64 c, .slice A n cap], .agg #[.int .i64 r', .int .i64 c', .slice A' n' cap'], .agg #[.int .i64 r'', .int .i64 c'', .slice A'' n'' cap''], a.tmps.getD s undef]) (by
    obtain ⟨r0, r1, r2, rf, rl⟩ := h.mx
    obtain ⟨s0, s1, s2, sf, sl⟩ := h'.mx
    obtain ⟨t0, t1, t2, tf, tl⟩ := h''.mx
    simp only [Array.getD_eq_getD_getElem?] at ht ht' ht''
    simp [results, hr, ht, ht', ht'', go_sem, r0, r1, r2, s0, s1, s2, t0, t1, t2]) hd hR
/-- The call's own variables: its argument and its three results. -/
structure HV3 (w wr : World) (r c : Int) (A : Option Addr) (n cap : Nat) : Prop where
  m : BM wr w.heap.size r c A n cap
  r1 : BM wr (w.heap.size + 1) 0 0 none 0 0
  r2 : BM wr (w.heap.size + 1 + 1) 0 0 none 0 0
  r3 : BM wr (w.heap.size + 1 + 1 + 1) 0 0 none 0 0
  b : Below w.heap.size w wr
section
variable {w wr w' : World} {r c : Int} {A : Option Addr} {n cap : Nat}
theorem HV3.lt (h : HV3 w wr r c A n cap) : w.heap.size + 1 + 1 + 1 < wr.heap.size := h.r3.lt
theorem HV3.below {D : Nat} (h : HV3 w wr r c A n cap) (hD : Below D wr w') (hs : w.heap.size + 1 + 1 + 1 + 1 ≤ D) : HV3 w w' r c A n cap :=
  ⟨h.m.below hD (by omega), h.r1.below hD (by omega), h.r2.below hD (by omega), h.r3.below hD (by omega), h.b.trans (hD.mono (by omega))⟩
theorem HV3.drew (h : HV3 w wr r c A n cap) : HV3 w wr.drew r c A n cap := ⟨h.m.drew, h.r1.drew, h.r2.drew, h.r3.drew, h.b.drew⟩
theorem HV3.b_ {w wr w' : World} {r c : Int} {A : Option Addr} {n cap D : Nat} (h : HV3 w wr r c A n cap) (hD : Below D wr w' := by assumption) (hs : w.heap.size + 1 + 1 + 1 + 1 ≤ D := by first | omega | (simp; done) | (simp; omega)) : HV3 w w' r c A n cap := HV3.below h hD hs
theorem HV3.drewN (h : HV3 w wr r c A n cap) (q : Nat) : HV3 w (wr.drewN q) r c A n cap := ⟨h.m.drewN q, h.r1.drewN q, h.r2.drewN q, h.r3.drewN q, below_drewN h.b q⟩
theorem HV3.alloc (h : HV3 w wr r c A n cap) (o : Obj) : HV3 w (wr.alloc o) r c A n cap :=
  have hl := h.lt
  ⟨h.m.alloc o, h.r1.alloc o, h.r2.alloc o, h.r3.alloc o, Below.alloc h.b (by omega) o⟩
end
/-- A Smith form that came to be has numbers only. -/
theorem rnd_gd {R C t p q : Nat} {s : SS} (h : SGD R C s) (e : ls2 R C s.f t = ((p : Int), (q : Int))) (hp : p < R) (hq : q < C) (ht : t < R) (htC : t < C) (hk : (rnd R C t s).1.OK R C) : SGD R C (rnd R C t s).1 := by
  refine ⟨hk, ?_⟩
  have hA : SGD R C (sfA R C t s) := by
    unfold sfA
    rw [e]
    exact (h.a1 hp ht).a2 hq htC
  exact sfD_nb (sfC_nb (sfB_nb hA.nb))
theorem sfIn_gd {R C t : Nat} (ht : t < R) (htC : t < C) : ∀ (k : Nat) (s : SS), sfMs R C t s ≤ k → SGD R C s → ¬ (ls2 R C s.f t).1 < 0 → ∀ s', sfIn R C t s = some s' → SGD R C s' := by
  intro k
  induction k with
  | zero =>
    intro s hk hg hn s' he
    rcases ls2_cases R C s.f t with ⟨e, _⟩ | ⟨p, q, e, ⟨a1, a2, a3, a4⟩, h3, h4, h5⟩
    · rw [e] at hn; exact absurd (by decide) hn
    · have hV : lsV R C t s = (s.f p q).natAbs := by unfold lsV; rw [e]; rfl
      unfold sfMs at hk
      omega
  | succ k ih =>
    intro s hk hg hn s' he
    rcases ls2_cases R C s.f t with ⟨e, _⟩ | ⟨p, q, e, ⟨a1, a2, a3, a4⟩, h3, h4, h5⟩
    · rw [e] at hn; exact absurd (by decide) hn
    · rw [sfIn] at he
      have hA : SGD R C (sfA R C t s) := by
        unfold sfA
        rw [e]
        exact (hg.a1 a2 ht).a2 a4 htC
      have hnb : (rnd R C t s).1.NBS := sfD_nb (sfC_nb (sfB_nb hA.nb))
      split at he
      · rename_i hok
        have hk' := (SS.ok_iff hnb).1 hok
        split at he
        · cases he
          exact rnd_gd hg e a2 a4 ht htC hk'
        · rename_i hd
          split at he
          · rename_i hlt
            obtain ⟨_, hne⟩ := rnd_lt hg ht htC e a2 a4 h3 (h5 ht htC) hk' (by simpa using hd)
            refine ih _ (by omega) (rnd_gd hg e a2 a4 ht htC hk') ?_ s' he
            obtain ⟨p2, q2, e2, _⟩ := ls2_some (R := R) (C := C) (Nat.le_refl t) ht (Nat.le_refl t) htC hne
            rw [e2]
            dsimp only
            omega
          · cases he
      · cases he
theorem sfOut_gd {R C : Nat} : ∀ (m t : Nat) (s s' : SS), t + m ≤ R → t + m ≤ C → SGD R C s → sfOut R C m t s = some s' → SGD R C s'
  | 0, t, s, s', _, _, hg, he => by cases he; exact hg
  | m + 1, t, s, s', h1, h2, hg, he => by
    by_cases hn : (ls2 R C s.f t).1 < 0
    · rw [sfOut_stop hn] at he; cases he; exact hg
    · rw [sfOut_go hn] at he
      unfold sfGo at he
      rcases hi : sfIn R C t s with _ | s2
      · rw [hi] at he; cases he
      · rw [hi] at he
        exact sfOut_gd m (t + 1) (sfN t s2) s' (by omega) (by omega) ((sfIn_gd (by omega) (by omega) _ s (Nat.le_refl _) hg hn s2 hi).n (by omega)) he
theorem idF_ok (R C : Nat) : OKF R C idF := by
  intro i j _ _
  unfold idF Num
  split <;> omega
theorem idF_nb : NBF idF := by
  intro i j
  refine .inr ?_
  unfold idF
  split <;> omega
theorem sfX_gd {R C : Nat} {xs : List Int} {s : SS} (h : sfX R C xs = some s) : isMat R C xs = true ∧ R ≤ 24 ∧ C ≤ 24 ∧ SGD R C s := by
  rcases hm : isMat (R : Int) (C : Int) xs with _ | _
  · rw [sfX_no hm] at h; cases h
  · rw [sfX_yes hm] at h
    have M := isMat_iff.1 hm
    have hs := start_gd (R := R) (C := C) M.num
    refine ⟨rfl, by have := M.r1; omega, by have := M.c1; omega, sfOut_gd _ _ _ _ (by omega) (by omega) ⟨⟨hs.ok.f, hs.ok.g, idF_ok C C⟩, ⟨hs.nb.f, hs.nb.g, idF_nb⟩⟩ h⟩
end Go.Proofs.Ytacjonkehcamgaa

/-
  DERIVED. TransposeOf of the program.
-/
namespace Go.Proofs.Ytacjonkehcamgaa
open Go.RowKit
set_option linter.unusedVariables false
set_option linter.unusedSimpArgs false
/-- The turned matrix, its columns up to m done, column m up to k. -/
def trK (f : Nat → Nat → Int) (m k : Nat) : Nat → Nat → Int := fun a b => if b < m ∨ b = m ∧ a < k then f b a else 0
theorem trK_zero (f : Nat → Nat → Int) : trK f 0 0 = fun _ _ => 0 := by funext a b; simp [trK]
theorem trK_step {f : Nat → Nat → Int} {m k : Nat} : upd (trK f m k) k m (f m k) = trK f m (k + 1) := by funext a b; unfold upd trK; grind
theorem trK_row {R C : Nat} {f : Nat → Nat → Int} {m : Nat} : tb C R (trK f m C) = tb C R (trK f (m + 1) 0) := tb_ext fun a b ha hb => by unfold trK; grind
theorem trK_end {R C : Nat} (f : Nat → Nat → Int) : tb C R (trK f R 0) = tb C R (fun a b => f b a) := tb_ext fun a b ha hb => by unfold trK; grind
def trM (r c : Int) (xs : List Int) : Mx := if isMat r c xs then ⟨c, r, tb c.toNat r.toNat (fun a b => cel xs c b a)⟩ else .none
set_option maxRecDepth 100000 in
set_option maxHeartbeats 8000000 in
theorem impl_TransposeOf (r c : Int) (A : Option Addr) (n cap : Nat) (xs : List Int) (w : World) {B : Nat} (h : RI w B A n xs) (hB : B ≤ w.heap.size) (hn : n ≤ 1048576) :
    Calls Try.prog 63 #[.agg #[.int .i64 r, .int .i64 c, .slice A n cap]] w (MBR (trM r c xs) (isMat r c xs) w) := by
  have hln := h.len
  have H2 := Lib.hid (h.more hB)
  clear h
  rcases hm : isMat r c xs with _ | _
  · have hv : trM r c xs = .none := by unfold trM; rw [hm]; rfl
    rw [hv]
    have HM := Lib.hid hm
    clear hm hv hln
    go_enter Try.func63, Try.ntmps63
    go_wp2_with fail
    refine (impl_IsMatrix r c A n cap xs _ (C := w.heap.size) (Kr H2.out) Ks hn).mono ?_
    rw [HM.out]
    rintro e w1 ⟨rfl, hb⟩
    have hsz := hb.size
    simp at hsz
    have hR : BM w1 (w.heap.size + 1) 0 0 none 0 0 := Ka
    have hbw : Below w.heap.size w w1 := Kw
    obtain ⟨ra, rb, rc, rf, rl⟩ := hR.mx
    go_wp2_with fail
    refine ret_MB (r := 0) (c := 0) (A := none) (n := 0) (cap := 0) Try.results63 rfl (Kb hR) rfl ?_
    exact MBR.mk rfl (OR.nil_ _ _) Kw
  · have hv : trM r c xs = ⟨c, r, tb c.toNat r.toNat (fun a b => cel xs c b a)⟩ := by unfold trM; rw [hm]; rfl
    have HV := Lib.hid hv
    have HM := Lib.hid hm
    have M := isMat_iff.1 hm
    have hr1 := M.r1
    have hc1 := M.c1
    have hMl := M.len
    obtain ⟨R, rfl⟩ := nat_of M.r0
    obtain ⟨C, rfl⟩ := nat_of M.c0
    have hln2 : R * C ≤ n ∧ n ≤ R * C := by rw [← Int.natCast_mul] at hMl; omega
    have hRC : R * C ≤ 24 * 24 := Nat.mul_le_mul (by omega) (by omega)
    have hCR : C * R ≤ 24 * 24 := Nat.mul_le_mul (by omega) (by omega)
    simp only [Int.toNat_natCast] at HV
    have HFC : Hid (∀ i j : Nat, cel xs C i j = (fun a b : Nat => cel xs C a b) i j) := Lib.hid (fun i j => rfl)
    have HVT : Hid (tb C R (fun a b : Nat => cel xs C b a) = tb C R (fun a b => (fun a b : Nat => cel xs C a b) b a)) := Lib.hid rfl
    generalize (fun a b : Nat => cel xs C a b) = f at *
    generalize trM (R : Int) (C : Int) xs = vm at *
    clear hm hv M hMl hln
    go_enter Try.func63, Try.ntmps63
    go_wp2_with fail
    refine (impl_IsMatrix R C A n cap xs _ (C := w.heap.size) (Kr H2.out) Ks hn).mono ?_
    rw [HM.out]
    rintro e w1 ⟨rfl, hb1⟩
    have hsz1 := hb1.size
    simp at hsz1
    have hA1 : BM w1 w.heap.size R C A n cap := Ka
    have hR1 : BM w1 (w.heap.size + 1) 0 0 none 0 0 := Ka
    have hbw1 : Below w.heap.size w w1 := Kw
    obtain ⟨aa, ab, ac, af, al⟩ := hA1.mx
    go_wp2_with fail
    refine (impl_newMatrix C R _ (by omega) (by omega) (by omega)).mono ?_
    rintro e w2 ⟨Ao, no, co, rfl, how0, hb2⟩
    have hsz2 := hb2.size
    generalize hbO : w2.heap.size = bO at *
    have hA : BM (w2.alloc (.cells #[.int .i64 C, .int .i64 R, .slice Ao no co] 26)) w.heap.size R C A n cap := Kb hA1
    have hR : BM (w2.alloc (.cells #[.int .i64 C, .int .i64 R, .slice Ao no co] 26)) (w.heap.size + 1) 0 0 none 0 0 := Kb hR1
    have hO : BM (w2.alloc (.cells #[.int .i64 C, .int .i64 R, .slice Ao no co] 26)) bO C R Ao no co := Ka
    have hown : OR (w2.alloc (.cells #[.int .i64 C, .int .i64 R, .slice Ao no co] 26)) (w.heap.size + 1 + 1) (.slice Ao no co) (tb C R (trK f 0 0)) := by
      rw [trK_zero, tb_zeros]; exact (OR.mono (xs := List.replicate (C * R) 0) how0 (by omega)).alloc _
    have hbw : Below w.heap.size w (w2.alloc (.cells #[.int .i64 C, .int .i64 R, .slice Ao no co] 26)) := Kw
    have HU : Hid (Own (.slice Ao no co) (w.heap.size + 1 + 1) bO) := Lib.hid (by rw [← hbO]; exact (OR.own (xs := List.replicate (C * R) 0) how0).wide (by omega) (Nat.le_refl _))
    have hno := hown.lenEq
    rw [tb_len] at hno
    have HNO : Hid (no ≤ C * R ∧ C * R ≤ no) := Lib.hid (by omega)
    have hbO2 : w.heap.size + 1 + 1 ≤ bO := by omega
    clear hno hA1 hR1 hbw1 aa ab ac af al how0 hb1 hb2
    obtain ⟨aa, ab, ac, af, al⟩ := hA.mx; obtain ⟨oa, ob, oc, of, ol⟩ := hO.mx
    go_wp2_with fail
    generalize hwo : w2.alloc (.cells #[.int .i64 C, .int .i64 R, .slice Ao no co] 26) = wo at *
    clear hwo
    go_loopw [5] (fun v wr => ∃ i : Nat, v = .int .i64 i ∧ i ≤ R ∧ BM wr w.heap.size R C A n cap ∧ BM wr (w.heap.size + 1) 0 0 none 0 0 ∧ BM wr bO C R Ao no co ∧ OR wr (w.heap.size + 1 + 1) (.slice Ao no co) (tb C R (trK f i 0)) ∧ Below w.heap.size w wr) (fun v _ => R - (intOf v).toNat)
    case atStart => exact ⟨0, rfl, Nat.zero_le _, hA, hR, hO, hown, hbw⟩
    case round =>
      clear aa ab ac af al oa ob oc of ol
      clear hA hR hO hown hbw
      obtain ⟨i, rfl, hi, hA, hR, hO, hown, hbw⟩ := hrel
      obtain ⟨aa, ab, ac, af, al⟩ := hA.mx; obtain ⟨oa, ob, oc, of, ol⟩ := hO.mx
      by_cases hiR : i < R
      · go_wp2_with fail
        obtain ⟨wo2, rfl⟩ : ∃ wo : World, wo = wr := ⟨_, rfl⟩
        go_loopw [6] (fun v wr => ∃ j : Nat, v = .int .i64 j ∧ j ≤ C ∧ BM wr w.heap.size R C A n cap ∧ BM wr (w.heap.size + 1) 0 0 none 0 0 ∧ BM wr bO C R Ao no co ∧ OR wr (w.heap.size + 1 + 1) (.slice Ao no co) (tb C R (trK f i j)) ∧ Below w.heap.size w wr) (fun v _ => C - (intOf v).toNat)
        case atStart => exact ⟨0, rfl, Nat.zero_le _, hA, hR, hO, hown, hbw⟩
        case round =>
          clear aa ab ac af al oa ob oc of ol
          clear hA hR hO hown hbw
          obtain ⟨j, rfl, hj, hA, hR, hO, hown, hbw⟩ := hrel
          obtain ⟨aa, ab, ac, af, al⟩ := hA.mx; obtain ⟨oa, ob, oc, of, ol⟩ := hO.mx
          by_cases hjC : j < C
          · have hix := idx_nat hiR hjC
            have hiy := idx_nat hjC hiR
            have hno2 := HNO.out
            have i1 : (i : Int) * (C : Int) = ((i * C : Nat) : Int) := by rw [Int.natCast_mul]
            have j1 : (j : Int) * (R : Int) = ((j * R : Nat) : Int) := by rw [Int.natCast_mul]
            have i2 : 0 ≤ (i : Int) * (C : Int) ∧ (i : Int) * (C : Int) ≤ 10000 := by omega
            have j2 : 0 ≤ (j : Int) * (R : Int) ∧ (j : Int) * (R : Int) ≤ 10000 := by omega
            have i3 : (i : Int) * (C : Int) + (j : Int) < (n : Int) := by omega
            have j3 : (j : Int) * (R : Int) + (i : Int) < (no : Int) := by omega
            have e4 : ((j : Int) * (R : Int) + (i : Int)).toNat = j * R + i := by omega
            have E4 := Lib.hid e4
            have HC := Lib.hid (HFC.out i j)
            have HST := Lib.hid (tb_set (R := C) (C := R) (i := j) (j := i) (f := trK f i j) (v := f i j) hjC hiR)
            clear i1 j1 e4 hix hiy hno2
            go_wp2_with fail
            ((refine wp_region_held_drew (S := (fun w' => w'.cell? ⟨w.heap.size, 0, none⟩ = some (.int .i64 R) ∧ w'.cell? ⟨w.heap.size, 1, none⟩ = some (.int .i64 C) ∧ w'.cell? ⟨w.heap.size, 2, none⟩ = some (.slice A n cap) ∧ w'.cell? ⟨bO, 0, none⟩ = some (.int .i64 C) ∧ w'.cell? ⟨bO, 1, none⟩ = some (.int .i64 R) ∧ w'.cell? ⟨bO, 2, none⟩ = some (.slice Ao no co))) (by kernel_rfl) ?_ (fun hHeld => ?_)); ((focus ((try dsimp only); (go_keep)))); ((refine tk_ (i := 0) (v := ?_) (y := Or.inl ⟨by rfl, ?_⟩) (h := ?_); rotate_left; (focus (((intro w hSw; (try dsimp only at hSw); go_simp) <;> (try with_reducible rfl)); done)); (try simp only [Act.put, p1_, p2_, p3_]))); ((refine tk_ (i := 1) (v := ?_) (y := Or.inl ⟨by rfl, ?_⟩) (h := ?_); rotate_left; (focus (((intro w hSw; (try dsimp only at hSw); go_simp) <;> (try with_reducible rfl)); done)); (try simp only [Act.put, p1_, p2_, p3_]))); ((refine tk_ (i := 2) (v := ?_) (y := Or.inl ⟨by rfl, ?_⟩) (h := ?_); rotate_left; (focus (((intro w hSw; (try dsimp only at hSw); go_simp) <;> (try with_reducible rfl)); done)); (try simp only [Act.put, p1_, p2_, p3_]))); ((refine tk_ (i := 3) (v := ?_) (y := Or.inl ⟨by rfl, ?_⟩) (h := ?_); rotate_left; (focus (((intro w hSw; (try dsimp only at hSw); go_simp) <;> (try with_reducible rfl)); done)); (try simp only [Act.put, p1_, p2_, p3_]))); ((refine tk_ (i := 4) (v := ?_) (y := Or.inl ⟨by rfl, ?_⟩) (h := ?_); rotate_left; (focus (((intro w hSw; (try dsimp only at hSw); go_simp) <;> (try with_reducible rfl)); done)); (try simp only [Act.put, p1_, p2_, p3_]))); ((refine tk_ (i := 5) (v := ?_) (y := Or.inl ⟨by rfl, ?_⟩) (h := ?_); rotate_left; (focus (((intro w hSw; (try dsimp only at hSw); go_simp) <;> (try with_reducible rfl)); done)); (try simp only [Act.put, p1_, p2_, p3_]))); ((refine wpAnyH_ready (rs := [6]) (by kernel_rfl) (by simp) ?_; refine AllReadyH.cons (by simp only [e1_, e2_, e3_]; try rfl) (fun K hK => ?_) AllReadyH.nil; go_simp; (refine (impl_at R C i j A n cap xs _ (C := w.heap.size) (Kr H2.out) Ks i2 ⟨by omega, by omega⟩ i3).mono ?_; rw [HC.out]; rintro e w3 ⟨rfl, hb3⟩; have hsz_0 := hb3.size; (try simp at hsz_0); have hA_1 : BM w3 w.heap.size R C A n cap := (Kb hA); have hR_1 : BM w3 (w.heap.size + 1) 0 0 none 0 0 := (Kb hR); have hO_1 : BM w3 bO C R Ao no co := (Kb hO); have hown_1 : OR w3 (w.heap.size + 1 + 1) (.slice Ao no co) (tb C R (trK f i j)) := (Ko hown); have hbw_1 : Below w.heap.size w w3 := Kw; clear aa ab ac af al oa ob oc of ol; clear hA hR hO hown hbw; have hA := hA_1; have hR := hR_1; have hO := hO_1; have hown := hown_1; have hbw := hbw_1; clear hA_1 hR_1 hO_1 hown_1 hbw_1; obtain ⟨aa, ab, ac, af, al⟩ := hA.mx; obtain ⟨oa, ob, oc, of, ol⟩ := hO.mx); (try go_wp2_with fail); refine hK.out _ _ ?_ (fun hHeld => ?_); (focus ((try dsimp only); (go_keep))); clear hK K; (try simp only [Act.put, p1_, p2_, p3_]))); ((refine wpAnyH_ready (rs := [7]) (by kernel_rfl) (by simp) ?_; refine AllReadyH.cons (by simp only [e1_, e2_, e3_]; try rfl) (fun K hK => ?_) AllReadyH.nil; go_simp; (refine (impl_set C R j i _ Ao no co _ _ (B := w.heap.size + 1 + 1) (Ko hown) j2 ⟨by omega, by omega⟩ j3).mono ?_; rintro e w4 ⟨rfl, hst_0, hgr_0, hsz_0⟩; rw [E4.out, HST.out, trK_step] at hst_0; have hA_1 := BX.keptOwn (b := w.heap.size) (Kb hA) hgr_0 HU.out (by omega); have hR_1 := BX.keptOwn (b := w.heap.size + 1) (Kb hR) hgr_0 HU.out (by omega); have hO_1 := BX.keptOwn (b := bO) (Kb hO) hgr_0 HU.out (by omega); have hbw_1 : Below w.heap.size w w4 := Below.trans Kw (below_keptOwn hgr_0 HU.out (by omega) Ks); have hown_1 := hst_0; clear hgr_0 hst_0; clear aa ab ac af al oa ob oc of ol; clear hA hR hO hown hbw; have hA := hA_1; have hR := hR_1; have hO := hO_1; have hown := hown_1; have hbw := hbw_1; clear hA_1 hR_1 hO_1 hown_1 hbw_1; obtain ⟨aa, ab, ac, af, al⟩ := hA.mx; obtain ⟨oa, ob, oc, of, ol⟩ := hO.mx); (try go_wp2_with fail); refine hK.out _ _ ?_ (fun hHeld => ?_); (focus ((try dsimp only); (go_keep))); clear hK K; (try simp only [Act.put, p1_, p2_, p3_]))); (refine wpAnyH_done (by kernel_rfl) ?_ _))
            go_wp2_with fail
            go_roundw
            case rel => exact ⟨j + 1, by go_num, by omega, Kb hA, Kb hR, Kb hO, Ko hown, Kw⟩
            case measure => simp only [intOf]; omega
          · obtain rfl : j = C := by omega
            have hown2 := hown.as trK_row
            clear hown
            go_wp2_with fail
            go_roundw
            case rel => exact ⟨i + 1, by go_num, by omega, Kb hA, Kb hR, Kb hO, Ko hown2, Kw⟩
            case measure => simp only [intOf]; omega
      · obtain rfl : i = R := by omega
        have hown2 := hown.as (trK_end f)
        obtain ⟨ra, rb, rc, rf, rl⟩ := hR.mx
        clear hown
        go_wp2_with fail
        refine ret_MB (r := C) (c := i) (A := Ao) (n := no) (cap := co) Try.results63 rfl (Kb hR) rfl ?_
        rw [HV.out]
        exact MBR.mk (by rw [HVT.out]) (OR.mono (B := w.heap.size + 1 + 1) (Ko hown2) (by omega)) Kw
end Go.Proofs.Ytacjonkehcamgaa

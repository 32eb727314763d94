/-
  DERIVED. l13Col of the reference: an operation on columns in place.
-/
import Derived.Test.YtmcbhpaajjlmmaaSm0q
import Derived.Test.YtmcbhpaajjlmmaaOpsSq
namespace Go.Proofs.Ytmcbhpaajjlmmaa
open Go.RowKit
set_option linter.unusedVariables false
set_option linter.unusedSimpArgs false
/-- The first k rows as in F. -/
def loK (f F : Fn2) (k : Nat) : Fn2 := fun x y => if x < k then F x y else f x y
theorem loK_zero (f F : Fn2) : loK f F 0 = f := by funext x y; simp [loK]
theorem loK_at (f F : Fn2) (k y : Nat) : loK f F k k y = f k y := by simp [loK]
theorem loK_end {f F : Fn2} {R C : Nat} : tb R C (loK f F R) = tb R C F := tb_ext fun x y hx hy => by unfold loK; rw [if_pos hx]
theorem loK_step {f F : Fn2} {i : Nat} (k : Nat) (h : ∀ x y, y ≠ i → F x y = f x y) : upd (loK f F k) k i (F k i) = loK f F (k + 1) := by
  funext x y
  unfold upd loK
  by_cases h1 : x = k ∧ y = i
  · rw [if_pos h1, if_pos (by omega), h1.1, h1.2]
  · rw [if_neg h1]
    by_cases h2 : x < k
    · rw [if_pos h2, if_pos (by omega)]
    · rw [if_neg h2]
      by_cases h3 : x < k + 1
      · rw [if_pos h3, h x y (fun e => h1 ⟨by omega, e⟩)]
      · rw [if_neg h3]
theorem loK_step2 {f F : Fn2} {i j : Nat} (k : Nat) (hij : i ≠ j) (h : ∀ x y, y ≠ i → y ≠ j → F x y = f x y) : upd (upd (loK f F k) k i (F k i)) k j (F k j) = loK f F (k + 1) := by
  funext x y
  unfold upd loK
  by_cases h1 : x = k ∧ y = j
  · rw [if_pos h1, if_pos (by omega), h1.1, h1.2]
  · rw [if_neg h1]
    by_cases h4 : x = k ∧ y = i
    · rw [if_pos h4, if_pos (by omega), h4.1, h4.2]
    · rw [if_neg h4]
      by_cases h2 : x < k
      · rw [if_pos h2, if_pos (by omega)]
      · rw [if_neg h2]
        by_cases h3 : x < k + 1
        · rw [if_pos h3, h x y (fun e => h4 ⟨by omega, e⟩) (fun e => h1 ⟨by omega, e⟩)]
        · rw [if_neg h3]
theorem tpA_other {f : Fn2} {i j : Nat} {t : Int} (x y : Nat) (h : y ≠ i) : tp (opA (tp f) i j t) x y = f x y := by
  show opA (tp f) i j t y x = _
  rw [opA_other h]
  rfl
theorem tpA_at (f : Fn2) (i j : Nat) (t : Int) (k : Nat) : tp (opA (tp f) i j t) k i = addB (f k i) (mulF (f k j) t) := by
  show opA (tp f) i j t i k = _
  unfold opA
  rw [if_pos rfl]
  rfl
theorem tpS_other {f : Fn2} {i j : Nat} (x y : Nat) (h : y ≠ i) (h2 : y ≠ j) : tp (swF (tp f) i j) x y = f x y := by
  show swF (tp f) i j y x = _
  unfold swF
  rw [if_neg h, if_neg h2]
  rfl
theorem tpS_i (f : Fn2) (i j k : Nat) : tp (swF (tp f) i j) k i = f k j := by
  show swF (tp f) i j i k = _
  unfold swF
  rw [if_pos rfl]
  rfl
theorem tpS_j {f : Fn2} {i j : Nat} (k : Nat) : tp (swF (tp f) i j) k j = f k i := by
  show swF (tp f) i j j k = _
  rw [swF_t]
  rfl
set_option maxRecDepth 100000 in
set_option maxHeartbeats 4000000 in
theorem spec_l13Col_swap (R C i j : Nat) (ti : Int) (A : Option Addr) (n cap : Nat) (f : Fn2) (w : World) {B : Nat} (h : OR w B (.slice A n cap) (tb R C f)) (hi : i < C) (hj : j < C) (hij : i ≠ j) (hR0 : 0 < R) (hC : C ≤ 24) (hR : R ≤ 24) :
    Calls Try.prog 211 #[.agg #[.int .i64 R, .int .i64 C, .slice A n cap], .agg #[.int .i64 0, .int .i64 i, .int .i64 j, .int .i64 ti]] w (WW (.tuple #[]) (.slice A n cap) B (tb R C (tp (swF (tp f) i j))) w) := by
  have hn := h.lenEq
  rw [tb_len] at hn
  have hcaps := h.caps
  have hR1 := idx_nat (show R - 1 < R by omega) hi
  have hlim : ∀ k, k < R → k * C + C ≤ n := fun k hk => by
    have := idx_nat hk (show C - 1 < C by omega)
    omega
  obtain ⟨g, rfl, hg1, hg2⟩ := h.begins (by rw [tb_len]; omega)
  have HN := Lib.hid hn
  have HLIM := Lib.hid hlim
  have HIJ := Lib.hid hij
  have hm0 : R * C ≤ 24 * 24 := Nat.mul_le_mul hR hC
  have hn9 : n ≤ 576 := by omega
  clear hn hij hlim hR1
  go_enter Try.func211, Try.ntmps211
  go_wp2_with fail
  go_loopw [4] (fun u wr => ∃ k : Nat, u = .int .i64 k ∧ k ≤ R ∧ OR wr B (.slice (some ⟨g, 0, none⟩) n cap) (tb R C (loK f (tp (swF (tp f) i j)) k)) ∧ BM wr w.heap.size R C (some ⟨g, 0, none⟩) n cap ∧ Blk wr (w.heap.size + 1) 75 #[.int .i64 0, .int .i64 i, .int .i64 j, .int .i64 ti] ∧ w.grownBy wr (some g) ∧ w.heap.size ≤ wr.heap.size) (fun v _ => R - (intOf v).toNat)
  case atStart => exact ⟨0, rfl, Nat.zero_le _, by rw [loK_zero]; (with_reducible (repeat (first | exact h | refine OR.drew ?_ | refine OR.drewN ?_ _ | refine OR.alloc ?_ _ | refine OR.b_ ?_ | refine OR.l_ ?_))), by (with_reducible (repeat (first | assumption | refine BX.n_ | refine BX.b_ ?_ | apply BX.drew | apply BX.drewN | refine BX.put ?_ | refine BX.put2 ?_ | refine BX.f_ ?_ | apply BX.alloc | refine B3.n_ | refine B3.of (by assumption) | refine B3.b_ ?_ | apply B3.drew | apply B3.drewN | refine B3.f_ ?_ | apply B3.alloc))), by (with_reducible (repeat (first | assumption | refine Blk.new_at _ _ _ _ (by first | omega | (simp; done) | (simp; omega)) | refine Blk.below ?_ (by assumption) (by first | omega | (simp; done) | (simp; omega)) | apply Blk.drew | apply Blk.drewN | refine Blk.far ?_ (by simp only [ne_eq]; omega) _ | apply Blk.alloc))), by (with_reducible (repeat (first | assumption | exact World.grownBy.refl _ _ | refine only_alloc ?_ _ | refine only_drewN ?_ _ | refine only_drew ?_ | refine only_set ?_ _ _ | refine grown_far ?_ (by first | omega | (simp; done) | (simp; omega)) _ | refine only_trans ?_ (only_of_below (by assumption) _) | refine only_trans ?_ (by assumption)))), by simp; omega⟩
  case round =>
    clear h
    obtain ⟨k, rfl, hk, hown, hM, hO, hgr, hsz⟩ := hrel
    obtain ⟨oa, ob, oc, of, ol⟩ := hM.mx
    have x0 := hO.cell 0
    have x1 := hO.cell 1
    have x2 := hO.cell 2
    have x3 := hO.cell 3
    have hl := hO.lt
    simp at x0 x1 x2 x3
    by_cases hkR : k < R
    · have c1 := hown.cell (k * C + i) (by rw [tb_len]; exact idx_nat hkR hi)
      have c2 := hown.cell (k * C + j) (by rw [tb_len]; exact idx_nat hkR hj)
      rw [tb_at hkR hi, loK_at] at c1
      rw [tb_at hkR hj, loK_at] at c2
      have f1 := hown.frozen (k * C + i)
      have f2 := hown.frozen (k * C + j)
      have hkC := HLIM.out k hkR
      have hne2 : ¬ g = w.heap.size + 1 := by omega
      have hne3 : ¬ g = w.heap.size := by omega
      have hne4 : ¬ w.heap.size = g := by omega
      have hne5 : ¬ w.heap.size + 1 = g := by omega
      have k1 : (k : Int) * (C : Int) = ((k * C : Nat) : Int) := by rw [Int.natCast_mul]
      have K1 := Lib.hid k1
      have g0 : 0 ≤ (k : Int) * (C : Int) ∧ (k : Int) * (C : Int) + C ≤ n ∧ (k : Int) * (C : Int) ≤ 10000 := by omega
      obtain ⟨g0a, g0b, g0c⟩ := g0
      clear k1
      have hne1 : k * C + i ≠ k * C + j := fun e => HIJ.out (by omega)
      have hs1 := (hown.set_ (k * C + i) (f k j)).set_ (k * C + j) (f k i)
      rw [tb_set hkR hi, tb_set hkR hj, ← tpS_i f i j k, ← tpS_j (f := f) (i := i) (j := j) k, loK_step2 k HIJ.out (fun x y h1 h2 => tpS_other x y h1 h2), tpS_i, tpS_j] at hs1
      generalize f k j = y at *
      generalize f k i = x at *
      go_wp2
      go_roundw
      case rel => exact ⟨k + 1, by go_num, by omega, hs1, by (with_reducible (repeat (first | exact hM | refine BX.n_ | refine BX.b_ ?_ | apply BX.drew | apply BX.drewN | refine BX.put ?_ | refine BX.put2 ?_ | refine BX.f_ ?_ | apply BX.alloc | refine B3.n_ | exact B3.of hM | refine B3.b_ ?_ | apply B3.drew | apply B3.drewN | refine B3.f_ ?_ | apply B3.alloc))), by (with_reducible (repeat (first | exact hO | refine Blk.new_at _ _ _ _ (by first | omega | (simp; done) | (simp; omega)) | refine Blk.below ?_ (by assumption) (by first | omega | (simp; done) | (simp; omega)) | apply Blk.drew | apply Blk.drewN | refine Blk.far ?_ (by simp only [ne_eq]; omega) _ | apply Blk.alloc))), by (with_reducible (repeat (first | assumption | exact World.grownBy.refl _ _ | refine only_alloc ?_ _ | refine only_drewN ?_ _ | refine only_drew ?_ | refine only_set ?_ _ _ | refine grown_far ?_ (by first | omega | (simp; done) | (simp; omega)) _ | refine only_trans ?_ (only_of_below (by assumption) _) | refine only_trans ?_ (by assumption)))), by simpa [World.setCell] using hsz⟩
      case measure => simp only [intOf]; omega
    · have hfin := hown.as (show _ = tb R C (tp (swF (tp f) i j)) by rw [show k = R by omega]; exact loK_end)
      clear hown
      go_wp2
      go_end0
      exact WW.mk rfl hfin hgr hsz
set_option maxRecDepth 100000 in
set_option maxHeartbeats 4000000 in
theorem spec_l13Col_add (R C i j : Nat) (ti : Int) (A : Option Addr) (n cap : Nat) (f : Fn2) (w : World) {B : Nat} (h : OR w B (.slice A n cap) (tb R C f)) (hi : i < C) (hj : j < C) (hij : i ≠ j) (hm : Num ti) (hf : NBF f) (hR0 : 0 < R) (hC : C ≤ 24) (hR : R ≤ 24) :
    Calls Try.prog 211 #[.agg #[.int .i64 R, .int .i64 C, .slice A n cap], .agg #[.int .i64 2, .int .i64 i, .int .i64 j, .int .i64 ti]] w (WW (.tuple #[]) (.slice A n cap) B (tb R C (tp (opA (tp f) i j ti))) w) := by
  have HM := Lib.hid hm
  have HF := Lib.hid hf
  clear hm hf
  have hn := h.lenEq
  rw [tb_len] at hn
  have hcaps := h.caps
  have hR1 := idx_nat (show R - 1 < R by omega) hi
  have hlim : ∀ k, k < R → k * C + C ≤ n := fun k hk => by
    have := idx_nat hk (show C - 1 < C by omega)
    omega
  obtain ⟨g, rfl, hg1, hg2⟩ := h.begins (by rw [tb_len]; omega)
  have HN := Lib.hid hn
  have HLIM := Lib.hid hlim
  have HIJ := Lib.hid hij
  have hm0 : R * C ≤ 24 * 24 := Nat.mul_le_mul hR hC
  have hn9 : n ≤ 576 := by omega
  clear hn hij hlim hR1
  go_enter Try.func211, Try.ntmps211
  go_wp2_with fail
  go_loopw [4] (fun u wr => ∃ k : Nat, u = .int .i64 k ∧ k ≤ R ∧ OR wr B (.slice (some ⟨g, 0, none⟩) n cap) (tb R C (loK f (tp (opA (tp f) i j ti)) k)) ∧ BM wr w.heap.size R C (some ⟨g, 0, none⟩) n cap ∧ Blk wr (w.heap.size + 1) 75 #[.int .i64 2, .int .i64 i, .int .i64 j, .int .i64 ti] ∧ w.grownBy wr (some g) ∧ w.heap.size ≤ wr.heap.size) (fun v _ => R - (intOf v).toNat)
  case atStart => exact ⟨0, rfl, Nat.zero_le _, by rw [loK_zero]; (with_reducible (repeat (first | exact h | refine OR.drew ?_ | refine OR.drewN ?_ _ | refine OR.alloc ?_ _ | refine OR.b_ ?_ | refine OR.l_ ?_))), by (with_reducible (repeat (first | assumption | refine BX.n_ | refine BX.b_ ?_ | apply BX.drew | apply BX.drewN | refine BX.put ?_ | refine BX.put2 ?_ | refine BX.f_ ?_ | apply BX.alloc | refine B3.n_ | refine B3.of (by assumption) | refine B3.b_ ?_ | apply B3.drew | apply B3.drewN | refine B3.f_ ?_ | apply B3.alloc))), by (with_reducible (repeat (first | assumption | refine Blk.new_at _ _ _ _ (by first | omega | (simp; done) | (simp; omega)) | refine Blk.below ?_ (by assumption) (by first | omega | (simp; done) | (simp; omega)) | apply Blk.drew | apply Blk.drewN | refine Blk.far ?_ (by simp only [ne_eq]; omega) _ | apply Blk.alloc))), by (with_reducible (repeat (first | assumption | exact World.grownBy.refl _ _ | refine only_alloc ?_ _ | refine only_drewN ?_ _ | refine only_drew ?_ | refine only_set ?_ _ _ | refine grown_far ?_ (by first | omega | (simp; done) | (simp; omega)) _ | refine only_trans ?_ (only_of_below (by assumption) _) | refine only_trans ?_ (by assumption)))), by simp; omega⟩
  case round =>
    clear h
    obtain ⟨k, rfl, hk, hown, hM, hO, hgr, hsz⟩ := hrel
    obtain ⟨oa, ob, oc, of, ol⟩ := hM.mx
    have x0 := hO.cell 0
    have x1 := hO.cell 1
    have x2 := hO.cell 2
    have x3 := hO.cell 3
    have hl := hO.lt
    simp at x0 x1 x2 x3
    by_cases hkR : k < R
    · have c1 := hown.cell (k * C + i) (by rw [tb_len]; exact idx_nat hkR hi)
      have c2 := hown.cell (k * C + j) (by rw [tb_len]; exact idx_nat hkR hj)
      rw [tb_at hkR hi, loK_at] at c1
      rw [tb_at hkR hj, loK_at] at c2
      have f1 := hown.frozen (k * C + i)
      have f2 := hown.frozen (k * C + j)
      have hkC := HLIM.out k hkR
      have hne2 : ¬ g = w.heap.size + 1 := by omega
      have hne3 : ¬ g = w.heap.size := by omega
      have hne4 : ¬ w.heap.size = g := by omega
      have hne5 : ¬ w.heap.size + 1 = g := by omega
      have k1 : (k : Int) * (C : Int) = ((k * C : Nat) : Int) := by rw [Int.natCast_mul]
      have K1 := Lib.hid k1
      have g0 : 0 ≤ (k : Int) * (C : Int) ∧ (k : Int) * (C : Int) + C ≤ n ∧ (k : Int) * (C : Int) ≤ 10000 := by omega
      obtain ⟨g0a, g0b, g0c⟩ := g0
      clear k1
      have hs1 := hown.set_ (k * C + i) (tp (opA (tp f) i j ti) k i)
      rw [tb_set hkR hi, loK_step k (fun x y h1 => tpA_other x y h1)] at hs1
      have HX := Lib.hid (HF.out k i)
      have HY := Lib.hid (HF.out k j)
      have HE := Lib.hid (tpA_at f i j ti k)
      generalize tp (opA (tp f) i j ti) k i = v at *
      generalize f k j = y at *
      generalize f k i = x at *
      go_wp2
      have i1 := K1.out
      have g1 : IntKind.i64.wrap ((k : Int) * (C : Int)) = (k : Int) * (C : Int) := IntWalk.i64_in _ (by omega)
      have g2 : IntKind.i64.wrap ((k : Int) * (C : Int) + (i : Int)) = (k : Int) * (C : Int) + (i : Int) := IntWalk.i64_in _ (by omega)
      have g6 : 0 ≤ (k : Int) * (C : Int) + (i : Int) ∧ (k : Int) * (C : Int) + (i : Int) < (n : Int) := by omega
      have e5 : ((k : Int) * (C : Int) + (i : Int)).toNat = k * C + i := by omega
      rw [← e5] at c1 f1 hs1
      clear i1 e5
      ((refine wp_region_held_drew (S := (fun w' => w'.cell? ⟨w.heap.size, 1, none⟩ = some (.int .i64 C) ∧ w'.cell? ⟨w.heap.size, 2, none⟩ = some (.slice (some ⟨g, 0, none⟩) n cap) ∧ w'.cell? ⟨w.heap.size + 1, 1, none⟩ = some (.int .i64 i) ∧ w'.cell? ⟨w.heap.size + 1, 3, none⟩ = some (.int .i64 ti))) (by kernel_rfl) ?_ (fun hHeld => ?_)); ((focus ((try dsimp only); (go_keep)))); ((refine tk_ (i := 0) (v := ?_) (y := Or.inl ⟨by rfl, ?_⟩) (h := ?_); rotate_left; (focus (((intro w hSw; (try dsimp only at hSw); go_simp) <;> (try with_reducible rfl)); done)); (try simp only [Act.put, p1_, p2_, p3_]))); ((refine tk_ (i := 1) (v := ?_) (y := Or.inl ⟨by rfl, ?_⟩) (h := ?_); rotate_left; (focus (((intro w hSw; (try dsimp only at hSw); go_simp) <;> (try with_reducible rfl)); done)); (try simp only [Act.put, p1_, p2_, p3_]))); ((refine tk_ (i := 2) (v := ?_) (y := Or.inl ⟨by rfl, ?_⟩) (h := ?_); rotate_left; (focus (((intro w hSw; (try dsimp only at hSw); go_simp) <;> (try with_reducible rfl)); done)); (try simp only [Act.put, p1_, p2_, p3_]))); ((refine tk_ (i := 3) (v := ?_) (y := Or.inl ⟨by rfl, ?_⟩) (h := ?_); rotate_left; (focus (((intro w hSw; (try dsimp only at hSw); go_simp) <;> (try with_reducible rfl)); done)); (try simp only [Act.put, p1_, p2_, p3_]))); ((refine tk_ (i := 4) (v := ?_) (y := Or.inl ⟨by rfl, ?_⟩) (h := ?_); rotate_left; (focus (((intro w hSw; (try dsimp only at hSw); go_simp) <;> (try with_reducible rfl)); done)); (try simp only [Act.put, p1_, p2_, p3_]))); ((refine tk_ (i := 5) (v := ?_) (y := Or.inl ⟨by rfl, ?_⟩) (h := ?_); rotate_left; (focus (((intro w hSw; (try dsimp only at hSw); go_simp) <;> (try with_reducible rfl)); done)); (try simp only [Act.put, p1_, p2_, p3_]))); ((refine tk_ (i := 6) (v := ?_) (y := Or.inl ⟨by rfl, ?_⟩) (h := ?_); rotate_left; (focus (((intro w hSw; (try dsimp only at hSw); go_simp) <;> (try with_reducible rfl)); done)); (try simp only [Act.put, p1_, p2_, p3_]))); ((refine tk_ (i := 7) (v := ?_) (y := Or.inl ⟨by rfl, ?_⟩) (h := ?_); rotate_left; (focus (((intro w hSw; (try dsimp only at hSw); go_simp) <;> (try with_reducible rfl)); done)); (try simp only [Act.put, p1_, p2_, p3_]))); ((refine tk_ (i := 8) (v := ?_) (y := Or.inl ⟨by rfl, ?_⟩) (h := ?_); rotate_left; (focus (((intro w hSw; (try dsimp only at hSw); go_simp) <;> (try with_reducible rfl)); done)); (try simp only [Act.put, p1_, p2_, p3_]))); ((refine tk_ (i := 9) (v := ?_) (y := Or.inl ⟨by rfl, ?_⟩) (h := ?_); rotate_left; (focus (((intro w hSw; (try dsimp only at hSw); go_simp) <;> (try with_reducible rfl)); done)); (try simp only [Act.put, p1_, p2_, p3_]))); ((refine tk_ (i := 10) (v := ?_) (y := Or.inl ⟨by rfl, ?_⟩) (h := ?_); rotate_left; (focus (((intro w hSw; (try dsimp only at hSw); go_simp) <;> (try with_reducible rfl)); done)); (try simp only [Act.put, p1_, p2_, p3_]))); ((refine tk_ (i := 11) (v := ?_) (y := Or.inl ⟨by rfl, ?_⟩) (h := ?_); rotate_left; (focus (((intro w hSw; (try dsimp only at hSw); go_simp) <;> (try with_reducible rfl)); done)); (try simp only [Act.put, p1_, p2_, p3_]))); ((refine tk_ (i := 12) (v := ?_) (y := Or.inl ⟨by rfl, ?_⟩) (h := ?_); rotate_left; (focus (((intro w hSw; (try dsimp only at hSw); go_simp) <;> (try with_reducible rfl)); done)); (try simp only [Act.put, p1_, p2_, p3_]))); ((refine wpAnyH_ready (rs := [13]) (by kernel_rfl) (by simp) ?_; refine AllReadyH.cons (by simp only [e1_, e2_, e3_]; try rfl) (fun K hK => ?_) AllReadyH.nil; go_simp; (go_at_call 93; refine (spec_l1Mul y ti _ HY.out HM.out.nb).mono ?_; rintro e w' ⟨rfl, rfl⟩); (try go_wp2_with fail); refine hK.out _ _ ?_ (fun hHeld => ?_); (focus ((try dsimp only); (go_keep))); clear hK K; (try simp only [Act.put, p1_, p2_, p3_]))); ((refine wpAnyH_ready (rs := [14]) (by kernel_rfl) (by simp) ?_; refine AllReadyH.cons (by simp only [e1_, e2_, e3_]; try rfl) (fun K hK => ?_) AllReadyH.nil; go_simp; (go_at_call 186; refine (spec_l1Add x _ _ HX.out (NB.mulF y ti)).mono ?_; rw [← HE.out]; rintro e w' ⟨rfl, rfl⟩); (try go_wp2_with fail); refine hK.out _ _ ?_ (fun hHeld => ?_); (focus ((try dsimp only); (go_keep))); clear hK K; (try simp only [Act.put, p1_, p2_, p3_]))); ((refine tk_ (i := 15) (v := ?_) (y := Or.inl ⟨by rfl, ?_⟩) (h := ?_); rotate_left; (focus (((intro w hSw; (try dsimp only at hSw); go_simp) <;> (try with_reducible rfl)); done)); (try simp only [Act.put, p1_, p2_, p3_]))); ((refine wpAnyH_ready (rs := [16]) (by kernel_rfl) (by simp) ?_; refine AllReadyH.cons (by simp only [e1_, e2_, e3_]; try rfl) (fun K hK => ?_) AllReadyH.nil; go_simp; (try go_wp2_with fail); refine hK.out _ _ ?_ (fun hHeld => ?_); (focus ((try dsimp only); (go_keep))); clear hK K; (try simp only [Act.put, p1_, p2_, p3_]))); (refine wpAnyH_done (by kernel_rfl) ?_ _))
      go_wp2
      go_roundw
      case rel => exact ⟨k + 1, by go_num, by omega, hs1, by (with_reducible (repeat (first | exact hM | refine BX.n_ | refine BX.b_ ?_ | apply BX.drew | apply BX.drewN | refine BX.put ?_ | refine BX.put2 ?_ | refine BX.f_ ?_ | apply BX.alloc | refine B3.n_ | exact B3.of hM | refine B3.b_ ?_ | apply B3.drew | apply B3.drewN | refine B3.f_ ?_ | apply B3.alloc))), by (with_reducible (repeat (first | exact hO | refine Blk.new_at _ _ _ _ (by first | omega | (simp; done) | (simp; omega)) | refine Blk.below ?_ (by assumption) (by first | omega | (simp; done) | (simp; omega)) | apply Blk.drew | apply Blk.drewN | refine Blk.far ?_ (by simp only [ne_eq]; omega) _ | apply Blk.alloc))), by (with_reducible (repeat (first | assumption | exact World.grownBy.refl _ _ | refine only_alloc ?_ _ | refine only_drewN ?_ _ | refine only_drew ?_ | refine only_set ?_ _ _ | refine grown_far ?_ (by first | omega | (simp; done) | (simp; omega)) _ | refine only_trans ?_ (only_of_below (by assumption) _) | refine only_trans ?_ (by assumption)))), by simpa [World.setCell] using hsz⟩
      case measure => simp only [intOf]; omega
    · have hfin := hown.as (show _ = tb R C (tp (opA (tp f) i j ti)) by rw [show k = R by omega]; exact loK_end)
      clear hown
      go_wp2
      go_end0
      exact WW.mk rfl hfin hgr hsz
end Go.Proofs.Ytmcbhpaajjlmmaa

/-
  DERIVED. Several small texts in one: Elem, Smt, PrimS, PlDl, Inv, Prim, PlainR.
-/
import Derived.Test.YtlggfmfelakadaaX2
import Derived.Test.YtlggfmfelakadaaMatOpsx
import Derived.Test.YtlggfmfelakadaaX3
import Derived.Test.YtlggfmfelakadaaRowOpx
import Derived.Test.YtlggfmfelakadaaDetWx
import Derived.Test.YtlggfmfelakadaaEuclidx
import Derived.Test.YtlggfmfelakadaaImgx
/-
  DERIVED. at and set on a table of the call's own.
-/
namespace Go.Proofs.Ytlggfmfelakadaa
open Go.RowKit
set_option linter.unusedVariables false
theorem impl_at_tb (R C i j : Nat) (A : Option Addr) (n cap : Nat) (F : Nat → Nat → Int) (v : Int) (hv : F i j = v) (w : World) {B : Nat} (h : OR w B (.slice A n cap) (tb R C F)) (hR : R ≤ 48) (hC : C ≤ 48) (hi : i < R) (hj : j < C) :
    Calls Try.prog 53 #[.agg #[.int .i64 R, .int .i64 C, .slice A n cap], .int .i64 i, .int .i64 j] w (BV (.int .i64 v) w) := by
  have hn := h.lenEq
  rw [tb_len] at hn
  have h1 := idx_nat hi hj
  have h2 : i * C ≤ 48 * 48 := Nat.mul_le_mul (by omega) hC
  have e1 : (i : Int) * (C : Int) = ((i * C : Nat) : Int) := by rw [Int.natCast_mul]
  have := impl_at R C i j A n cap (tb R C F) w h.reads (Nat.le_refl _) ⟨by omega, by omega⟩ ⟨by omega, by omega⟩ (by omega)
  rw [cel_tb hi hj, hv] at this
  exact this
theorem impl_set_tb (R C i j : Nat) (v : Int) (A : Option Addr) (n cap : Nat) (F F' : Nat → Nat → Int) (hF : upd F i j v = F') (w : World) {B : Nat} (h : OR w B (.slice A n cap) (tb R C F)) (hR : R ≤ 48) (hC : C ≤ 48) (hi : i < R) (hj : j < C) :
    Calls Try.prog 54 #[.agg #[.int .i64 R, .int .i64 C, .slice A n cap], .int .i64 i, .int .i64 j, .int .i64 v] w (WU (.slice A n cap) B (tb R C F') w) := by
  have hn := h.lenEq
  rw [tb_len] at hn
  have h1 := idx_nat hi hj
  have h2 : i * C ≤ 48 * 48 := Nat.mul_le_mul (by omega) hC
  have e1 : (i : Int) * (C : Int) = ((i * C : Nat) : Int) := by rw [Int.natCast_mul]
  have := impl_set R C i j v A n cap (tb R C F) w h ⟨by omega, by omega⟩ ⟨by omega, by omega⟩ (by omega)
  rw [show ((i : Int) * (C : Int) + (j : Int)).toNat = i * C + j by omega, tb_set hi hj, hF] at this
  exact this
end Go.Proofs.Ytlggfmfelakadaa

/-
  DERIVED. SameMatrix of the program.
-/
namespace Go.Proofs.Ytlggfmfelakadaa
open Go.RowKit
set_option linter.unusedVariables false
set_option linter.unusedSimpArgs false
def sameB (r c : Int) (xs : List Int) (r2 c2 : Int) (ys : List Int) : Bool := decide (r = r2) && decide (c = c2) && eqB xs ys
theorem sameB_r {r c : Int} {xs : List Int} {r2 c2 : Int} {ys : List Int} (h : ¬ r = r2) : sameB r c xs r2 c2 ys = false := by simp [sameB, h]
theorem sameB_c {r c : Int} {xs : List Int} {r2 c2 : Int} {ys : List Int} (h : ¬ c = c2) : sameB r c xs r2 c2 ys = false := by simp [sameB, h]
theorem sameB_e {r c : Int} {xs ys : List Int} : sameB r c xs r c ys = eqB xs ys := by simp [sameB]
set_option maxRecDepth 100000 in
set_option maxHeartbeats 4000000 in
theorem impl_SameMatrix (r c r2 c2 : Int) (A A' : Option Addr) (n cap n' cap' : Nat) (xs ys : List Int) (w : World) {B B' : Nat} (h : RI w B A n xs) (h' : RI w B' A' n' ys) (hB : B ≤ w.heap.size) (hB' : B' ≤ w.heap.size) (hn : n ≤ 1048576) (hn' : n' ≤ 1048576) :
    Calls Try.prog 10 #[.agg #[.int .i64 r, .int .i64 c, .slice A n cap], .agg #[.int .i64 r2, .int .i64 c2, .slice A' n' cap']] w (BV (.bool (sameB r c xs r2 c2 ys)) w) := by
  have H2 := Lib.hid (h.more hB)
  have H3 := Lib.hid (h'.more hB')
  clear h h'
  by_cases hr : r = r2
  · subst hr
    by_cases hc : c = c2
    · subst hc
      have HE := Lib.hid (sameB_e (r := r) (c := c) (xs := xs) (ys := ys))
      go_enter Try.func10, Try.ntmps10
      go_wp2_with fail
      refine (slices_Equal A A' n n' cap cap' xs ys _ (C := w.heap.size) (C' := w.heap.size) (Kr H2.out) (Kr H3.out) (by omega) (by omega)).mono ?_
      rintro e w2 ⟨rfl, nd, rfl⟩
      go_wp2_with fail
      go_ret
      exact BV.mk (vbool (by rw [HE.out])) Kw
    · have HE := Lib.hid (sameB_c (r := r) (xs := xs) (r2 := r) (ys := ys) hc)
      have hb : (c == c2) = false := by simp [hc]
      clear hc
      go_enter Try.func10, Try.ntmps10
      go_wp2_with fail
      go_ret
      exact BV.mk (vbool (by rw [HE.out])) Kw
  · have HE := Lib.hid (sameB_r (c := c) (xs := xs) (c2 := c2) (ys := ys) hr)
    have hb : (r == r2) = false := by simp [hr]
    clear hr
    go_enter Try.func10, Try.ntmps10
    go_wp2_with fail
    go_ret
    exact BV.mk (vbool (by rw [HE.out])) Kw
end Go.Proofs.Ytlggfmfelakadaa

/-
  DERIVED. l7Primitive of the reference.
-/
namespace Go.Proofs.Ytlggfmfelakadaa
open Go.RowKit
set_option linter.unusedVariables false
set_option linter.unusedSimpArgs false
/-- The sign of the first number that is not 0. -/
def sgL (l : List Int) : Int := l.foldl (fun s x => if s = 0 then x.sign else s) 0
theorem sgL_take {l : List Int} {k : Nat} (h : k < l.length) : sgL (l.take (k + 1)) = if sgL (l.take k) = 0 then (l.getD k 0).sign else sgL (l.take k) := by
  have e : l[k]? = some (l.getD k 0) := by simp [List.getD, h]
  rw [List.take_add_one, e]
  simp [sgL, List.foldl_append]
theorem sgF_keep (s : Int) (hs : s ≠ 0) : ∀ l : List Int, l.foldl (fun s x => if s = 0 then x.sign else s) s = s
  | [] => rfl
  | x :: l => by
    show l.foldl _ (if s = 0 then x.sign else s) = s
    rw [if_neg hs]
    exact sgF_keep s hs l
theorem sgL_eq : ∀ l : List Int, sgL l = (l.getD (fcN l) 0).sign
  | [] => rfl
  | x :: l => by
    unfold sgL fcN
    show l.foldl _ (if (0 : Int) = 0 then x.sign else 0) = _
    rw [if_pos rfl]
    by_cases h : x = 0
    · rw [if_pos h, h]
      show l.foldl _ (Int.sign 0) = _
      rw [Int.sign_zero]
      have := sgL_eq l
      unfold sgL at this
      rw [this]
      simp
    · rw [if_neg h, sgF_keep _ (by rw [Ne, Int.sign_eq_zero_iff_zero]; exact h)]
      simp
theorem sgL_bd (l : List Int) : -1 ≤ sgL l ∧ sgL l ≤ 1 := by
  rw [sgL_eq]
  rcases Int.lt_trichotomy (l.getD (fcN l) 0) 0 with h | h | h
  · rw [Int.sign_eq_neg_one_of_neg h]; omega
  · rw [h]; simp
  · rw [Int.sign_eq_one_of_pos h]; omega
theorem sg_prim {l : List Int} {k : Nat} (hk : k < l.length) (h0 : gcdL l ≠ 0) : (sgL l * l.getD k 0).tdiv (gcdL l : Nat) = (primL l).getD k 0 := by
  rw [primL_getD hk h0, sgL_eq]
  have hlt := fcN_lt_iff.2 h0
  have hne := fcN_ne l hlt
  unfold divL
  by_cases h : l.getD (fcN l) 0 < 0
  · rw [if_pos h, Int.sign_eq_neg_one_of_neg h, Int.tdiv_neg]
    rw [show (-1 : Int) * l.getD k 0 = -(l.getD k 0) by omega, Int.neg_tdiv]
  · rw [if_neg h, Int.sign_eq_one_of_pos (by omega), Int.one_mul]
theorem quo_abs {x : Int} (h : x ≠ 0) : x.tdiv (x.natAbs : Nat) = x.sign := by
  rcases Int.lt_or_gt_of_ne h with h1 | h1
  · rw [Int.sign_eq_neg_one_of_neg h1]
    have e : ((x.natAbs : Nat) : Int) = -x := by omega
    rw [e, Int.tdiv_neg, Int.tdiv_self h]
  · rw [Int.sign_eq_one_of_pos h1]
    have e : ((x.natAbs : Nat) : Int) = x := by omega
    rw [e, Int.tdiv_self h]
def pmK (C : Nat) (f : Nat → Nat → Int) (i k : Nat) : Nat → Nat → Int := fun a c => if a = i ∧ c < k then (primL (rw_ C f i)).getD c 0 else f a c
theorem pmK_zero (C : Nat) (f : Nat → Nat → Int) (i : Nat) : pmK C f i 0 = f := by funext a c; simp [pmK]
theorem pmK_at (C : Nat) (f : Nat → Nat → Int) (i k c : Nat) (h : k ≤ c) : pmK C f i k i c = f i c := by unfold pmK; rw [if_neg (by omega)]
theorem pmK_step (C : Nat) (f : Nat → Nat → Int) (i k : Nat) : upd (pmK C f i k) i k ((primL (rw_ C f i)).getD k 0) = pmK C f i (k + 1) := by
  funext a c
  unfold upd pmK
  grind
theorem pmK_end {R C : Nat} (f : Nat → Nat → Int) (i : Nat) : tb R C (pmK C f i C) = tb R C (prF C f i) := tb_ext fun a c ha hc => by unfold pmK prF setR; grind
theorem prF_zero {R C : Nat} {f : Nat → Nat → Int} {i : Nat} (h : gcdL (rw_ C f i) = 0) : tb R C (prF C f i) = tb R C f := prF_same ((primL_eq_iff _).2 (.inl h))
end Go.Proofs.Ytlggfmfelakadaa

/-
  DERIVED. The determinant by its first row, as a list, is that of the matrix: no program in sight.
-/
namespace Go.Proofs.Ytlggfmfelakadaa
set_option linter.unusedVariables false
theorem tab_succ (n : Nat) (f : Nat → Int) : tab (n + 1) f = tab n f ++ [f n] := by
  unfold tab
  rw [List.range_succ, List.map_append]
  rfl
def wcG (xs : List Int) (C j : Nat) (q : Nat) : Int := cel xs C ((q / (C - 1) + 1 : Nat) : Int) (sk j (q % (C - 1)) : Nat)
def wcN (j k : Nat) : Nat := k - (if j < k then 1 else 0)
theorem wcK_tab_row {xs : List Int} {C j i : Nat} (hj : j < C) (hi : 1 ≤ i) (h0 : wcK xs C j (i * C) = tab ((i - 1) * (C - 1)) (wcG xs C j)) : ∀ k, k ≤ C → wcK xs C j (i * C + k) = tab ((i - 1) * (C - 1) + wcN j k) (wcG xs C j)
  | 0, _ => by
    have : wcN j 0 = 0 := by unfold wcN; omega
    rw [this, Nat.add_zero, Nat.add_zero]; exact h0
  | k + 1, hk => by
    have ih := wcK_tab_row hj hi h0 k (by omega)
    by_cases hc : k = j
    · have : wcN j (k + 1) = wcN j k := by unfold wcN; subst hc; rw [if_pos (by omega), if_neg (by omega)]; omega
      rw [wcK_no (by omega) (.inr hc), ih, this]
    · have e1 : wcN j (k + 1) = wcN j k + 1 := by unfold wcN; repeat' split
                                                  all_goals omega
      have e2 : wcN j k < C - 1 := by unfold wcN; split <;> omega
      have e3 : sk j (wcN j k) = k := by unfold sk wcN; repeat' split
                                         all_goals omega
      rw [wcK_yes (by omega) (by omega) hc, ih, e1, ← Nat.add_assoc, tab_succ]
      congr 2
      unfold wcG
      rw [(idx_div e2).1, (idx_div e2).2, e3, Nat.sub_add_cancel hi, cel_nat]
theorem wcK_tab {xs : List Int} {C j : Nat} (hj : j < C) : ∀ i, 1 ≤ i → wcK xs C j (i * C) = tab ((i - 1) * (C - 1)) (wcG xs C j)
  | 0, h => absurd h (by omega)
  | 1, _ => by
    have := wcK_len (xs := xs) hj 1
    rw [Nat.sub_self, Nat.zero_mul] at this ⊢
    exact List.length_eq_zero_iff.1 this
  | i + 2, _ => by
    have ih := wcK_tab (xs := xs) hj (i + 1) (by omega)
    have h := wcK_tab_row hj (by omega) ih C (Nat.le_refl _)
    have e : (i + 2) * C = (i + 1) * C + C := by rw [show i + 2 = (i + 1) + 1 by omega, Nat.add_mul (i + 1) 1 C, Nat.one_mul]
    have e2 : wcN j C = C - 1 := by unfold wcN; rw [if_pos hj]
    rw [e, h, e2]
    congr 1
    rw [show i + 1 - 1 = i by omega, show i + 2 - 1 = i + 1 by omega, Nat.add_mul, Nat.one_mul]
theorem wc_cel {xs : List Int} {n j a b : Nat} (hj : j < n + 1) (ha : a < n) (hb : b < n) : cel (wcK xs (n + 1) j ((n + 1) * (n + 1))) n a b = mnr (fun i j => cel xs (n + 1 : Nat) i j) j a b := by
  have h := wcK_tab (xs := xs) hj (n + 1) (by omega)
  rw [h, cel_nat, Nat.add_sub_cancel, tab_getD (idx_nat ha hb)]
  unfold wcG
  rw [Nat.add_sub_cancel, (idx_div hb).1, (idx_div hb).2]
  rfl
theorem wc_len {xs : List Int} {n j : Nat} (hj : j < n + 1) : (wcK xs (n + 1) j ((n + 1) * (n + 1))).length = n * n := by
  rw [wcK_len hj (n + 1), Nat.add_sub_cancel]
theorem detS_sum {n : Nat} {D : List Int → Option Int} (hD : ∀ ys d, ys.length = n * n → D ys = some d → d = Dt n (fun i j => cel ys n i j)) {xs : List Int} :
    ∀ j s, j ≤ n + 1 → detS D (n + 1) xs j = some s → s = sumTo (fun k => sg k * cel xs (n + 1 : Nat) (0 : Nat) k * Dt n (mnr (fun i j => cel xs (n + 1 : Nat) i j) k)) j
  | 0, s, _, h => by cases h; rfl
  | j + 1, s, hj, h => by
    have h' : (detS D (n + 1) xs j).bind (fun s => if xs.getD j 0 = 0 then some s else (D (wcK xs (n + 1) j ((n + 1) * (n + 1)))).bind fun d => some (s + (if j % 2 = 1 then -(xs.getD j 0) else xs.getD j 0) * d)) = some s := h
    rcases hs : detS D (n + 1) xs j with _ | s0
    · rw [hs] at h'; cases h'
    · rw [hs] at h'
      have ih := detS_sum hD j s0 (by omega) hs
      have ec : cel xs (n + 1 : Nat) (0 : Nat) j = xs.getD j 0 := by rw [cel_nat, Nat.zero_mul, Nat.zero_add]
      rw [sumTo_succ, ← ih, ec]
      simp only [Option.bind_some] at h'
      by_cases h0 : xs.getD j 0 = 0
      · rw [if_pos h0] at h'
        cases h'
        rw [h0]
        grind
      · rw [if_neg h0] at h'
        rcases hd : D (wcK xs (n + 1) j ((n + 1) * (n + 1))) with _ | d
        · rw [hd] at h'; cases h'
        · rw [hd] at h'
          simp only [Option.bind_some] at h'
          have e := hD _ d (wc_len (by omega)) hd
          have e2 : Dt n (fun a b => cel (wcK xs (n + 1) j ((n + 1) * (n + 1))) n a b) = Dt n (mnr (fun i j => cel xs (n + 1 : Nat) i j) j) := Dt_congr n fun a b ha hb => wc_cel (by omega) ha hb
          rw [e2] at e
          cases h'
          rw [e]
          unfold sg
          split
          · grind
          · grind
/-- The determinant that is found is the determinant. -/
theorem detL_Dt : ∀ (n : Nat) (xs : List Int) (d : Int), xs.length = n * n → detL n xs = some d → d = Dt n (fun i j => cel xs n i j)
  | 0, xs, d, _, h => by cases h; rfl
  | n + 1, xs, d, hl, h => by
    unfold detL at h
    rcases hs : detS (detL n) (n + 1) xs (n + 1) with _ | s
    · rw [hs] at h; cases h
    · rw [hs] at h
      simp only [Option.bind_some] at h
      split at h
      · cases h
        have := detS_sum (fun ys d hy hd => detL_Dt n ys d hy hd) (n + 1) _ (Nat.le_refl _) hs
        rw [this]
        rfl
      · cases h
end Go.Proofs.Ytlggfmfelakadaa

/-
  DERIVED. The contracts of inverseAny, InverseModulo and ResidueOf.
-/
namespace Go.Proofs.Ytlggfmfelakadaa
open Go.RowKit
set_option linter.unusedVariables false
/-- The inverse that Euclid's algorithm finds. -/
def invOf (a m : Int) : Int := (egRes (a % m) m).2.1 % m
theorem emod_bds (a m : Int) (hm : 1 ≤ m) : 0 ≤ a % m ∧ a % m < m := ⟨Int.emod_nonneg a (by omega), Int.emod_lt_of_pos a (by omega)⟩
theorem egRes_bds {a b : Int} (ha : -400000000 ≤ a ∧ a ≤ 400000000) (hb : -400000000 ≤ b ∧ b ≤ 400000000) :
    (-400000000 ≤ (egRes a b).1 ∧ (egRes a b).1 ≤ 400000000) ∧ (-400000000 ≤ (egRes a b).2.1 ∧ (egRes a b).2.1 ≤ 400000000) ∧ (-400000000 ≤ (egRes a b).2.2 ∧ (egRes a b).2.2 ≤ 400000000) := by
  obtain ⟨G, X, Y, U, V, hr, i⟩ := egL_spec (a := a) (b := b) (by omega) (by omega) _ _ _ _ _ _ _ (Nat.le_refl _) (EgInv.start ha hb)
  have g1 := i.g1
  have x1 := i.x1
  have y1 := i.y1
  unfold egRes
  rw [hr]
  dsimp only
  split
  · exact ⟨by dsimp only; omega, by dsimp only; omega, by dsimp only; omega⟩
  · exact ⟨by dsimp only; omega, by dsimp only; omega, by dsimp only; omega⟩

theorem impl_inverseAny (a m : Int) (ha : -9223372036854775808 ≤ a ∧ a ≤ 9223372036854775807) (hm : 1 ≤ m ∧ m ≤ 400000000) (w : World) :
    Calls Try.prog 110 #[.int .i64 a, .int .i64 m] w (BV (.int .i64 (invOf a m)) w) := by
  obtain ⟨m1, m2⟩ := emod_bds a m hm.1
  obtain ⟨_, ⟨x1, x2⟩, _⟩ := egRes_bds (a := a % m) (b := m) (by omega) (by omega)
  go_enter Try.func110, Try.ntmps110
  go_wp2_with (first | (go_at_call 108; refine (impl_mod _ _ _ (by omega) (by omega) (by omega) (by omega)).mono ?_; rintro e w' ⟨rfl, rfl⟩) | (go_at_call 126; refine (impl_ExtendedGcd _ _ (by omega) (by omega) _).mono ?_; rintro e w1 ⟨rfl, hb⟩; simp only [egV]; have hz := hb.size; (try simp at hz); have kk := bkeep (w := w) hb Ks; obtain ⟨kc, kf⟩ := kk; (try (have kk := bkeepb (w.heap.size) hb Ks; obtain ⟨kc0, kf0, kl0⟩ := kk)); (try (have kk := bkeepb (w.heap.size + 1) hb Ks; obtain ⟨kc1, kf1, kl1⟩ := kk)); (try (have kk := bkeepb (w.heap.size + 1 + 1) hb Ks; obtain ⟨kc2, kf2, kl2⟩ := kk)); (try (have kk := bkeepb (w.heap.size + 1 + 1 + 1) hb Ks; obtain ⟨kc3, kf3, kl3⟩ := kk)); (try (have kk := bkeepb (wr.heap.size) hb Ks; obtain ⟨kr0, ks0, kt0⟩ := kk)); (try (have kk := bkeepb (wr.heap.size + 1) hb Ks; obtain ⟨kr1, ks1, kt1⟩ := kk)); (try (have kk := bkeepb (wr.heap.size + 1 + 1) hb Ks; obtain ⟨kr2, ks2, kt2⟩ := kk))))
  go_ret
  exact BV.mk rfl Kw

def invOk (a p : Int) : Bool := isPr p && isNum a && decide (a % p ≠ 0)
def invRes (a p : Int) : Int := if invOk a p then invOf a p else 0
theorem isPr_bds {p : Int} (h : isPr p = true) : 2 ≤ p ∧ p ≤ 10000 := by
  simp only [isPr, Bool.and_eq_true, decide_eq_true_eq] at h
  exact h.1
theorem inv_cases (a p : Int) : (isPr p = false ∧ invOk a p = false ∧ invRes a p = 0) ∨ (isPr p = true ∧ isNum a = false ∧ invOk a p = false ∧ invRes a p = 0) ∨
    (isPr p = true ∧ isNum a = true ∧ (a % p == 0) = true ∧ (a.tmod p == 0) = true ∧ invOk a p = false ∧ invRes a p = 0) ∨
    (isPr p = true ∧ isNum a = true ∧ (a % p == 0) = false ∧ (a.tmod p == 0) = false ∧ invOk a p = true ∧ invRes a p = invOf a p) := by
  unfold invRes
  rcases hp : isPr p with _ | _
  · left; simp [invOk, hp]
  · rcases hn : isNum a with _ | _
    · right; left; simp [invOk, hp, hn]
    · right; right
      have ht := tmod_zero_iff a p
      by_cases h0 : a % p = 0
      · left; simp [invOk, hp, hn, h0]; omega
      · right; simp [invOk, hp, hn, h0]; omega

theorem spec_InverseModulo (a p : Int) (ha : -9223372036854775808 ≤ a ∧ a ≤ 9223372036854775807) (w : World) :
    Calls Try.prog 129 #[.int .i64 a, .int .i64 p] w (BV (.tuple #[.int .i64 (invRes a p), .bool (invOk a p)]) w) := by
  rcases inv_cases a p with ⟨hp, h1, h2⟩ | ⟨hp, hn, h1, h2⟩ | ⟨hp, hn, h3, h4, h1, h2⟩ | ⟨hp, hn, h3, h4, h1, h2⟩
  · rw [h1, h2]
    clear h1 h2
    go_enter Try.func129, Try.ntmps129
    go_wp2_with (first | (go_at_call 127; refine (spec_IsPrime _ _).mono ?_; rintro e w' ⟨rfl, rfl⟩))
    go_ret2
    exact BV.mk rfl Kw
  all_goals
    rw [h1, h2]
    clear h1 h2
    obtain ⟨p1, p2⟩ := isPr_bds hp
    obtain ⟨m1, m2⟩ := emod_bds a p (by omega)
    obtain ⟨_, ⟨x1, x2⟩, _⟩ := egRes_bds (a := a % p) (b := p) (by omega) (by omega)
    go_enter Try.func129, Try.ntmps129
    go_wp2_with (first | (go_at_call 127; refine (spec_IsPrime _ _).mono ?_; rintro e w' ⟨rfl, rfl⟩) | (go_at_call 111; (first | refine (spec_IsNumber_yes _ _ (by omega)).mono ?_ | refine (spec_IsNumber_no _ _ (by omega)).mono ?_ | refine (spec_IsNumber _ _).mono ?_); rintro e w' ⟨rfl, rfl⟩) | (go_at_call 75; refine (spec_l8Mod _ _ _ (by omega) (by omega) (by omega) (by omega)).mono ?_; rintro e w' ⟨rfl, rfl⟩) | (go_at_call 135; refine (spec_ExtendedGcd _ _ (by omega) (by omega) _).mono ?_; rintro e w1 ⟨rfl, hb⟩; simp only [egV]; have hz := hb.size; (try simp at hz); have kk := bkeep (w := w) hb Ks; obtain ⟨kc, kf⟩ := kk; (try (have kk := bkeepb (w.heap.size) hb Ks; obtain ⟨kc0, kf0, kl0⟩ := kk)); (try (have kk := bkeepb (w.heap.size + 1) hb Ks; obtain ⟨kc1, kf1, kl1⟩ := kk)); (try (have kk := bkeepb (w.heap.size + 1 + 1) hb Ks; obtain ⟨kc2, kf2, kl2⟩ := kk)); (try (have kk := bkeepb (w.heap.size + 1 + 1 + 1) hb Ks; obtain ⟨kc3, kf3, kl3⟩ := kk)); (try (have kk := bkeepb (wr.heap.size) hb Ks; obtain ⟨kr0, ks0, kt0⟩ := kk)); (try (have kk := bkeepb (wr.heap.size + 1) hb Ks; obtain ⟨kr1, ks1, kt1⟩ := kk)); (try (have kk := bkeepb (wr.heap.size + 1 + 1) hb Ks; obtain ⟨kr2, ks2, kt2⟩ := kk))))
    go_ret2
    exact BV.mk rfl Kw

def resOk (n d m : Int) : Bool := ratOk n d && decide (1 ≤ m) && decide (m ≤ 400000000) && decide (Int.gcd d m = 1)
def resVal (n d m : Int) : Int := if resOk n d m then (n % m * invOf d m) % m else 0
theorem res_cases (n d m : Int) : (ratOk n d = false ∧ resOk n d m = false ∧ resVal n d m = 0) ∨ (ratOk n d = true ∧ m < 1 ∧ resOk n d m = false ∧ resVal n d m = 0) ∨
    (ratOk n d = true ∧ 1 ≤ m ∧ 400000000 < m ∧ resOk n d m = false ∧ resVal n d m = 0) ∨
    (ratOk n d = true ∧ 1 ≤ m ∧ m ≤ 400000000 ∧ (((Int.gcd d m : Nat) : Int) != 1) = true ∧ resOk n d m = false ∧ resVal n d m = 0) ∨
    (ratOk n d = true ∧ 1 ≤ m ∧ m ≤ 400000000 ∧ (((Int.gcd d m : Nat) : Int) != 1) = false ∧ resOk n d m = true ∧ resVal n d m = (n % m * invOf d m) % m) := by
  unfold resVal
  rcases hr : ratOk n d with _ | _
  · left; simp [resOk, hr]
  · right
    by_cases h1 : m < 1
    · left
      have : ¬ 1 ≤ m := by omega
      simp [resOk, hr, h1, this]
    · right
      by_cases h2 : 400000000 < m
      · left
        have : ¬ m ≤ 400000000 := by omega
        simp [resOk, hr, h2, this]; omega
      · right
        have a1 : 1 ≤ m := by omega
        have a2 : m ≤ 400000000 := by omega
        by_cases h3 : Int.gcd d m = 1
        · right; simp [resOk, hr, h3, a1, a2]
        · left
          simp [resOk, hr, h3, a1, a2]; omega
theorem ret_prod (a b m : Int) : a * b % m = b * a % m := by rw [Int.mul_comm]

end Go.Proofs.Ytlggfmfelakadaa

/-
  DERIVED. makePrimitive of the program, in a window of an owned block.
-/
namespace Go.Proofs.Ytlggfmfelakadaa
open Go.RowKit
set_option linter.unusedVariables false
set_option linter.unusedSimpArgs false
theorem gcdF_le (l : List Int) (M : Nat) (h : ∀ x ∈ l, x.natAbs ≤ M) : ∀ a : Nat, a ≤ M → l.foldl (fun (g : Nat) (x : Int) => Int.gcd g x) a ≤ M := by
  induction l with
  | nil => intro a ha; simpa using ha
  | cons y l ih =>
    intro a ha
    refine ih (fun x hx => h x (List.mem_cons_of_mem _ hx)) _ ?_
    show Int.gcd a y ≤ M
    by_cases hy : y = 0
    · subst hy; simpa using ha
    · have h1 : Int.gcd a y ∣ y.natAbs := Int.gcd_dvd_natAbs_right ..
      have h2 := Nat.le_of_dvd (by omega) h1
      have := h y (List.mem_cons_self ..)
      omega
theorem RI.window {w : World} {B g n cap off m : Nat} {xs : List Int} (h : OR w B (.slice (some ⟨g, 0, none⟩) n cap) xs) (hw : off + m ≤ xs.length) : RI w (g + 1) (some ⟨g, off, none⟩) m (winL xs off m) :=
  ⟨winL_len hw, fun _ => ⟨g, off, rfl, by omega, fun k hk => by rw [winL_getD hk]; exact h.cell (off + k) (by omega)⟩⟩
set_option maxHeartbeats 4000000 in
theorem impl_makePrimitive (g off m capv n cap : Nat) (xs : List Int) (w : World) {B : Nat} (h : OR w B (.slice (some ⟨g, 0, none⟩) n cap) xs) (hw : off + m ≤ xs.length) (hm : m ≤ 1000) (hb : ∀ k, -400000000 ≤ xs.getD k 0 ∧ xs.getD k 0 ≤ 400000000) :
    Calls Try.prog 120 #[.slice (some ⟨g, off, none⟩) m capv] w (WU (.slice (some ⟨g, 0, none⟩) n cap) B (splL xs off (primL (winL xs off m))) w) := by
  have HB := Lib.hid hb
  clear hb
  have HX : Hid (∀ k, k < m → w.cell? ⟨g, off + k, none⟩ = some (.int .i64 ((winL xs off m).getD k 0))) := Lib.hid (fun k hk => by rw [winL_getD hk]; exact h.cell (off + k) (by omega))
  have HLB : Hid (∀ k, -400000000 ≤ (winL xs off m).getD k 0 ∧ (winL xs off m).getD k 0 ≤ 400000000) := Lib.hid (fun k => by
    by_cases hk : k < m
    · rw [winL_getD hk]; exact HB.out _
    · simp [List.getD, List.getElem?_eq_none (show (winL xs off m).length ≤ k by rw [winL_len hw]; omega)])
  have HGL : Hid (∀ k, gcdL ((winL xs off m).take k) ≤ 400000000) := Lib.hid (fun k => by
    refine gcdF_le _ 400000000 (fun x hx => ?_) 0 (by omega)
    have h1 := List.mem_of_mem_take hx
    obtain ⟨i, hi, rfl⟩ := List.mem_iff_getElem.1 h1
    have h2 := HLB.out i
    have h3 : (winL xs off m).getD i 0 = (winL xs off m)[i] := by simp [List.getD, hi]
    rw [h3] at h2; omega)
  have HWL : Hid ((winL xs off m).length = m) := Lib.hid (winL_len hw)
  have HSW : Hid (splL xs off (winL xs off m) = xs) := Lib.hid (splL_win hw)
  have H := Lib.hid h
  have hlt : g < w.heap.size := by
    rcases h.form with ⟨h1, _⟩ | ⟨g', cap', h1, _, h3, _⟩
    · cases h1
    · injection h1 with e1 e2 e3; injection e1 with e1; injection e1 with e1; subst e1; exact h3
  clear h
  generalize winL xs off m = l at *
  go_enter Try.func120, Try.ntmps120
  go_wp2
  go_loopw [2, 8] (fun u v wr => ∃ k nd : Nat, v = .int .i64 k ∧ u = .int .i64 (gcdL (l.take k) : Nat) ∧ k ≤ m ∧ wr = w.drewN nd) (fun _ v _ => m - (intOf v).toNat)
  case atStart => exact ⟨0, 0, rfl, by simp [gcdL], Nat.zero_le _, rfl⟩
  case round =>
    obtain ⟨k, nd, rfl, rfl, hk, rfl⟩ := hrel
    have hg1 := HGL.out k
    by_cases hkm : k < m
    · have c1 := HX.out k hkm
      obtain ⟨y1, y2⟩ := HLB.out k
      have hst := Lib.hid (gcdL_take (l := l) (k := k) (by have := HWL.out; omega))
      generalize gcdL (l.take k) = q at *
      generalize l.getD k 0 = y at *
      go_wp2_with (first | (go_at_call 121; refine (impl_gcd _ _ _ (by omega) (by omega) (by omega) (by omega)).mono ?_; rintro e w' ⟨rfl, nd, rfl⟩))
      go_roundw
      case rel => exact ⟨k + 1, _, by go_num, by rw [hst.out], by omega, rfl⟩
      case measure => simp only [intOf]; omega
    · obtain rfl : k = m := by omega
      have htk : l.take k = l := List.take_of_length_le (by have := HWL.out; omega)
      rw [htk] at hg1 ⊢
      clear htk
      by_cases hz : gcdL l = 0
      · have hzb : (((gcdL l : Nat) : Int) == 0) = true := by simp [hz]
        have HE : Hid (splL xs off (primL l) = xs) := Lib.hid (by rw [show primL l = l by unfold primL; rw [if_pos hz]]; exact HSW.out)
        clear hz
        generalize gcdL l = q at *
        go_wp2
        refine bodyPost_ret (v := .tuple #[]) (by simp [results, Try.results120]) rfl ?_
        exact ⟨rfl, by rw [HE.out]; exact H.out.drewN _, World.grownBy.refl w _ |> fun h => only_drewN h _, Nat.le_refl _⟩
      · have hzb : (((gcdL l : Nat) : Int) == 0) = false := by simp; omega
        have hfl := fcN_lt_iff.2 hz
        have hfk : fcN l < k := by have := HWL.out; omega
        have HFI : Hid (fcI l = (fcN l : Int)) := Lib.hid (by unfold fcI; rw [if_pos hfl])
        have c2 := HX.out (fcN l) hfk
        have HPG : Hid (∀ j, j < k → (primL l).getD j 0 = (l.getD j 0).tdiv (divL l)) := Lib.hid (fun j hj => primL_getD (by have := HWL.out; omega) hz)
        have HDV : Hid (divL l = if l.getD (fcN l) 0 < 0 then -(gcdL l : Int) else gcdL l) := Lib.hid rfl
        have hd0 : ¬ divL l = 0 := by have := divL_abs l; intro e; rw [e] at this; simp at this; omega
        have hdb : (divL l).natAbs ≤ 400000000 := by rw [divL_abs]; exact hg1
        obtain ⟨f1, f2⟩ := HLB.out (fcN l)
        generalize l.getD (fcN l) 0 = x0 at *
        have HPL := Lib.hid (primL_len l)
        have hoff : off + k ≤ n := by have := H.out.lenEq; omega
        by_cases hneg : x0 < 0
        · have HD : Hid (divL l = -(gcdL l : Int)) := Lib.hid (by rw [HDV.out, if_pos hneg])
          rw [HD.out] at hd0 hdb
          have HPG2 : Hid (∀ j, j < k → (primL l).getD j 0 = -((l.getD j 0).tdiv (gcdL l : Int))) := Lib.hid (fun j hj => by rw [← Int.tdiv_neg, ← HD.out]; exact HPG.out j hj)
          go_wp2_with fail
          refine (impl_firstCell (some ⟨g, off, none⟩) k capv l _ (B := g + 1) ?_ (by omega)).mono ?_
          · exact (show RI w (g + 1) (some ⟨g, off, none⟩) k l from ⟨HWL.out, fun _ => ⟨g, off, rfl, by omega, fun j hj => HX.out j hj⟩⟩).drewN _
          rw [HFI.out]
          rintro e w' ⟨rfl, rfl⟩
          go_wp2_with fail
          go_loopw [5, 28] (fun _ v wr => ∃ j : Nat, v = .int .i64 j ∧ j ≤ k ∧ OR wr B (.slice (some ⟨g, 0, none⟩) n cap) (splL xs off (mixL (primL l) l j)) ∧ w.grownBy wr (some g) ∧ w.heap.size ≤ wr.heap.size) (fun _ v _ => k - (intOf v).toNat)
          case atStart => exact ⟨0, rfl, Nat.zero_le _, by rw [mixL_zero, HSW.out]; exact H.out.drewN _, only_drewN (World.grownBy.refl w _) _, Nat.le_refl _⟩
          case round =>
            obtain ⟨j, rfl, hj, hown, hgr, hsz⟩ := hrel
            by_cases hjk : j < k
            · have hml := mixL_len HPL.out (show j ≤ l.length by have := HWL.out; omega)
              have hc1 := hown.cell (off + j) (by rw [splL_len (by rw [hml]; have := HWL.out; omega)]; omega)
              rw [splL_getD (by rw [hml]; have := HWL.out; omega) (by rw [hml]; have := HWL.out; omega), mixL_at HPL.out (by have := HWL.out; omega)] at hc1
              have hf1 := hown.frozen (off + j)
              have hst := hown.set_ (off + j) (-((l.getD j 0).tdiv (gcdL l : Int)))
              rw [splL_set (by rw [hml]; have := HWL.out; omega) (by rw [hml]; have := HWL.out; omega), ← HPG2.out j hjk, mixL_set HPL.out (by have := HWL.out; omega), HPG2.out j hjk] at hst
              obtain ⟨y1, y2⟩ := HLB.out j
              have hq := (quo_bd (l.getD j 0) (gcdL l : Int) 0 (by omega) (by omega)).1
              clear hml
              have HST := Lib.hid hst
              clear hst
              generalize l.getD j 0 = y at *
              have hq1 : -400000000 ≤ y.tdiv (gcdL l : Int) ∧ y.tdiv (gcdL l : Int) ≤ 400000000 := by omega
              obtain ⟨hq2, hq3⟩ := hq1
              clear hq
              go_wp2
              go_roundw
              case rel => exact ⟨j + 1, by go_num, by omega, HST.out, only_set hgr _ _, by simpa [World.setCell] using hsz⟩
              case measure => simp only [intOf]; omega
            · have hfin := hown.as (congrArg (splL xs off) (mixL_all HPL.out (show l.length ≤ j by have := HWL.out; omega)))
              clear hown
              go_wp2
              go_end0
              exact ⟨rfl, hfin, hgr, hsz⟩
        · have HD : Hid (divL l = (gcdL l : Int)) := Lib.hid (by rw [HDV.out, if_neg hneg])
          rw [HD.out] at hd0 hdb
          have HPG2 : Hid (∀ j, j < k → (primL l).getD j 0 = (l.getD j 0).tdiv ((gcdL l : Int))) := Lib.hid (fun j hj => by rw [← HD.out]; exact HPG.out j hj)
          go_wp2_with fail
          refine (impl_firstCell (some ⟨g, off, none⟩) k capv l _ (B := g + 1) ?_ (by omega)).mono ?_
          · exact (show RI w (g + 1) (some ⟨g, off, none⟩) k l from ⟨HWL.out, fun _ => ⟨g, off, rfl, by omega, fun j hj => HX.out j hj⟩⟩).drewN _
          rw [HFI.out]
          rintro e w' ⟨rfl, rfl⟩
          go_wp2_with fail
          go_loopw [5, 28] (fun _ v wr => ∃ j : Nat, v = .int .i64 j ∧ j ≤ k ∧ OR wr B (.slice (some ⟨g, 0, none⟩) n cap) (splL xs off (mixL (primL l) l j)) ∧ w.grownBy wr (some g) ∧ w.heap.size ≤ wr.heap.size) (fun _ v _ => k - (intOf v).toNat)
          case atStart => exact ⟨0, rfl, Nat.zero_le _, by rw [mixL_zero, HSW.out]; exact H.out.drewN _, only_drewN (World.grownBy.refl w _) _, Nat.le_refl _⟩
          case round =>
            obtain ⟨j, rfl, hj, hown, hgr, hsz⟩ := hrel
            by_cases hjk : j < k
            · have hml := mixL_len HPL.out (show j ≤ l.length by have := HWL.out; omega)
              have hc1 := hown.cell (off + j) (by rw [splL_len (by rw [hml]; have := HWL.out; omega)]; omega)
              rw [splL_getD (by rw [hml]; have := HWL.out; omega) (by rw [hml]; have := HWL.out; omega), mixL_at HPL.out (by have := HWL.out; omega)] at hc1
              have hf1 := hown.frozen (off + j)
              have hst := hown.set_ (off + j) ((l.getD j 0).tdiv ((gcdL l : Int)))
              rw [splL_set (by rw [hml]; have := HWL.out; omega) (by rw [hml]; have := HWL.out; omega), ← HPG2.out j hjk, mixL_set HPL.out (by have := HWL.out; omega), HPG2.out j hjk] at hst
              obtain ⟨y1, y2⟩ := HLB.out j
              have hq := (quo_bd (l.getD j 0) ((gcdL l : Int)) 0 (by omega) (by omega)).1
              clear hml
              have HST := Lib.hid hst
              clear hst
              generalize l.getD j 0 = y at *
              have hq1 : -400000000 ≤ y.tdiv ((gcdL l : Int)) ∧ y.tdiv ((gcdL l : Int)) ≤ 400000000 := by omega
              obtain ⟨hq2, hq3⟩ := hq1
              clear hq
              go_wp2
              go_roundw
              case rel => exact ⟨j + 1, by go_num, by omega, HST.out, only_set hgr _ _, by simpa [World.setCell] using hsz⟩
              case measure => simp only [intOf]; omega
            · have hfin := hown.as (congrArg (splL xs off) (mixL_all HPL.out (show l.length ≤ j by have := HWL.out; omega)))
              clear hown
              go_wp2
              go_end0
              exact ⟨rfl, hfin, hgr, hsz⟩
end Go.Proofs.Ytlggfmfelakadaa

/-
  DERIVED. Elimination over residues: no program in sight.
-/
namespace Go.Proofs.Ytlggfmfelakadaa
set_option linter.unusedVariables false
/-- Row t times x, over residues, in the first k columns. -/
def scK (f : Nat → Nat → Int) (t : Nat) (x p : Int) (k : Nat) : Nat → Nat → Int := fun i c => if i = t ∧ c < k then f t c * x % p else f i c
def scF (f : Nat → Nat → Int) (t : Nat) (x p : Int) : Nat → Nat → Int := fun i c => if i = t then f t c * x % p else f i c
theorem scK_zero (f : Nat → Nat → Int) (t : Nat) (x p : Int) : scK f t x p 0 = f := by funext i c; simp [scK]
theorem scK_at (f : Nat → Nat → Int) (t : Nat) (x p : Int) (k : Nat) : scK f t x p k t k = f t k := by simp [scK]
theorem scK_step (f : Nat → Nat → Int) (t : Nat) (x p : Int) (k : Nat) : upd (scK f t x p k) t k (f t k * x % p) = scK f t x p (k + 1) := by
  funext i c
  unfold upd scK
  grind
theorem scK_end {R C : Nat} (f : Nat → Nat → Int) (t : Nat) (x p : Int) : tb R C (scK f t x p C) = tb R C (scF f t x p) := tb_ext fun i j hi hj => by unfold scK scF; grind
/-- Row t taken from row i, so often as row i has it in column j, over residues. -/
def elAt (f : Nat → Nat → Int) (t j : Nat) (p : Int) (i c : Nat) : Int := (f i c - f i j * f t c) % p
/-- The first m rows done, and of row m the first k columns. -/
def elK (f : Nat → Nat → Int) (t j : Nat) (p : Int) (m k : Nat) : Nat → Nat → Int := fun i c => if i ≠ t ∧ (i < m ∨ i = m ∧ c < k) then elAt f t j p i c else f i c
def elF (f : Nat → Nat → Int) (t j : Nat) (p : Int) : Nat → Nat → Int := fun i c => if i ≠ t then elAt f t j p i c else f i c
theorem elK_zero (f : Nat → Nat → Int) (t j : Nat) (p : Int) : elK f t j p 0 0 = f := by funext i c; unfold elK; grind
theorem elK_at (f : Nat → Nat → Int) (t j : Nat) (p : Int) (m k c : Nat) (h : k ≤ c) : elK f t j p m k m c = f m c := by unfold elK; grind
theorem elK_t (f : Nat → Nat → Int) (t j : Nat) (p : Int) (m k c : Nat) : elK f t j p m k t c = f t c := by unfold elK; grind
theorem elK_step {f : Nat → Nat → Int} {t j m : Nat} (p : Int) (k : Nat) (h : m ≠ t) : upd (elK f t j p m k) m k (elAt f t j p m k) = elK f t j p m (k + 1) := by
  funext i c
  unfold upd elK
  grind
theorem elK_row {R C : Nat} (f : Nat → Nat → Int) (t j : Nat) (p : Int) (m : Nat) : tb R C (elK f t j p m C) = tb R C (elK f t j p (m + 1) 0) := tb_ext fun i c hi hc => by unfold elK; grind
theorem elK_skip {R C : Nat} (f : Nat → Nat → Int) (t j : Nat) (p : Int) : tb R C (elK f t j p t 0) = tb R C (elK f t j p (t + 1) 0) := tb_ext fun i c hi hc => by unfold elK; grind
theorem elK_skip' {R C : Nat} (f : Nat → Nat → Int) {t m : Nat} (j : Nat) (p : Int) (h : m = t) : tb R C (elK f t j p m 0) = tb R C (elK f t j p (m + 1) 0) := by subst h; exact elK_skip f m j p
theorem elK_none {R C : Nat} {f : Nat → Nat → Int} {t j m : Nat} {p : Int} (h0 : f m j = 0) (hf : ∀ i c, 0 ≤ f i c ∧ f i c < p) : tb R C (elK f t j p m 0) = tb R C (elK f t j p (m + 1) 0) := tb_ext fun i c hi hc => by
  unfold elK
  by_cases him : i = m
  · subst him
    have e : elAt f t j p i c = f i c := by unfold elAt; rw [h0, Int.zero_mul, Int.sub_zero]; exact Int.emod_eq_of_lt (hf i c).1 (hf i c).2
    rw [e]; grind
  · grind
theorem elK_end {R C : Nat} (f : Nat → Nat → Int) (t j : Nat) (p : Int) : tb R C (elK f t j p R 0) = tb R C (elF f t j p) := tb_ext fun i c hi hc => by unfold elK elF; grind
structure ESt where
  f : Nat → Nat → Int
  t : Nat
  d : Int
/-- One column. -/
def colE (R : Nat) (p : Int) (s : ESt) (j : Nat) : ESt :=
  let k := fnd s.f j (R - s.t) s.t
  if R ≤ k then s else
    let f1 := swF s.f k s.t
    let d1 := if k = s.t then s.d else (-s.d) % p
    ⟨elF (scF f1 s.t (invOf (f1 s.t j) p) p) s.t j p, s.t + 1, d1 * f1 s.t j % p⟩
/-- n columns from j on. -/
def colsE (R : Nat) (p : Int) : Nat → Nat → ESt → ESt
  | 0, _, s => s
  | n + 1, j, s => colsE R p n (j + 1) (colE R p s j)
def runE (R cols : Nat) (p : Int) (f : Nat → Nat → Int) : ESt := colsE R p cols 0 ⟨f, 0, 1⟩
theorem colE_full {R : Nat} {p : Int} {s : ESt} (h : R ≤ s.t) (j : Nat) : colE R p s j = s := by
  unfold colE
  have := fnd_le s.f j (R - s.t) s.t
  simp only
  rw [if_pos (by omega)]
theorem colsE_full {R : Nat} {p : Int} {s : ESt} (h : R ≤ s.t) : ∀ n j, colsE R p n j s = s
  | 0, _ => rfl
  | n + 1, j => by unfold colsE; rw [colE_full h]; exact colsE_full h n (j + 1)
theorem colsE_next {R cols j : Nat} {p : Int} {s : ESt} (hj : j < cols) : colsE R p (cols - j) j s = colsE R p (cols - (j + 1)) (j + 1) (colE R p s j) := by
  rw [show cols - j = (cols - (j + 1)) + 1 by omega]
  rfl
theorem colsE_end (R cols : Nat) (p : Int) (s : ESt) : colsE R p (cols - cols) cols s = s := by rw [Nat.sub_self]; rfl
theorem colE_yes {R k t j : Nat} {p d : Int} {f : Nat → Nat → Int} (hP : fnd f j (R - t) t = k) (hk : k < R) :
    colE R p ⟨f, t, d⟩ j = ⟨elF (scF (swF f k t) t (invOf (swF f k t t j) p) p) t j p, t + 1, (if k = t then d else (-d) % p) * swF f k t t j % p⟩ := by
  unfold colE
  simp only [hP]
  rw [if_neg (by omega)]
theorem colE_no {R t j : Nat} {p d : Int} {f : Nat → Nat → Int} (hP : fnd f j (R - t) t = R) : colE R p ⟨f, t, d⟩ j = ⟨f, t, d⟩ := by
  unfold colE
  simp only [hP]
  rw [if_pos (Nat.le_refl _)]
/-- What holds of a state. -/
structure EOk (R : Nat) (p : Int) (s : ESt) : Prop where
  f0 : ∀ i c, 0 ≤ s.f i c ∧ s.f i c < p
  t0 : s.t ≤ R
  d0 : 0 ≤ s.d ∧ s.d < p
theorem colE_ok {R : Nat} {p : Int} {s : ESt} (hp : 2 ≤ p) (h : EOk R p s) (j : Nat) : EOk R p (colE R p s j) := by
  unfold colE
  have hk := fnd_le s.f j (R - s.t) s.t
  simp only
  split
  · exact h
  · rename_i h1
    have hf1 : ∀ i c, 0 ≤ swF s.f (fnd s.f j (R - s.t) s.t) s.t i c ∧ swF s.f (fnd s.f j (R - s.t) s.t) s.t i c < p := fun i c => h.f0 _ _
    refine ⟨fun i c => ?_, ?_, ?_⟩
    · show 0 ≤ elF _ _ _ _ i c ∧ elF _ _ _ _ i c < p
      unfold elF elAt scF
      split
      · exact emod_bds _ _ (by omega)
      · split
        · exact emod_bds _ _ (by omega)
        · exact hf1 _ _
    · show s.t + 1 ≤ R
      omega
    · exact emod_bds _ _ (by omega)
theorem colsE_ok {R : Nat} {p : Int} (hp : 2 ≤ p) : ∀ n j s, EOk R p s → EOk R p (colsE R p n j s)
  | 0, _, _, h => h
  | n + 1, j, s, h => colsE_ok hp n (j + 1) _ (colE_ok hp h j)
end Go.Proofs.Ytlggfmfelakadaa

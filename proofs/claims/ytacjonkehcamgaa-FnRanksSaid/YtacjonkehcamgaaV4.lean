/-
  DERIVED. Several small texts in one: PlEc, PrimS, PlEc2, PlSf, Work2, Sm1, PlUn, EchT, PlRn, PlHm, PlSm, Sm2, Least.
-/
import Derived.Test.YtacjonkehcamgaaV3
import Derived.Test.YtacjonkehcamgaaV2
import Derived.Test.YtacjonkehcamgaaV1
/-
  DERIVED. The echelon form with primitive rows: its shape, what its rows span, that two of one space are equal. No program in sight.
-/
namespace Go.Proofs.Ytacjonkehcamgaa
set_option linter.unusedVariables false
/-- Some multiple of v is a sum of rows. -/
def QS (R C : Nat) (f : Fn2) (v : Nat → Int) : Prop := ∃ (d : Int) (c : Nat → Int), d ≠ 0 ∧ ∀ y, y < C → d * v y = sumTo (fun k => c k * f k y) R
section
variable {R S C r s : Nat} {p q : Nat → Nat} {f g : Fn2} {u v z : Nat → Int}
theorem QS.row {i : Nat} (hi : i < R) : QS R C f (f i) := ⟨1, idF i, by decide, fun y hy => by
  rw [sumTo_one (i := i) R hi (fun k hk hne => by unfold idF; rw [if_neg (fun e => hne e.symm), Int.zero_mul])]
  unfold idF; rw [if_pos rfl]⟩
/-- a u + b v, divided by d. -/
theorem QS.lin (h : QS R C f u) (h2 : QS R C f v) {a b d : Int} (hd : d ≠ 0) (e : ∀ y, y < C → d * z y = a * u y + b * v y) : QS R C f z := by
  obtain ⟨d1, c1, h1, hc1⟩ := h
  obtain ⟨d2, c2, h2, hc2⟩ := h2
  refine ⟨d1 * d2 * d, fun k => a * d2 * c1 k + b * d1 * c2 k, Int.mul_ne_zero (Int.mul_ne_zero h1 h2) hd, fun y hy => ?_⟩
  have e1 : sumTo (fun k => (a * d2 * c1 k + b * d1 * c2 k) * f k y) R = a * d2 * sumTo (fun k => c1 k * f k y) R + b * d1 * sumTo (fun k => c2 k * f k y) R := by
    rw [← sumTo_mul', ← sumTo_mul', ← sumTo_add]
    exact sumTo_congr R fun k _ => by grind
  rw [e1, ← hc1 y hy, ← hc2 y hy, show d1 * d2 * d * z y = d1 * d2 * (d * z y) by grind, e y hy]
  grind
theorem QS.zero (h : ∀ y, y < C → v y = 0) : QS R C f v := ⟨1, fun _ => 0, by decide, fun y hy => by
  rw [h y hy, sumTo_null R fun k _ => Int.zero_mul _]; rfl⟩
theorem QS.as {d : Int} (h : QS R C f u) (hd : d ≠ 0) (e : ∀ y, y < C → d * z y = u y) : QS R C f z :=
  h.lin h (a := 1) (b := 0) hd fun y hy => by rw [e y hy]; omega
theorem QS.sum {c : Nat → Int} {g : Fn2} : ∀ n, (∀ k, k < n → QS R C f (g k)) → QS R C f (fun y => sumTo (fun k => c k * g k y) n)
  | 0, _ => QS.zero fun _ _ => rfl
  | n + 1, h => (QS.sum (c := c) n fun k hk => h k (by omega)).lin (h n (by omega)) (a := 1) (b := c n) (d := 1) (by decide) fun y _ => by rw [sumTo_succ]; omega
theorem QS.trans (h : QS S C g v) (k : ∀ i, i < S → QS R C f (g i)) : QS R C f v := by
  obtain ⟨d, c, hd, hc⟩ := h
  exact (QS.sum (c := c) S k).as hd hc
/-- The rows of f and of g span one space. -/
def QSP (R S C : Nat) (f g : Fn2) : Prop := (∀ i, i < R → QS S C g (f i)) ∧ ∀ i, i < S → QS R C f (g i)
theorem QSP.refl (R C : Nat) (f : Fn2) : QSP R R C f f := ⟨fun i hi => QS.row hi, fun i hi => QS.row hi⟩
theorem QSP.symm (h : QSP R S C f g) : QSP S R C g f := ⟨h.2, h.1⟩
theorem QSP.trans {T : Nat} {h : Fn2} (a : QSP R S C f g) (b : QSP S T C g h) : QSP R T C f h := ⟨fun i hi => (a.1 i hi).trans b.1, fun i hi => (b.2 i hi).trans a.2⟩
theorem QSP.swap {i j : Nat} (hi : i < R) (hj : j < R) : QSP R R C f (swF f i j) := by
  have hx : ∀ x, x < R → (if x = i then j else if x = j then i else x) < R := fun x hx => by split; exact hj; split; exact hi; exact hx
  refine ⟨fun x hx' => ?_, fun x hx' => QS.row (f := f) (hx x hx')⟩
  have e : f x = swF f i j (if x = i then j else if x = j then i else x) := by
    funext y
    unfold swF
    grind
  rw [e]
  exact QS.row (hx x hx')
/-- Row i was turned into a multiple of itself and of row t, divided. -/
structure CMB (C : Nat) (f f' : Fn2) (i t : Nat) (d a b : Int) : Prop where
  d0 : d ≠ 0
  a0 : a ≠ 0
  at_ : ∀ c, c < C → d * f' i c = a * f i c + b * f t c
  other : ∀ x, x ≠ i → f' x = f x
theorem CMB.span {f' : Fn2} {i t : Nat} {d a b : Int} (h : CMB C f f' i t d a b) (hi : i < R) (ht : t < R) (hit : i ≠ t) : QSP R R C f f' := by
  have hT : QS R C f' (f t) := by rw [← h.other t (fun e => hit e.symm)]; exact QS.row ht
  refine ⟨fun x hx => ?_, fun x hx => ?_⟩
  · by_cases e : x = i
    · subst e
      exact (QS.row (f := f') hx).lin hT (a := d) (b := -b) h.a0 fun y hy => by rw [h.at_ y hy]; grind
    · rw [← h.other x e]; exact QS.row hx
  · by_cases e : x = i
    · subst e
      exact (QS.row (f := f) hx).lin (QS.row ht) h.d0 fun y hy => h.at_ y hy
    · rw [h.other x e]; exact QS.row hx
/-- Echelon form with the pivots p 0 .. p (r - 1), as far as C columns. -/
structure EF (R C r : Nat) (p : Nat → Nat) (f : Fn2) : Prop where
  le : r ≤ R
  lt : ∀ i, i < r → p i < C
  mono : ∀ i k, i < k → k < r → p i < p k
  left : ∀ i y, i < r → y < p i → f i y = 0
  ne : ∀ i, i < r → f i (p i) ≠ 0
  oth : ∀ i k, i < r → k < R → k ≠ i → f k (p i) = 0
  zero : ∀ i y, r ≤ i → i < R → y < C → f i y = 0
theorem EF.congr (H : EF R C r p f) (e : EqM R C g f) : EF R C r p g where
  le := H.le
  lt := H.lt
  mono := H.mono
  left := fun i y hi hy => by rw [e i y (Nat.lt_of_lt_of_le hi H.le) (Nat.lt_trans hy (H.lt i hi))]; exact H.left i y hi hy
  ne := fun i hi => by rw [e i (p i) (Nat.lt_of_lt_of_le hi H.le) (H.lt i hi)]; exact H.ne i hi
  oth := fun i k hi hk hne => by rw [e k (p i) hk (H.lt i hi)]; exact H.oth i k hi hk hne
  zero := fun i y h1 h2 h3 => by rw [e i y h2 h3]; exact H.zero i y h1 h2 h3
theorem EF.piv (H : EF R C r p f) (e : ∀ i, i < r → q i = p i) : EF R C r q f where
  le := H.le
  lt := fun i hi => by rw [e i hi]; exact H.lt i hi
  mono := fun i k hik hk => by rw [e i (by omega), e k hk]; exact H.mono i k hik hk
  left := fun i y hi hy => H.left i y hi (by rw [← e i hi]; exact hy)
  ne := fun i hi => by rw [e i hi]; exact H.ne i hi
  oth := fun i k hi hk hne => by rw [e i hi]; exact H.oth i k hi hk hne
  zero := H.zero
/-- The value at a pivot of a sum of rows. -/
theorem EF.at_ (H : EF R C r p f) {c : Nat → Int} {i : Nat} (hi : i < r) : sumTo (fun k => c k * f k (p i)) R = c i * f i (p i) :=
  sumTo_one R (Nat.lt_of_lt_of_le hi H.le) fun k hk hne => by rw [H.oth i k hi hk hne, Int.mul_zero]
/-- Where a vector of the space is 0 at a pivot, the coefficient is 0. -/
theorem EF.coef (H : EF R C r p f) {c : Nat → Int} {d : Int} (hv : ∀ y, y < C → d * v y = sumTo (fun k => c k * f k y) R) {i : Nat} (hi : i < r) (h0 : v (p i) = 0) : c i = 0 := by
  have := hv _ (H.lt i hi)
  rw [H.at_ hi, h0, Int.mul_zero] at this
  rcases Int.mul_eq_zero.1 this.symm with h | h
  · exact h
  · exact absurd h (H.ne i hi)
theorem EF.ind (H : EF R C r p f) : Ind r C f := fun z hz k hk => by
  have h1 := hz _ (H.lt k hk)
  rw [sumTo_one r hk (fun i hi hne => by rw [H.oth k i hk (Nat.lt_of_lt_of_le hi H.le) hne, Int.mul_zero])] at h1
  rcases Int.mul_eq_zero.1 h1 with h | h
  · exact h
  · exact absurd h (H.ne k hk)
theorem EF.next (H : EF R C r p f) (K : EF S C s q g) (hf : ∀ i, i < R → QS S C g (f i)) {i : Nat} (hi : i < r) (hs : i ≤ s) (hpq : ∀ k, k < i → p k = q k) : i < s ∧ q i ≤ p i := by
  have hiR := Nat.lt_of_lt_of_le hi H.le
  obtain ⟨d, c, hd, hc⟩ := hf i hiR
  have h0 : ∀ k, k < i → c k = 0 := fun k hk => K.coef hc (show k < s by omega) (by rw [← hpq k hk]; exact H.oth k i (by omega) hiR (by omega))
  have hz : ∀ y, y < C → (∀ k, k < S → i ≤ k → g k y = 0) → f i y = 0 := fun y hy h => by
    have e := hc y hy
    rw [sumTo_null S fun k hk => by
      rcases Nat.lt_or_ge k i with h1 | h1
      · rw [h0 k h1, Int.zero_mul]
      · rw [h k hk h1, Int.mul_zero]] at e
    rcases Int.mul_eq_zero.1 e with h1 | h1
    · exact absurd h1 hd
    · exact h1
  have his : i < s := by
    refine Nat.lt_of_not_le fun h => H.ne i hi (hz _ (H.lt i hi) fun k hk hik => K.zero k _ (by omega) hk (H.lt i hi))
  refine ⟨his, Nat.le_of_not_lt fun h => H.ne i hi (hz _ (H.lt i hi) fun k hk hik => ?_)⟩
  rcases Nat.lt_or_ge k s with h1 | h1
  · refine K.left k _ h1 ?_
    rcases Nat.lt_or_ge i k with h2 | h2
    · exact Nat.lt_trans h (K.mono i k h2 h1)
    · obtain rfl : k = i := by omega
      exact h
  · exact K.zero k _ h1 hk (H.lt i hi)
theorem EF.pivs (H : EF R C r p f) (K : EF S C s q g) (h : QSP R S C f g) : ∀ i, i ≤ r → i ≤ s ∧ ∀ k, k < i → p k = q k
  | 0, _ => ⟨Nat.zero_le _, fun k hk => absurd hk (Nat.not_lt_zero _)⟩
  | i + 1, hi => by
    obtain ⟨h1, h2⟩ := EF.pivs H K h i (by omega)
    obtain ⟨h3, h4⟩ := H.next K h.1 (show i < r by omega) h1 h2
    obtain ⟨-, h5⟩ := K.next H h.2 h3 (by omega) (fun k hk => (h2 k hk).symm)
    refine ⟨h3, fun k hk => ?_⟩
    rcases Nat.lt_or_ge k i with h6 | h6
    · exact h2 k h6
    · obtain rfl : k = i := by omega
      omega
/-- Two echelon forms of one space: as many rows, the same pivots, each row a multiple. -/
theorem EF.uniq (H : EF R C r p f) (K : EF S C s q g) (h : QSP R S C f g) : r = s ∧ (∀ k, k < r → p k = q k) ∧ ∀ i, i < r → ∃ d c : Int, d ≠ 0 ∧ c ≠ 0 ∧ ∀ y, y < C → d * f i y = c * g i y := by
  obtain ⟨h1, h2⟩ := H.pivs K h r (Nat.le_refl _)
  obtain ⟨h3, -⟩ := K.pivs H h.symm s (Nat.le_refl _)
  refine ⟨by omega, h2, fun i hi => ?_⟩
  have hiR := Nat.lt_of_lt_of_le hi H.le
  obtain ⟨d, c, hd, hc⟩ := h.1 i hiR
  have h0 : ∀ k, k < s → k ≠ i → c k = 0 := fun k hk hne => K.coef hc hk (by rw [← h2 k (by omega)]; exact H.oth k i (by omega) hiR (fun e => hne e.symm))
  have hv : ∀ y, y < C → d * f i y = c i * g i y := fun y hy => by
    rw [hc y hy]
    refine sumTo_one S (Nat.lt_of_lt_of_le (show i < s by omega) K.le) fun k hk hne => ?_
    rcases Nat.lt_or_ge k s with h4 | h4
    · rw [h0 k h4 hne, Int.zero_mul]
    · rw [K.zero k y h4 hk hy, Int.mul_zero]
  refine ⟨d, c i, hd, fun e => ?_, hv⟩
  have := hv _ (H.lt i hi)
  rw [e, Int.zero_mul] at this
  rcases Int.mul_eq_zero.1 this with h4 | h4
  · exact hd h4
  · exact H.ne i hi h4
end
/-- What divides all multiples divides the multiple of the divisor. -/
theorem gcdF_mul (c d : Int) (l : List Int) : ∀ a : Nat, d ∣ c * a → (∀ x ∈ l, d ∣ c * x) → d ∣ c * (l.foldl (fun (g : Nat) (x : Int) => Int.gcd g x) a : Nat) := by
  induction l with
  | nil => intro a h _; simpa using h
  | cons y l ih =>
    intro a h h2
    refine ih _ ?_ (fun x hx => h2 x (List.mem_cons_of_mem _ hx))
    have h3 : d ∣ (Int.gcd (c * a) (c * y) : Nat) := by
      have := Int.dvd_coe_gcd h (h2 y (List.mem_cons_self ..))
      exact this
    rw [Int.gcd_mul_left] at h3
    have h4 : ((c.natAbs * Int.gcd a y : Nat) : Int) ∣ c * (Int.gcd a y : Nat) := by
      rw [Int.natCast_mul]
      exact Int.mul_dvd_mul (Int.natAbs_dvd.2 (Int.dvd_refl c)) (Int.dvd_refl _)
    exact Int.dvd_trans h3 h4
theorem gcdL_mul {c d : Int} {l : List Int} (h : ∀ x ∈ l, d ∣ c * x) : d ∣ c * (gcdL l : Nat) := gcdF_mul c d l 0 (by simp) h
/-- Two primitive rows that are multiples of each other are equal. -/
theorem prim_uniq {l m : List Int} {d c : Int} (hl : primL l = l) (hm : primL m = m) (hlen : l.length = m.length) (hd : d ≠ 0) (hc : c ≠ 0) (e : ∀ k, k < l.length → d * l.getD k 0 = c * m.getD k 0) : l = m := by
  have hext : (∀ k, k < l.length → l.getD k 0 = m.getD k 0) → l = m := fun h => by
    refine List.ext_getElem hlen fun k h1 h2 => ?_
    have := h k h1
    simpa [List.getD, h1, h2] using this
  have hz : ∀ k, k < l.length → (l.getD k 0 = 0 ↔ m.getD k 0 = 0) := fun k hk => by
    have := e k hk
    constructor
    · intro h; rw [h, Int.mul_zero] at this
      rcases Int.mul_eq_zero.1 this.symm with h1 | h1
      · exact absurd h1 hc
      · exact h1
    · intro h; rw [h, Int.mul_zero] at this
      rcases Int.mul_eq_zero.1 this with h1 | h1
      · exact absurd h1 hd
      · exact h1
  rcases (primL_eq_iff l).1 hl with h0 | ⟨h1, h2⟩
  · refine hext fun k hk => ?_
    have h3 := gcdL_zero.1 h0 _ (mem_getD hk)
    rw [h3]; exact ((hz k hk).1 h3).symm
  · have hlt : fcN l < l.length := fcN_lt_iff.2 (by omega)
    have hfc : fcN m = fcN l := fcN_eq (by omega) (fun j hj => (hz j (by omega)).1 (fcN_zero l j hj)) (fun _ h => fcN_ne l hlt ((hz _ hlt).2 h))
    have hml : gcdL m ≠ 0 := fcN_lt_iff.1 (by omega)
    obtain ⟨m1, m2⟩ := ((primL_eq_iff m).1 hm).resolve_left hml
    have k1 : c ∣ d * (gcdL l : Nat) := gcdL_mul fun x hx => by
      obtain ⟨k, hk, rfl⟩ := List.mem_iff_getElem.1 hx
      have := e k hk
      rw [show l.getD k 0 = l[k] by simp [List.getD, hk]] at this
      rw [this]; exact Int.dvd_mul_right _ _
    have k2 : d ∣ c * (gcdL m : Nat) := gcdL_mul fun x hx => by
      obtain ⟨k, hk, rfl⟩ := List.mem_iff_getElem.1 hx
      have := e k (by omega)
      rw [show m.getD k 0 = m[k] by simp [List.getD, hk]] at this
      rw [← this]; exact Int.dvd_mul_right _ _
    rw [h1] at k1
    rw [m1] at k2
    have k3 : c ∣ d := by simpa using k1
    have k4 : d ∣ c := by simpa using k2
    have k5 : d.natAbs = c.natAbs := Nat.dvd_antisymm (Int.natAbs_dvd_natAbs.2 k4) (Int.natAbs_dvd_natAbs.2 k3)
    have k6 := e _ hlt
    have k7 := fcN_ne l hlt
    rw [hfc] at m2
    rcases (show d = c ∨ d = -c by omega) with k8 | k8
    · subst k8
      exact hext fun k hk => Int.eq_of_mul_eq_mul_left hd (e k hk)
    · exfalso
      subst k8
      have k9 : c * (m.getD (fcN l) 0 + l.getD (fcN l) 0) = 0 := by rw [Int.mul_add]; rw [Int.neg_mul] at k6; omega
      rcases Int.mul_eq_zero.1 k9 with k10 | k10
      · exact hc k10
      · omega
end Go.Proofs.Ytacjonkehcamgaa

/-
  DERIVED. l7Primitive of the reference.
-/
namespace Go.Proofs.Ytacjonkehcamgaa
open Go.RowKit
set_option linter.unusedVariables false
set_option linter.unusedSimpArgs false
/-- The sign of the first number that is not 0. -/
def sgL (l : List Int) : Int := l.foldl (fun s x => if s = 0 then x.sign else s) 0
theorem sgL_take {l : List Int} {k : Nat} (h : k < l.length) : sgL (l.take (k + 1)) = if sgL (l.take k) = 0 then (l.getD k 0).sign else sgL (l.take k) := by
  have e : l[k]? = some (l.getD k 0) := by simp [List.getD, h]
  rw [List.take_add_one, e]
  simp [sgL, List.foldl_append]
theorem sgF_keep (s : Int) (hs : s ≠ 0) : ∀ l : List Int, l.foldl (fun s x => if s = 0 then x.sign else s) s = s
  | [] => rfl
  | x :: l => by
    show l.foldl _ (if s = 0 then x.sign else s) = s
    rw [if_neg hs]
    exact sgF_keep s hs l
theorem sgL_eq : ∀ l : List Int, sgL l = (l.getD (fcN l) 0).sign
  | [] => rfl
  | x :: l => by
    unfold sgL fcN
    show l.foldl _ (if (0 : Int) = 0 then x.sign else 0) = _
    rw [if_pos rfl]
    by_cases h : x = 0
    · rw [if_pos h, h]
      show l.foldl _ (Int.sign 0) = _
      rw [Int.sign_zero]
      have := sgL_eq l
      unfold sgL at this
      rw [this]
      simp
    · rw [if_neg h, sgF_keep _ (by rw [Ne, Int.sign_eq_zero_iff_zero]; exact h)]
      simp
theorem sgL_bd (l : List Int) : -1 ≤ sgL l ∧ sgL l ≤ 1 := by
  rw [sgL_eq]
  rcases Int.lt_trichotomy (l.getD (fcN l) 0) 0 with h | h | h
  · rw [Int.sign_eq_neg_one_of_neg h]; omega
  · rw [h]; simp
  · rw [Int.sign_eq_one_of_pos h]; omega
theorem sg_prim {l : List Int} {k : Nat} (hk : k < l.length) (h0 : gcdL l ≠ 0) : (sgL l * l.getD k 0).tdiv (gcdL l : Nat) = (primL l).getD k 0 := by
  rw [primL_getD hk h0, sgL_eq]
  have hlt := fcN_lt_iff.2 h0
  have hne := fcN_ne l hlt
  unfold divL
  by_cases h : l.getD (fcN l) 0 < 0
  · rw [if_pos h, Int.sign_eq_neg_one_of_neg h, Int.tdiv_neg]
    rw [show (-1 : Int) * l.getD k 0 = -(l.getD k 0) by omega, Int.neg_tdiv]
  · rw [if_neg h, Int.sign_eq_one_of_pos (by omega), Int.one_mul]
theorem quo_abs {x : Int} (h : x ≠ 0) : x.tdiv (x.natAbs : Nat) = x.sign := by
  rcases Int.lt_or_gt_of_ne h with h1 | h1
  · rw [Int.sign_eq_neg_one_of_neg h1]
    have e : ((x.natAbs : Nat) : Int) = -x := by omega
    rw [e, Int.tdiv_neg, Int.tdiv_self h]
  · rw [Int.sign_eq_one_of_pos h1]
    have e : ((x.natAbs : Nat) : Int) = x := by omega
    rw [e, Int.tdiv_self h]
def pmK (C : Nat) (f : Nat → Nat → Int) (i k : Nat) : Nat → Nat → Int := fun a c => if a = i ∧ c < k then (primL (rw_ C f i)).getD c 0 else f a c
theorem pmK_zero (C : Nat) (f : Nat → Nat → Int) (i : Nat) : pmK C f i 0 = f := by funext a c; simp [pmK]
theorem pmK_at (C : Nat) (f : Nat → Nat → Int) (i k c : Nat) (h : k ≤ c) : pmK C f i k i c = f i c := by unfold pmK; rw [if_neg (by omega)]
theorem pmK_step (C : Nat) (f : Nat → Nat → Int) (i k : Nat) : upd (pmK C f i k) i k ((primL (rw_ C f i)).getD k 0) = pmK C f i (k + 1) := by
  funext a c
  unfold upd pmK
  grind
theorem pmK_end {R C : Nat} (f : Nat → Nat → Int) (i : Nat) : tb R C (pmK C f i C) = tb R C (prF C f i) := tb_ext fun a c ha hc => by unfold pmK prF setR; grind
theorem prF_zero {R C : Nat} {f : Nat → Nat → Int} {i : Nat} (h : gcdL (rw_ C f i) = 0) : tb R C (prF C f i) = tb R C f := prF_same ((primL_eq_iff _).2 (.inl h))
set_option maxRecDepth 100000 in
set_option maxHeartbeats 8000000 in
theorem spec_l7Primitive (R C i : Nat) (A : Option Addr) (n cap : Nat) (f : Nat → Nat → Int) (w : World) {B : Nat} (h : OR w B (.slice A n cap) (tb R C f)) (hi : i < R) (hR : R ≤ 24) (hC : C ≤ 48) (hb : ∀ c, c < C → -400000000 ≤ f i c ∧ f i c ≤ 400000000) :
    Calls Try.prog 223 #[.agg #[.int .i64 R, .int .i64 C, .slice A n cap], .int .i64 i] w (WW (.tuple #[]) (.slice A n cap) B (tb R C (prF C f i)) w) := by
  have hn := h.lenEq
  rw [tb_len] at hn
  have hcaps := h.caps
  have HN := Lib.hid hn
  have HB := Lib.hid hb
  have HGB : Hid (∀ k, gcdL ((rw_ C f i).take k) ≤ 400000000) := Lib.hid (fun k => by
    refine gcdF_le' _ 400000000 (fun x hx => ?_) 0 (by omega)
    have h1 := List.mem_of_mem_take hx
    obtain ⟨j, hj, rfl⟩ := List.mem_iff_getElem.1 h1
    have h3 : (rw_ C f i).getD j 0 = (rw_ C f i)[j] := by simp [List.getD, hj]
    have h2 := rw_bd hb j
    rw [h3] at h2
    exact h2)
  have HG : Hid (0 < R * C → ∃ g, A = some ⟨g, 0, none⟩ ∧ B ≤ g ∧ g < w.heap.size) := Lib.hid (fun h0 => h.begins (by rw [tb_len]; exact h0))
  have HI : Hid (i * C ≤ 2000) := Lib.hid (by have := Nat.mul_le_mul (show i ≤ 24 by omega) hC; omega)
  clear hn hb
  go_enter Try.func223, Try.ntmps223
  go_wp2_with fail
  go_loopw [4, 5, 6, 7] (fun vg vs vj _ wr => ∃ j : Nat, vj = .int .i64 j ∧ vg = .int .i64 (gcdL ((rw_ C f i).take j) : Nat) ∧ vs = .int .i64 (sgL ((rw_ C f i).take j)) ∧ j ≤ C ∧ BM wr w.heap.size R C A n cap ∧ OR wr B (.slice A n cap) (tb R C f) ∧ w.grownBy wr (Value.slice A n cap).ownBlock) (fun _ _ v _ _ => C - (intOf v).toNat)
  case atStart => exact ⟨0, rfl, by simp [gcdL], by simp [sgL], Nat.zero_le _, Ka, h.alloc _, by (with_reducible (repeat (first | assumption | exact World.grownBy.refl _ _ | refine only_alloc ?_ _ | refine only_drewN ?_ _ | refine only_drew ?_ | refine only_set ?_ _ _ | refine grown_far ?_ Ks _ | refine only_trans ?_ (only_of_below (by assumption) _) | refine only_trans ?_ (by assumption))))⟩
  case round =>
    clear h
    obtain ⟨j, rfl, rfl, rfl, hj, hO, hown, hgr⟩ := hrel
    obtain ⟨oa, ob, oc, of, ol⟩ := hO.mx
    have hgb := HGB.out j
    have hsb := sgL_bd ((rw_ C f i).take j)
    by_cases hjC : j < C
    · obtain ⟨g, rfl, hg1, hg2⟩ := HG.out (Nat.mul_pos (by omega) (by omega))
      have hid := idx_nat hi hjC
      have hid2 : i * C + j < n := by rw [HN.out]; exact hid
      have hid3 := HI.out
      have c1 := hown.cell (i * C + j) (by rw [tb_len]; exact hid)
      rw [tb_at hi hjC] at c1
      obtain ⟨y1, y2⟩ := HB.out j hjC
      have hst := gcdL_take (l := rw_ C f i) (k := j) (by rw [rw_len]; exact hjC)
      have hss := sgL_take (l := rw_ C f i) (k := j) (by rw [rw_len]; exact hjC)
      rw [rw_at hjC] at hst hss
      have HST := Lib.hid hst
      have HSS := Lib.hid hss
      clear hst hss hid
      generalize gcdL ((rw_ C f i).take j) = q at *
      generalize sgL ((rw_ C f i).take j) = s at *
      generalize f i j = y at *
      by_cases hs : s = 0
      · have hsb1 : (s == 0) = true := by simpa using hs
        by_cases hy : y = 0
        · have hyb : (y != 0) = false := by simpa using hy
          have HS2 : Hid (sgL ((rw_ C f i).take (j + 1)) = s) := Lib.hid (by rw [HSS.out, if_pos hs, hy, hs]; rfl)
          clear hs hy
          go_wp2_with (first | (go_at_call 175; refine (spec_GcdOf _ _ _ (by omega) (by omega)).mono ?_; rintro e w' ⟨rfl, nd, rfl⟩))
          go_roundw
          case rel => exact ⟨j + 1, by go_num, by rw [HST.out], by rw [HS2.out], by omega, Kb hO, Ko hown, by (with_reducible (repeat (first | assumption | exact World.grownBy.refl _ _ | refine only_alloc ?_ _ | refine only_drewN ?_ _ | refine only_drew ?_ | refine only_set ?_ _ _ | refine grown_far ?_ Ks _ | refine only_trans ?_ (only_of_below (by assumption) _) | refine only_trans ?_ (by assumption))))⟩
          case measure => simp only [intOf]; omega
        · have hyb : (y != 0) = true := by simpa using hy
          have HS2 : Hid (sgL ((rw_ C f i).take (j + 1)) = y.tdiv (y.natAbs : Nat)) := Lib.hid (by rw [HSS.out, if_pos hs, quo_abs hy])
          have hya : ¬ ((y.natAbs : Nat) : Int) = 0 := by omega
          clear hs
          go_wp2_with (first | (go_at_call 175; refine (spec_GcdOf _ _ _ (by omega) (by omega)).mono ?_; rintro e w' ⟨rfl, nd, rfl⟩) | (go_at_call 224; refine (spec_l1Abs _ _ (by omega) (by omega)).mono ?_; rintro e w' ⟨rfl, rfl⟩))
          go_roundw
          case rel => exact ⟨j + 1, by go_num, by rw [HST.out], by rw [HS2.out], by omega, Kb hO, Ko hown, by (with_reducible (repeat (first | assumption | exact World.grownBy.refl _ _ | refine only_alloc ?_ _ | refine only_drewN ?_ _ | refine only_drew ?_ | refine only_set ?_ _ _ | refine grown_far ?_ Ks _ | refine only_trans ?_ (only_of_below (by assumption) _) | refine only_trans ?_ (by assumption))))⟩
          case measure => simp only [intOf]; omega
      · have hsb1 : (s == 0) = false := by simpa using hs
        have HS2 : Hid (sgL ((rw_ C f i).take (j + 1)) = s) := Lib.hid (by rw [HSS.out, if_neg hs])
        clear hs
        go_wp2_with (first | (go_at_call 175; refine (spec_GcdOf _ _ _ (by omega) (by omega)).mono ?_; rintro e w' ⟨rfl, nd, rfl⟩))
        go_roundw
        case rel => exact ⟨j + 1, by go_num, by rw [HST.out], by rw [HS2.out], by omega, Kb hO, Ko hown, by (with_reducible (repeat (first | assumption | exact World.grownBy.refl _ _ | refine only_alloc ?_ _ | refine only_drewN ?_ _ | refine only_drew ?_ | refine only_set ?_ _ _ | refine grown_far ?_ Ks _ | refine only_trans ?_ (only_of_below (by assumption) _) | refine only_trans ?_ (by assumption))))⟩
        case measure => simp only [intOf]; omega
    · obtain rfl : C = j := by omega
      have htk : (rw_ C f i).take C = rw_ C f i := List.take_of_length_le (by rw [rw_len]; exact Nat.le_refl _)
      rw [htk] at hgb hsb ⊢
      clear htk
      by_cases hz : gcdL (rw_ C f i) = 0
      · have hfin := hown.as (prF_zero hz).symm
        have hzb : decide (0 < gcdL (rw_ C f i)) = false := by simp [hz]
        clear hz hown
        generalize gcdL (rw_ C f i) = G at *
        generalize sgL (rw_ C f i) = s at *
        go_wp2
        refine wp_loop_rounds 1 ?_
        rw [rounds_succ]
        go_wp2
        all_goals go_end0
        all_goals exact WW.mk rfl hfin hgr (Nat.le_of_lt ol)
      · have HPV : Hid (∀ k, k < C → (sgL (rw_ C f i) * f i k).tdiv (gcdL (rw_ C f i) : Nat) = (primL (rw_ C f i)).getD k 0) := Lib.hid (fun k hk => by
          have := sg_prim (l := rw_ C f i) (k := k) (by rw [rw_len]; exact hk) hz
          rw [rw_at hk] at this; exact this)
        have hzb : 0 < gcdL (rw_ C f i) := by omega
        clear hz
        generalize gcdL (rw_ C f i) = G at *
        generalize sgL (rw_ C f i) = s at *
        go_wp2
        obtain ⟨wo, rfl⟩ : ∃ wo : World, wo = wr := ⟨_, rfl⟩
        go_loopw [8] (fun v wr => ∃ j : Nat, v = .int .i64 j ∧ j ≤ C ∧ BM wr w.heap.size R C A n cap ∧ OR wr B (.slice A n cap) (tb R C (pmK C f i j)) ∧ w.grownBy wr (Value.slice A n cap).ownBlock) (fun v _ => C - (intOf v).toNat)
        case atStart => exact ⟨0, rfl, Nat.zero_le _, hO, by rw [pmK_zero]; exact hown, hgr⟩
        case round =>
          clear hO hown hgr oa ob oc of ol
          obtain ⟨j, rfl, hj, hO, hown, hgr⟩ := hrel
          obtain ⟨oa, ob, oc, of, ol⟩ := hO.mx
          by_cases hjC : j < C
          · obtain ⟨g, rfl, hg1, hg2⟩ := HG.out (Nat.mul_pos (by omega) (by omega))
            have hgb1 : ¬ g = w.heap.size := by omega
            have hgb2 : ¬ w.heap.size = g := by omega
            have hid := idx_nat hi hjC
            have hn2 : n ≤ R * C ∧ R * C ≤ n := by have := HN.out; omega
            have hid3 := HI.out
            have c1 := hown.cell (i * C + j) (by rw [tb_len]; exact hid)
            rw [tb_at hi hjC, pmK_at C f i j j (Nat.le_refl _)] at c1
            have f1 := hown.frozen (i * C + j)
            obtain ⟨y1, y2⟩ := HB.out j hjC
            have hpv := HPV.out j hjC
            generalize f i j = y at *
            have hsy : -400000000 ≤ s * y ∧ s * y ≤ 400000000 := by
              rcases (by omega : s = -1 ∨ s = 0 ∨ s = 1) with e | e | e <;> subst e <;> omega
            obtain ⟨hsy1, hsy2⟩ := hsy
            have hs4 := hown.set_ (i * C + j) ((s * y).tdiv (G : Nat))
            rw [tb_set hi hjC, hpv, pmK_step, ← hpv] at hs4
            have i1 : (i : Int) * (C : Int) = ((i * C : Nat) : Int) := by rw [Int.natCast_mul]
            have g1 : IntKind.i64.wrap ((i : Int) * (C : Int)) = (i : Int) * (C : Int) := IntWalk.i64_in _ (by omega)
            have g2 : IntKind.i64.wrap ((i : Int) * (C : Int) + (j : Int)) = (i : Int) * (C : Int) + (j : Int) := IntWalk.i64_in _ (by omega)
            have g3 : IntKind.i64.wrap (s * y) = s * y := IntWalk.i64_in _ (by omega)
            have g4 : 0 ≤ (i : Int) * (C : Int) + (j : Int) ∧ (i : Int) * (C : Int) + (j : Int) < (n : Int) := by omega
            have g5 : ((i : Int) * (C : Int) + (j : Int)).toNat = i * C + j := by omega
            have hG0 : ¬ ((G : Nat) : Int) = 0 := by omega
            have hG1 : ¬ G = 0 := by omega
            have hq := (quo_bd (s * y) (G : Int) 0 (by omega) (by omega)).1
            have g6 : IntKind.i64.wrap ((s * y).tdiv (G : Nat)) = (s * y).tdiv (G : Nat) := IntWalk.i64_in _ (by omega)
            rw [← g5] at c1 f1 hs4
            clear i1 g5 hq hpv hid
            go_wp2
            ((refine wp_region_held_drew (S := (fun w' => w'.cell? ⟨w.heap.size, 0, none⟩ = some (.int .i64 R) ∧ w'.cell? ⟨w.heap.size, 1, none⟩ = some (.int .i64 C) ∧ w'.cell? ⟨w.heap.size, 2, none⟩ = some (.slice (some ⟨g, 0, none⟩) n cap))) (by kernel_rfl) ?_ (fun hHeld => ?_)); ((focus ((try dsimp only); (go_keep)))); ((refine tk_ (i := 0) (v := ?_) (y := Or.inl ⟨by rfl, ?_⟩) (h := ?_); rotate_left; (focus (((intro w hSw; (try dsimp only at hSw); go_simp) <;> (try with_reducible rfl)); done)); (try simp only [Act.put, p1_, p2_, p3_]))); ((refine tk_ (i := 1) (v := ?_) (y := Or.inl ⟨by rfl, ?_⟩) (h := ?_); rotate_left; (focus (((intro w hSw; (try dsimp only at hSw); go_simp) <;> (try with_reducible rfl)); done)); (try simp only [Act.put, p1_, p2_, p3_]))); ((refine tk_ (i := 2) (v := ?_) (y := Or.inl ⟨by rfl, ?_⟩) (h := ?_); rotate_left; (focus (((intro w hSw; (try dsimp only at hSw); go_simp) <;> (try with_reducible rfl)); done)); (try simp only [Act.put, p1_, p2_, p3_]))); ((refine tk_ (i := 3) (v := ?_) (y := Or.inl ⟨by rfl, ?_⟩) (h := ?_); rotate_left; (focus (((intro w hSw; (try dsimp only at hSw); go_simp) <;> (try with_reducible rfl)); done)); (try simp only [Act.put, p1_, p2_, p3_]))); ((refine tk_ (i := 4) (v := ?_) (y := Or.inl ⟨by rfl, ?_⟩) (h := ?_); rotate_left; (focus (((intro w hSw; (try dsimp only at hSw); go_simp) <;> (try with_reducible rfl)); done)); (try simp only [Act.put, p1_, p2_, p3_]))); ((refine tk_ (i := 5) (v := ?_) (y := Or.inl ⟨by rfl, ?_⟩) (h := ?_); rotate_left; (focus (((intro w hSw; (try dsimp only at hSw); go_simp) <;> (try with_reducible rfl)); done)); (try simp only [Act.put, p1_, p2_, p3_]))); ((refine tk_ (i := 6) (v := ?_) (y := Or.inl ⟨by rfl, ?_⟩) (h := ?_); rotate_left; (focus (((intro w hSw; (try dsimp only at hSw); go_simp) <;> (try with_reducible rfl)); done)); (try simp only [Act.put, p1_, p2_, p3_]))); ((refine tk_ (i := 7) (v := ?_) (y := Or.inl ⟨by rfl, ?_⟩) (h := ?_); rotate_left; (focus (((intro w hSw; (try dsimp only at hSw); go_simp) <;> (try with_reducible rfl)); done)); (try simp only [Act.put, p1_, p2_, p3_]))); ((refine tk_ (i := 8) (v := ?_) (y := Or.inl ⟨by rfl, ?_⟩) (h := ?_); rotate_left; (focus (((intro w hSw; (try dsimp only at hSw); go_simp) <;> (try with_reducible rfl)); done)); (try simp only [Act.put, p1_, p2_, p3_]))); ((refine tk_ (i := 9) (v := ?_) (y := Or.inl ⟨by rfl, ?_⟩) (h := ?_); rotate_left; (focus (((intro w hSw; (try dsimp only at hSw); go_simp) <;> (try with_reducible rfl)); done)); (try simp only [Act.put, p1_, p2_, p3_]))); ((refine tk_ (i := 10) (v := ?_) (y := Or.inl ⟨by rfl, ?_⟩) (h := ?_); rotate_left; (focus (((intro w hSw; (try dsimp only at hSw); go_simp) <;> (try with_reducible rfl)); done)); (try simp only [Act.put, p1_, p2_, p3_]))); ((refine tk_ (i := 11) (v := ?_) (y := Or.inl ⟨by rfl, ?_⟩) (h := ?_); rotate_left; (focus (((intro w hSw; (try dsimp only at hSw); go_simp) <;> (try with_reducible rfl)); done)); (try simp only [Act.put, p1_, p2_, p3_]))); ((refine tk_ (i := 12) (v := ?_) (y := Or.inl ⟨by rfl, ?_⟩) (h := ?_); rotate_left; (focus (((intro w hSw; (try dsimp only at hSw); go_simp) <;> (try with_reducible rfl)); done)); (try simp only [Act.put, p1_, p2_, p3_]))); ((refine tk_ (i := 13) (v := ?_) (y := Or.inl ⟨by rfl, ?_⟩) (h := ?_); rotate_left; (focus (((intro w hSw; (try dsimp only at hSw); go_simp) <;> (try with_reducible rfl)); done)); (try simp only [Act.put, p1_, p2_, p3_]))); ((refine tk_ (i := 14) (v := ?_) (y := Or.inl ⟨by rfl, ?_⟩) (h := ?_); rotate_left; (focus (((intro w hSw; (try dsimp only at hSw); go_simp) <;> (try with_reducible rfl)); done)); (try simp only [Act.put, p1_, p2_, p3_]))); ((refine tk_ (i := 15) (v := ?_) (y := Or.inl ⟨by rfl, ?_⟩) (h := ?_); rotate_left; (focus (((intro w hSw; (try dsimp only at hSw); go_simp) <;> (try with_reducible rfl)); done)); (try simp only [Act.put, p1_, p2_, p3_]))); ((refine tk_ (i := 16) (v := ?_) (y := Or.inl ⟨by rfl, ?_⟩) (h := ?_); rotate_left; (focus (((intro w hSw; (try dsimp only at hSw); go_simp) <;> (try with_reducible rfl)); done)); (try simp only [Act.put, p1_, p2_, p3_]))); ((refine tk_ (i := 17) (v := ?_) (y := Or.inl ⟨by rfl, ?_⟩) (h := ?_); rotate_left; (focus (((intro w hSw; (try dsimp only at hSw); go_simp) <;> (try with_reducible rfl)); done)); (try simp only [Act.put, p1_, p2_, p3_]))); ((refine tk_ (i := 20) (v := ?_) (y := Or.inl ⟨by rfl, ?_⟩) (h := ?_); rotate_left; (focus (((intro w hSw; (try dsimp only at hSw); go_simp) <;> (try with_reducible rfl)); done)); (try simp only [Act.put, p1_, p2_, p3_]))); ((refine wpAnyH_ready (rs := [18]) (by kernel_rfl) (by simp) ?_; refine AllReadyH.cons (by simp only [e1_, e2_, e3_]; try rfl) (fun K hK => ?_) AllReadyH.nil; go_simp; (try go_wp2_with fail); refine hK.out _ _ ?_ (fun hHeld => ?_); (focus ((try dsimp only); (go_keep))); clear hK K; (try simp only [Act.put, p1_, p2_, p3_]))); ((refine tk_ (i := 19) (v := ?_) (y := Or.inl ⟨by rfl, ?_⟩) (h := ?_); rotate_left; (focus (((intro w hSw; (try dsimp only at hSw); go_simp) <;> (try with_reducible rfl)); done)); (try simp only [Act.put, p1_, p2_, p3_]))); ((refine tk_ (i := 21) (v := ?_) (y := Or.inl ⟨by rfl, ?_⟩) (h := ?_); rotate_left; (focus (((intro w hSw; (try dsimp only at hSw); go_simp) <;> (try with_reducible rfl)); done)); (try simp only [Act.put, p1_, p2_, p3_]))); ((refine tk_ (i := 22) (v := ?_) (y := Or.inl ⟨by rfl, ?_⟩) (h := ?_); rotate_left; (focus (((intro w hSw; (try dsimp only at hSw); go_simp) <;> (try with_reducible rfl)); done)); (try simp only [Act.put, p1_, p2_, p3_]))); ((refine wpAnyH_ready (rs := [23]) (by kernel_rfl) (by simp) ?_; refine AllReadyH.cons (by simp only [e1_, e2_, e3_]; try rfl) (fun K hK => ?_) AllReadyH.nil; go_simp; (try go_wp2_with fail); refine hK.out _ _ ?_ (fun hHeld => ?_); (focus ((try dsimp only); (go_keep))); clear hK K; (try simp only [Act.put, p1_, p2_, p3_]))); (refine wpAnyH_done (by kernel_rfl) ?_ _))
            clear g1 g2 g3 g6
            go_wp2
            go_roundw
            case rel => exact ⟨j + 1, by go_num, by omega, Kb hO, OR.drew hs4, by exact only_drew (only_set (g := g) hgr _ _)⟩
            case measure => simp only [intOf]; omega
          · obtain rfl : C = j := by omega
            have hfin := hown.as (pmK_end f i)
            clear hown
            go_wp2
            go_end0
            exact WW.mk rfl hfin hgr (Nat.le_of_lt ol)
end Go.Proofs.Ytacjonkehcamgaa

/-
  DERIVED. What EchelonOf computes is an echelon form of the same space; that of an echelon form is itself. No program in sight.
-/
namespace Go.Proofs.Ytacjonkehcamgaa
set_option linter.unusedVariables false
theorem primL_mul (l : List Int) : ∃ D : Int, D ≠ 0 ∧ ∀ k, k < l.length → D * (primL l).getD k 0 = l.getD k 0 := by
  unfold primL
  by_cases h0 : gcdL l = 0
  · rw [if_pos h0]; exact ⟨1, by decide, fun k _ => Int.one_mul _⟩
  · rw [if_neg h0]
    have hd := divL_abs l
    refine ⟨divL l, fun e => by rw [e] at hd; simp at hd; omega, fun k hk => ?_⟩
    have h1 : (l.map (·.tdiv (divL l))).getD k 0 = (l.getD k 0).tdiv (divL l) := by simp [List.getD, hk]
    rw [h1]
    exact Int.mul_tdiv_cancel' (divL_dvd (mem_getD hk))
section
variable {R C r t j : Nat} {p : Nat → Nat} {f g : Fn2}
theorem QSP.scale {f g : Fn2} (h : ∀ i, i < R → ∃ D : Int, D ≠ 0 ∧ ∀ y, y < C → D * g i y = f i y) : QSP R R C f g := by
  refine ⟨fun i hi => ?_, fun i hi => ?_⟩
  · obtain ⟨D, hD, e⟩ := h i hi
    exact (QS.row (f := g) hi).lin (QS.row hi) (a := D) (b := 0) (d := 1) (by decide) fun y hy => by rw [← e y hy]; omega
  · obtain ⟨D, hD, e⟩ := h i hi
    exact (QS.row (f := f) hi).as hD e
theorem prK_span : QSP R R C f (prK C f R) := QSP.scale fun i hi => by
  obtain ⟨D, hD, e⟩ := primL_mul (rw_ C f i)
  refine ⟨D, hD, fun y hy => ?_⟩
  have := e y (by rw [rw_len]; exact hy)
  rw [rw_at hy] at this
  rw [← this]
  unfold prK
  rw [if_pos hi]
theorem stQ_cmb {i : Nat} (hi0 : f i j ≠ 0) (ht0 : f t j ≠ 0) (hj : j < C) : (∃ d a b, CMB C f (stQ C f t j i) i t d a b) ∧ stQ C f t j i i j = 0 := by
  obtain ⟨D, hD, e⟩ := primL_mul (rw_ C (cbK f t j i C) i)
  have e' : ∀ c, c < C → D * stQ C f t j i i c = cbV f t j i c := fun c hc => by
    have := e c (by rw [rw_len]; exact hc)
    rw [rw_at hc] at this
    have e2 : cbK f t j i C i c = cbV f t j i c := by unfold cbK; rw [if_pos ⟨rfl, hc⟩]
    rw [e2] at this
    rw [← this]
    unfold stQ prF setR
    rw [if_pos rfl]
  obtain ⟨x, hx⟩ : ((Int.gcd (f i j) (f t j) : Nat) : Int) ∣ f i j := Int.gcd_dvd_left ..
  obtain ⟨y, hy⟩ : ((Int.gcd (f i j) (f t j) : Nat) : Int) ∣ f t j := Int.gcd_dvd_right ..
  have hg : ((Int.gcd (f i j) (f t j) : Nat) : Int) ≠ 0 := fun h => hi0 (by rw [hx, h, Int.zero_mul])
  have kx : (f i j).tdiv (Int.gcd (f i j) (f t j) : Nat) = x := by
    generalize hG : ((Int.gcd (f i j) (f t j) : Nat) : Int) = G at *
    rw [hx]; exact Int.mul_tdiv_cancel_left x hg
  have ky : (f t j).tdiv (Int.gcd (f i j) (f t j) : Nat) = y := by
    generalize hG : ((Int.gcd (f i j) (f t j) : Nat) : Int) = G at *
    rw [hy]; exact Int.mul_tdiv_cancel_left y hg
  have hv : ∀ c, cbV f t j i c = y * f i c - x * f t c := fun c => by unfold cbV; rw [kx, ky]
  refine ⟨⟨D, y, -x, hD, fun h => ht0 (by rw [hy, h, Int.mul_zero]), fun c hc => by rw [e' c hc, hv]; grind, fun a ha => ?_⟩, ?_⟩
  · funext c
    unfold stQ prF setR cbK
    rw [if_neg ha, if_neg (fun e => ha e.1)]
  · have h1 := e' j hj
    rw [hv] at h1
    generalize ((Int.gcd (f i j) (f t j) : Nat) : Int) = G at *
    have h2 : y * f i j - x * f t j = 0 := by rw [hx, hy]; grind
    rw [h2] at h1
    rcases Int.mul_eq_zero.1 h1 with h3 | h3
    · exact absurd h3 hD
    · exact h3
/-- A step of the elimination keeps what is there. -/
theorem EF.cmb {f' : Fn2} {i : Nat} {d a b : Int} (H : EF R j r p f) (K : CMB C f f' i t d a b) (hj : j ≤ C) (ht : t < R) (hrt : r ≤ t) (hi : i < R) : EF R j r p f' := by
  have hz : ∀ x y, y < j → (f' x y = 0 ↔ f x y = 0) := fun x y hy => by
    by_cases e : x = i
    · subst e
      have h1 := K.at_ y (by omega)
      rw [H.zero t y hrt ht hy, Int.mul_zero, Int.add_zero] at h1
      constructor
      · intro h
        rw [h, Int.mul_zero] at h1
        rcases Int.mul_eq_zero.1 h1.symm with h2 | h2
        · exact absurd h2 K.a0
        · exact h2
      · intro h
        rw [h, Int.mul_zero] at h1
        rcases Int.mul_eq_zero.1 h1 with h2 | h2
        · exact absurd h2 K.d0
        · exact h2
    · rw [K.other x e]
  exact ⟨H.le, H.lt, H.mono, fun x y hx hy => (hz x y (Nat.lt_trans hy (H.lt x hx))).2 (H.left x y hx hy), fun x hx h => H.ne x hx ((hz x _ (H.lt x hx)).1 h), fun x k hx hk hne => (hz k _ (H.lt x hx)).2 (H.oth x k hx hk hne), fun x y h1 h2 h3 => (hz x y h3).2 (H.zero x y h1 h2 h3)⟩
/-- What holds inside the sweep of a column. -/
structure SwQ (R C j t : Nat) (p : Nat → Nat) (f0 : Fn2) (i : Nat) (f : Fn2) : Prop where
  ef : EF R j t p f
  sp : QSP R R C f0 f
  ok : QOk R C f
  nz : f t j ≠ 0
  done : ∀ x, x < i → x < R → x ≠ t → f x j = 0
theorem SwQ.run {f0 : Fn2} (hj : j < C) (ht : t < R) : ∀ (n i : Nat) (f f' : Fn2), i + n = R → SwQ R C j t p f0 i f → rowsQ C t j n i f = some f' → SwQ R C j t p f0 R f'
  | 0, i, f, f', hi, H, h => by
    unfold rowsQ at h
    injection h with h
    subst h
    obtain rfl : i = R := by omega
    exact H
  | n + 1, i, f, f', hi, H, h => by
    unfold rowsQ at h
    split at h
    · rename_i hc
      refine SwQ.run hj ht n (i + 1) f f' (by omega) ⟨H.ef, H.sp, H.ok, H.nz, fun x hx hxR hxt => ?_⟩ h
      rcases Nat.lt_or_ge x i with h1 | h1
      · exact H.done x h1 hxR hxt
      · obtain rfl : x = i := by omega
        rcases hc with hc | hc
        · exact absurd hc hxt
        · exact hc
    · rename_i hc
      split at h
      · rename_i hk
        have hit : i ≠ t := fun e => hc (.inl e)
        have hi0 : f i j ≠ 0 := fun e => hc (.inr e)
        obtain ⟨⟨d, a, b, K⟩, hz⟩ := stQ_cmb (C := C) hi0 H.nz hj
        refine SwQ.run hj ht n (i + 1) _ f' (by omega) ⟨H.ef.cmb K (by omega) ht (Nat.le_refl _) (by omega), H.sp.trans (K.span (by omega) ht hit), H.ok.st (by omega) hk, ?_, fun x hx hxR hxt => ?_⟩ h
        · rw [K.other t (fun e => hit e.symm)]; exact H.nz
        · rcases Nat.lt_or_ge x i with h1 | h1
          · rw [K.other x (by omega)]; exact H.done x h1 hxR hxt
          · obtain rfl : x = i := by omega
            exact hz
      · cases h
theorem fnd_zero (f : Nat → Nat → Int) (j : Nat) : ∀ n k i, k ≤ i → i < fnd f j n k → f i j = 0
  | 0, k, i, h1, h2 => by unfold fnd at h2; omega
  | n + 1, k, i, h1, h2 => by
    unfold fnd at h2
    split at h2
    · rename_i h0
      by_cases e : i = k
      · rw [e]; exact h0
      · exact fnd_zero f j n (k + 1) i (by omega) h2
    · omega
theorem fnd_none (f : Nat → Nat → Int) (j : Nat) : ∀ n k, (∀ i, k ≤ i → i < k + n → f i j = 0) → fnd f j n k = k + n
  | 0, k, _ => rfl
  | n + 1, k, h => by
    unfold fnd
    rw [if_pos (h k (Nat.le_refl _) (by omega)), fnd_none f j n (k + 1) (fun i h1 h2 => h i (by omega) (by omega))]
    omega
/-- The pivots as a function. -/
def pf (ps : List Int) (i : Nat) : Nat := (ps.getD i 0).toNat
theorem pf_snoc {ps : List Int} {i : Nat} (h : i < ps.length) (j : Nat) : pf (ps ++ [(j : Int)]) i = pf ps i := by unfold pf; simp [List.getD, List.getElem?_append_left h]
theorem pf_last (ps : List Int) (j : Nat) : pf (ps ++ [(j : Int)]) ps.length = j := by unfold pf; simp [List.getD]
theorem EF.sw (H : EF R j t p f) {k : Nat} (hk : k < R) (htk : t ≤ k) (htR : t < R) : EF R j t p (swF f k t) := by
  have h1 : ∀ i, i < t → swF f k t i = f i := fun i hi => by
    funext y; unfold swF; rw [if_neg (by omega), if_neg (by omega)]
  have h2 : ∀ i, t ≤ i → i < R → ∃ i', t ≤ i' ∧ i' < R ∧ swF f k t i = f i' := fun i ha hb => by
    refine ⟨if i = k then t else if i = t then k else i, ?_, ?_, rfl⟩ <;> grind
  refine ⟨H.le, H.lt, H.mono, fun i y hi hy => by rw [h1 i hi]; exact H.left i y hi hy, fun i hi => by rw [h1 i hi]; exact H.ne i hi, fun i x hi hx hne => ?_, fun i y ha hb hy => ?_⟩
  · rcases Nat.lt_or_ge x t with h | h
    · rw [h1 x h]; exact H.oth i x hi hx hne
    · obtain ⟨x', ha, hb, e⟩ := h2 x h hx
      rw [e]; exact H.oth i x' hi hb (by omega)
  · obtain ⟨x', h3, h4, e⟩ := h2 i ha hb
    rw [e]; exact H.zero x' y h3 h4 hy
/-- A column done, with a pivot in it. -/
theorem EF.more (H : EF R j t p f) (ht : t < R) (hnz : f t j ≠ 0) (hz : ∀ x, x < R → x ≠ t → f x j = 0) {q : Nat → Nat} (hq : ∀ i, i < t → q i = p i) (hqt : q t = j) : EF R (j + 1) (t + 1) q f := by
  have hc : ∀ i, i < t + 1 → i < t ∨ i = t := fun i h => by omega
  refine ⟨by omega, fun i hi => ?_, fun i k hik hk => ?_, fun i y hi hy => ?_, fun i hi => ?_, fun i k hi hk hne => ?_, fun i y h1 h2 h3 => ?_⟩
  · rcases hc i hi with h | rfl
    · rw [hq i h]; have := H.lt i h; omega
    · omega
  · rcases hc k hk with h | rfl
    · rw [hq i (by omega), hq k h]; exact H.mono i k hik h
    · rw [hqt, hq i hik]; exact H.lt i hik
  · rcases hc i hi with h | rfl
    · rw [hq i h] at hy; exact H.left i y h hy
    · rw [hqt] at hy; exact H.zero i y (Nat.le_refl _) ht hy
  · rcases hc i hi with h | rfl
    · rw [hq i h]; exact H.ne i h
    · rw [hqt]; exact hnz
  · rcases hc i hi with h | rfl
    · rw [hq i h]; exact H.oth i k h hk hne
    · rw [hqt]; exact hz k hk hne
  · by_cases e : y = j
    · subst e; exact hz i h2 (by omega)
    · exact H.zero i y (by omega) h2 (by omega)
theorem EF.skip (H : EF R j t p f) (hz : ∀ x, t ≤ x → x < R → f x j = 0) : EF R (j + 1) t p f :=
  ⟨H.le, fun i hi => by have := H.lt i hi; omega, H.mono, H.left, H.ne, H.oth, fun i y h1 h2 h3 => by
    by_cases e : y = j
    · subst e; exact hz i h1 h2
    · exact H.zero i y h1 h2 (by omega)⟩
theorem colsQ_ef : ∀ (n j : Nat) (s s' : QSt), j + n = C → EF R j s.ps.length (pf s.ps) s.f → QOk R C s.f → (∀ x ∈ s.ps, 0 ≤ x) → colsQ R C n j s = some s' → EF R C s'.ps.length (pf s'.ps) s'.f ∧ QOk R C s'.f ∧ QSP R R C s.f s'.f ∧ ∀ x ∈ s'.ps, 0 ≤ x
  | 0, j, s, s', hj, H, K, N, h => by
    unfold colsQ at h
    injection h with h
    subst h
    obtain rfl : j = C := by omega
    exact ⟨H, K, QSP.refl _ _ _, N⟩
  | n + 1, j, s, s', hj, H, K, N, h => by
    unfold colsQ at h
    have hle := fnd_le s.f j (R - s.ps.length) s.ps.length
    have hH := H.le
    split at h
    · rename_i hk
      exact colsQ_ef n (j + 1) s s' (by omega) (H.skip fun x h1 h2 => fnd_zero s.f j (R - s.ps.length) s.ps.length x h1 (by omega)) K N h
    · rename_i hk
      generalize hF : fnd s.f j (R - s.ps.length) s.ps.length = k at *
      have hne : s.f k j ≠ 0 := by rw [← hF]; exact fnd_ne s.f j _ _ (by rw [hF]; omega)
      have htR : s.ps.length < R := by omega
      split at h
      · cases h
      · rename_i f' hr
        have W : SwQ R C j s.ps.length (pf s.ps) (swF s.f k s.ps.length) 0 (swF s.f k s.ps.length) := ⟨H.sw (by omega) hle.1 htR, QSP.refl _ _ _, K.sw (by omega) htR, by rw [swF_t]; exact hne, fun x hx => absurd hx (Nat.not_lt_zero _)⟩
        have W' := SwQ.run (by omega) htR (R - 0) 0 _ f' (by omega) W hr
        obtain ⟨a1, a2, a3, a4⟩ := colsQ_ef n (j + 1) ⟨f', s.ps ++ [(j : Int)]⟩ s' (by omega) (by
          simp only [List.length_append, List.length_cons, List.length_nil]
          exact W'.ef.more htR W'.nz (fun x hx hxt => W'.done x hx hx hxt) (fun i hi => pf_snoc hi j) (pf_last _ j)) W'.ok (by
          intro x hx
          rcases List.mem_append.1 hx with hx | hx
          · exact N x hx
          · simp at hx; omega) h
        exact ⟨a1, a2, ((QSP.swap (by omega) htR).trans W'.sp).trans a3, a4⟩
/-- What EchelonOf computes. -/
theorem echQ_ef {s : QSt} (hb : ∀ i c, i < R → c < C → -400000000 ≤ f i c ∧ f i c ≤ 400000000) (h : echQ R C f = some s) : EF R C s.ps.length (pf s.ps) s.f ∧ QOk R C s.f ∧ QSP R R C f s.f ∧ ∀ x ∈ s.ps, 0 ≤ x := by
  obtain ⟨a1, a2, a3, a4⟩ := colsQ_ef (C - 0) 0 ⟨prK C f R, []⟩ s (by omega) ⟨Nat.zero_le _, fun i hi => absurd hi (Nat.not_lt_zero _), fun i k _ hk => absurd hk (Nat.not_lt_zero _), fun i y hi => absurd hi (Nat.not_lt_zero _), fun i hi => absurd hi (Nat.not_lt_zero _), fun i k hi => absurd hi (Nat.not_lt_zero _), fun i y _ _ hy => absurd hy (Nat.not_lt_zero _)⟩ (QOk.all hb) (fun x hx => by cases hx) h
  exact ⟨a1, a2, prK_span.trans a3, a4⟩
theorem rowsQ_none : ∀ n i (f : Fn2), (∀ x, i ≤ x → x < i + n → x = t ∨ f x j = 0) → rowsQ C t j n i f = some f
  | 0, i, f, _ => rfl
  | n + 1, i, f, h => by
    unfold rowsQ
    rw [if_pos (h i (Nat.le_refl _) (by omega))]
    exact rowsQ_none n (i + 1) f fun x h1 h2 => h x (by omega) (by omega)
theorem colsQ_again (H : EF R C r p g) : ∀ (n j : Nat) (ps : List Int), j + n = C → ps.length ≤ r → (∀ i, i < ps.length → p i < j) → (∀ i, ps.length ≤ i → i < r → j ≤ p i) → ∃ ps', colsQ R C n j ⟨g, ps⟩ = some ⟨g, ps ++ ps'⟩ ∧ ps.length + ps'.length = r ∧ ∀ i, i < ps'.length → ps'.getD i 0 = (p (ps.length + i) : Int)
  | 0, j, ps, hj, h1, h2, h3 => by
    refine ⟨[], by rw [List.append_nil]; rfl, ?_, fun i hi => absurd hi (Nat.not_lt_zero _)⟩
    refine Nat.le_antisymm (by simpa using h1) (Nat.le_of_not_lt fun h => ?_)
    simp at h
    have := h3 ps.length (Nat.le_refl _) h
    have := H.lt _ h
    omega
  | n + 1, j, ps, hj, h1, h2, h3 => by
    have hrR := H.le
    unfold colsQ
    by_cases hc : ps.length < r ∧ p ps.length = j
    · obtain ⟨hc1, hc2⟩ := hc
      have hne := H.ne _ hc1
      rw [hc2] at hne
      simp only [fnd_here (show ps.length < R by omega) hne]
      rw [if_neg (by omega), swF_same, rowsQ_none (R - 0) 0 g (fun x _ hx => by
        by_cases e : x = ps.length
        · exact .inl e
        · right; rw [← hc2]; exact H.oth _ x hc1 (by omega) e)]
      obtain ⟨ps', e1, e2, e3⟩ := colsQ_again H n (j + 1) (ps ++ [(j : Int)]) (by omega) (by simp; omega) (fun i hi => by
        simp at hi
        by_cases e : i = ps.length
        · rw [e]; omega
        · have := h2 i (by omega); omega) (fun i ha hb => by
        simp at ha
        have := H.mono ps.length i (by omega) hb; omega)
      refine ⟨(j : Int) :: ps', ?_, by simp at e2 ⊢; omega, fun i hi => ?_⟩
      · simp only; rw [e1]; simp
      · cases i with
        | zero => simp [hc2]
        | succ i =>
          have := e3 i (by simpa using hi)
          simp at this ⊢
          rw [this]
          congr 2
          omega
    · have hz : ∀ x, ps.length ≤ x → x < ps.length + (R - ps.length) → g x j = 0 := fun x ha hb => by
        rcases Nat.lt_or_ge x r with h | h
        · have q1 := h3 x ha h
          by_cases e : p x = j
          · exfalso
            by_cases e2 : x = ps.length
            · subst e2; exact hc ⟨h, e⟩
            · have := H.mono ps.length x (by omega) h
              have := h3 ps.length (Nat.le_refl _) (by omega)
              omega
          · exact H.left x j h (by omega)
        · exact H.zero x j h (by omega) (by omega)
      simp only [fnd_none g j _ _ hz]
      rw [if_pos (by omega)]
      refine colsQ_again H n (j + 1) ps (by omega) h1 (fun i hi => by have := h2 i hi; omega) (fun i ha hb => ?_)
      have q1 := h3 i ha hb
      by_cases e : p i = j
      · exfalso
        by_cases e2 : i = ps.length
        · subst e2; exact hc ⟨hb, e⟩
        · have := H.mono ps.length i (by omega) hb
          have := h3 ps.length (Nat.le_refl _) (by omega)
          omega
      · omega
end
theorem getD_ext {l m : List Int} (hlen : l.length = m.length) (h : ∀ k, k < l.length → l.getD k 0 = m.getD k 0) : l = m := by
  refine List.ext_getElem hlen fun k h1 h2 => ?_
  have := h k h1
  simpa [List.getD, h1, h2] using this
/-- The echelon form of an echelon form is itself. -/
theorem echQ_again {R C : Nat} {g : Fn2} {s : QSt} (H : EF R C s.ps.length (pf s.ps) s.f) (K : QOk R C s.f) (N : ∀ x ∈ s.ps, 0 ≤ x) (e : EqM R C g s.f) : ∃ s', echQ R C g = some s' ∧ s'.ps = s.ps ∧ EqM R C s'.f s.f := by
  have hE : EqM R C (prK C g R) s.f := fun i c hi hc => by
    unfold prK
    rw [if_pos hi, show rw_ C g i = rw_ C s.f i from rw_ext fun y hy => e i y hi hy, K.pr i hi, rw_at hc]
  obtain ⟨ps', e1, e2, e3⟩ := colsQ_again (H.congr hE) (C - 0) 0 [] (by omega) (Nat.zero_le _) (fun i hi => absurd hi (Nat.not_lt_zero _)) (fun i _ _ => Nat.zero_le _)
  refine ⟨_, e1, ?_, hE⟩
  simp only [List.nil_append, List.length_nil, Nat.zero_add] at e2 e3 ⊢
  refine getD_ext e2 fun k hk => ?_
  rw [e3 k hk]
  unfold pf
  have := N _ (mem_getD (show k < s.ps.length by omega))
  omega
/-- Two echelon forms of one space are equal. -/
theorem ech_uniq {R S C : Nat} {s s2 : QSt} (H : EF R C s.ps.length (pf s.ps) s.f) (K : QOk R C s.f) (N : ∀ x ∈ s.ps, 0 ≤ x) (H2 : EF S C s2.ps.length (pf s2.ps) s2.f) (K2 : QOk S C s2.f) (N2 : ∀ x ∈ s2.ps, 0 ≤ x) (h : QSP R S C s.f s2.f) : s.ps = s2.ps ∧ ∀ i y, i < s.ps.length → y < C → s.f i y = s2.f i y := by
  obtain ⟨u1, u2, u3⟩ := H.uniq H2 h
  refine ⟨getD_ext u1 fun k hk => ?_, fun i y hi hy => ?_⟩
  · have h1 := N _ (mem_getD hk)
    have h2 := N2 _ (mem_getD (show k < s2.ps.length by omega))
    have h3 := u2 k hk
    unfold pf at h3
    omega
  · obtain ⟨d, c, hd, hc, hv⟩ := u3 i hi
    have h1 := H.le
    have h2 := H2.le
    have := prim_uniq (K.pr i (by omega)) (K2.pr i (by omega)) (by rw [rw_len, rw_len]) hd hc (fun k hk => by
      rw [rw_len] at hk
      rw [rw_at hk, rw_at hk]; exact hv k hk)
    rw [← rw_at (f := s.f) (i := i) hy, this, rw_at hy]
theorem rowL_tbQ {R C i : Nat} {f : Fn2} (hi : i < R) : (rowL (tb R C f) C i).length = C := rowL_len (by rw [tb_len]; have := Nat.mul_le_mul_right C (show i + 1 ≤ R by omega); rw [Nat.add_mul, Nat.one_mul] at this; exact this)
theorem QOk.mat {R C : Nat} {f : Fn2} (h : QOk R C f) (hR : R ≤ 24) (hC : C ≤ 24) : isMat R C (tb R C f) = true :=
  isMat_iff.2 ⟨by omega, by omega, by omega, by omega, by rw [tb_len]; simp, by
    rw [List.all_eq_true]
    exact tb_mem fun i j hi hj => (isNum_iff _).2 (h.bd i j hi hj)⟩
/-- The shape is what IsEchelon asks. -/
theorem EF.echelon {R C r : Nat} {p : Nat → Nat} {f : Fn2} (H : EF R C r p f) (K : QOk R C f) (hR : R ≤ 24) (hC : C ≤ 24) : echB R C (tb R C f) = true := by
  have hpv : ∀ i, i < r → pv (tb R C f) C i = p i := fun i hi => by
    have hiR : i < R := Nat.lt_of_lt_of_le hi H.le
    have hpC := H.lt i hi
    refine fcN_eq (by rw [rowL_tbQ hiR]; omega) (fun j hj => ?_) (fun _ => ?_)
    · rw [rowL_getD (by omega), cel_tb hiR (by omega)]
      exact H.left i j hi hj
    · rw [rowL_getD hpC, cel_tb hiR hpC]
      exact H.ne i hi
  have hpz : ∀ i, r ≤ i → i < R → pv (tb R C f) C i = C := fun i h1 h2 => by
    refine fcN_eq (by rw [rowL_tbQ h2]; omega) (fun j hj => ?_) (fun h => by rw [rowL_tbQ h2] at h; omega)
    rw [rowL_getD hj, cel_tb h2 hj]
    exact H.zero i j h1 h2 hj
  have hrow : ∀ i, i < R → rowL (tb R C f) C i = rw_ C f i := fun i hi => getD_ext (by rw [rowL_tbQ hi, rw_len]) fun k hk => by
    rw [rowL_tbQ hi] at hk
    rw [rowL_getD hk, cel_tb hi hk, rw_at hk]
  have hM := K.mat hR hC
  unfold echB
  rw [hM, Bool.true_and, List.all_eq_true]
  intro i hi
  have hi' : i < R := by simpa using hi
  simp only [Int.toNat_natCast]
  unfold erow
  rcases Nat.lt_or_ge i r with hir | hir
  · have hpC := H.lt i hir
    have hpr := K.pr i hi'
    rw [← hrow i hi'] at hpr
    obtain ⟨g1, g2⟩ := (prim_row (rowL_tbQ hi') (by rw [hpv i hir]; exact hpC)).1 hpr
    rw [hpv i hir] at g2 ⊢
    rw [if_pos hpC]
    have hlast : lastP (tb R C f) C i < p i := by
      cases i with
      | zero => rw [lastP_zero]; omega
      | succ i =>
        rw [lastP_succ, hpv i (by omega)]
        have := H.mono i (i + 1) (by omega) hir; omega
    simp only [Bool.and_eq_true, decide_eq_true_eq]
    refine ⟨⟨⟨hlast, g2⟩, g1⟩, ?_⟩
    rw [List.all_eq_true]
    intro k hk
    have hk' := List.mem_range.1 hk
    unfold ezc
    rw [hpv i hir, cel_tb hk' hpC]
    by_cases e : k = i
    · simp [e]
    · simp [e, H.oth i k hir hk' e]
  · rw [hpz i hir hi', if_neg (Nat.lt_irrefl _)]
end Go.Proofs.Ytacjonkehcamgaa

/-
  DERIVED. What stays under all operations of the Smith form; u m v = d, and u takes only zeros to zeros: no program in sight.
-/
namespace Go.Proofs.Ytacjonkehcamgaa
set_option linter.unusedVariables false
/-- A property that stays under the operations. -/
structure Stays (R C t0 : Nat) (P : SS → Prop) : Prop where
  radd : ∀ (s : SS) (i j : Nat) (t : Int), i < R → j < R → t0 ≤ i → t0 ≤ j → i ≠ j → SGD R C s → (s.wr (s.row.add i j t)).OK R C → P s → P (s.wr (s.row.add i j t))
  rswap : ∀ (s : SS) (i j : Nat), i < R → j < R → t0 ≤ i → t0 ≤ j → i ≠ j → SGD R C s → P s → P (s.wr (s.row.swap i j))
  rneg : ∀ (s : SS) (i : Nat), i < R → t0 ≤ i → SGD R C s → P s → P (s.wr (s.row.neg i))
  cadd : ∀ (s : SS) (i j : Nat) (t : Int), i < C → j < C → t0 ≤ i → t0 ≤ j → i ≠ j → SGD R C s → (s.wc (s.col.add i j t)).OK R C → P s → P (s.wc (s.col.add i j t))
  cswap : ∀ (s : SS) (i j : Nat), i < C → j < C → t0 ≤ i → t0 ≤ j → i ≠ j → SGD R C s → P s → P (s.wc (s.col.swap i j))
section
variable {R C t : Nat} {P : SS → Prop} {s : SS}
theorem Stays.b (H : Stays R C t P) (h : SGD R C s) (hP : P s) (ht : t < R) : ∀ n, t + n ≤ R → (s.wr (swS t t t s.row n)).OK R C → P (s.wr (swS t t t s.row n))
  | 0, _, _ => hP
  | n + 1, hn, hk => by
    have hk' : (s.wr (swS t t t s.row n)).OK R C := by
      have h1 := swS_back (R := R) (C := C) h.row.nb hk.ofRow
      exact ⟨h1.f, h1.g, hk.h⟩
    have ih := H.b h hP ht n (by omega) hk'
    rw [swS_succ] at hk ⊢
    split
    · rename_i hc
      rw [if_pos hc] at hk
      have hg : SGD R C (s.wr (swS t t t s.row n)) := ⟨hk', h.nb.wr (swS_nb h.row.nb n)⟩
      exact H.radd (s.wr (swS t t t s.row n)) (t + n) t _ (by omega) ht (by omega) (Nat.le_refl _) hc.1 hg hk ih
    · exact ih
theorem Stays.c (H : Stays R C t P) (h : SGD R C s) (hP : P s) (ht : t < C) : ∀ n, t + n ≤ C → (s.wc (swS t t t s.col n)).OK R C → P (s.wc (swS t t t s.col n))
  | 0, _, _ => hP
  | n + 1, hn, hk => by
    have hk' : (s.wc (swS t t t s.col n)).OK R C := by
      have h1 := swS_back (R := C) (C := R) h.col.nb hk.ofCol
      exact ⟨tp_ok h1.f, hk.g, tp_ok h1.g⟩
    have ih := H.c h hP ht n (by omega) hk'
    rw [swS_succ] at hk ⊢
    split
    · rename_i hc
      rw [if_pos hc] at hk
      have hg : SGD R C (s.wc (swS t t t s.col n)) := ⟨hk', h.nb.wc (swS_nb h.col.nb n)⟩
      exact H.cadd (s.wc (swS t t t s.col n)) (t + n) t _ (by omega) ht (by omega) (Nat.le_refl _) hc.1 hg hk ih
    · exact ih
theorem Stays.a1 (H : Stays R C t P) {r : Nat} (h : SGD R C s) (hP : P s) (hr : r < R) (hr0 : t ≤ r) (ht : t < R) : P (sfA1 t r s) := by
  unfold sfA1
  split
  · exact hP
  · rename_i hne
    exact H.rswap s r t hr ht hr0 (Nat.le_refl _) hne h hP
theorem Stays.a2 (H : Stays R C t P) {c : Nat} (h : SGD R C s) (hP : P s) (hc : c < C) (hc0 : t ≤ c) (ht : t < C) : P (sfA2 t c s) := by
  unfold sfA2
  split
  · exact hP
  · rename_i hne
    exact H.cswap s c t hc ht hc0 (Nat.le_refl _) hne h hP
theorem Stays.rnd (H : Stays R C t P) {p q : Nat} (h : SGD R C s) (hP : P s) (e : ls2 R C s.f t = ((p : Int), (q : Int))) (hp0 : t ≤ p) (hp : p < R) (hq0 : t ≤ q) (hq : q < C) (ht : t < R) (htC : t < C) (hk : (rnd R C t s).1.OK R C) : P (rnd R C t s).1 := by
  have eA : sfA R C t s = sfA2 t q (sfA1 t p s) := by unfold sfA; rw [e]; rfl
  have hA : SGD R C (sfA R C t s) := by rw [eA]; exact (h.a1 hp ht).a2 hq htC
  have pA : P (sfA R C t s) := by rw [eA]; exact H.a2 (h.a1 hp ht) (H.a1 h hP hp hp0 ht) hq hq0 htC
  obtain ⟨hB, hC⟩ := rnd_back hA.nb hk
  have gB : SGD R C (sfB R t (sfA R C t s)) := ⟨hB, sfB_nb hA.nb⟩
  have pB : P (sfB R t (sfA R C t s)) := H.b hA pA ht (R - t) (by omega) hB
  have gC : SGD R C (sfC C t (sfB R t (sfA R C t s))) := ⟨hC, sfC_nb gB.nb⟩
  have pC : P (sfC C t (sfB R t (sfA R C t s))) := H.c gB pB htC (C - t) (by omega) hC
  unfold Go.Proofs.Ytacjonkehcamgaa.rnd at hk ⊢
  generalize sfC C t (sfB R t (sfA R C t s)) = s2 at *
  unfold sfD at hk ⊢
  split
  · rename_i hcl
    rw [if_pos hcl] at hk
    rcases hf : fd R C t s2.f with _ | i
    · exact pC
    · rw [hf] at hk
      obtain ⟨i1, i2, i3⟩ := fd_some hf
      exact H.radd s2 t i 1 ht i2 (Nat.le_refl _) (by omega) (by omega) gC hk pC
  · exact pC
theorem Stays.in_ (H : Stays R C t P) (ht : t < R) (htC : t < C) : ∀ (k : Nat) (s : SS), sfMs R C t s ≤ k → SGD R C s → P s → ¬ (ls2 R C s.f t).1 < 0 → ∀ s', sfIn R C t s = some s' → P s' := by
  intro k
  induction k with
  | zero =>
    intro s hk hg hP hn s' he
    rcases ls2_cases R C s.f t with ⟨e, _⟩ | ⟨p, q, e, ⟨a1, a2, a3, a4⟩, h3, h4, h5⟩
    · rw [e] at hn; exact absurd (by decide) hn
    · have hV : lsV R C t s = (s.f p q).natAbs := by unfold lsV; rw [e]; rfl
      unfold sfMs at hk
      omega
  | succ k ih =>
    intro s hk hg hP hn s' he
    rcases ls2_cases R C s.f t with ⟨e, _⟩ | ⟨p, q, e, ⟨a1, a2, a3, a4⟩, h3, h4, h5⟩
    · rw [e] at hn; exact absurd (by decide) hn
    · rw [sfIn] at he
      have hA : SGD R C (sfA R C t s) := by
        unfold sfA
        rw [e]
        exact (hg.a1 a2 ht).a2 a4 htC
      have hnb : (Go.Proofs.Ytacjonkehcamgaa.rnd R C t s).1.NBS := sfD_nb (sfC_nb (sfB_nb hA.nb))
      split at he
      · rename_i hok
        have hk' := (SS.ok_iff hnb).1 hok
        have hP' := H.rnd hg hP e a1 a2 a3 a4 ht htC hk'
        split at he
        · cases he
          exact hP'
        · rename_i hd
          split at he
          · rename_i hlt
            obtain ⟨_, hne⟩ := rnd_lt hg ht htC e a2 a4 h3 (h5 ht htC) hk' (by simpa using hd)
            refine ih _ (by omega) (rnd_gd hg e a2 a4 ht htC hk') hP' ?_ s' he
            obtain ⟨p2, q2, e2, _⟩ := ls2_some (R := R) (C := C) (Nat.le_refl t) ht (Nat.le_refl t) htC hne
            rw [e2]
            dsimp only
            omega
          · cases he
      · cases he
end
theorem Stays.out {R C : Nat} {P : SS → Prop} (H : ∀ t, Stays R C t P) : ∀ (m t : Nat) (s s' : SS), t + m ≤ R → t + m ≤ C → SGD R C s → P s → sfOut R C m t s = some s' → P s'
  | 0, t, s, s', _, _, hg, hP, he => by cases he; exact hP
  | m + 1, t, s, s', h1, h2, hg, hP, he => by
    by_cases hn : (ls2 R C s.f t).1 < 0
    · rw [sfOut_stop hn] at he; cases he; exact hP
    · rw [sfOut_go hn] at he
      unfold sfGo at he
      rcases hi : sfIn R C t s with _ | s2
      · rw [hi] at he; cases he
      · rw [hi] at he
        have g2 := sfIn_gd (by omega) (by omega) _ s (Nat.le_refl _) hg hn s2 hi
        have p2 := (H t).in_ (by omega) (by omega) _ s (Nat.le_refl _) hg hP hn s2 hi
        have pN : P (sfN t s2) := by
          unfold sfN
          split
          · exact (H t).rneg s2 t (by omega) (Nat.le_refl _) g2 p2
          · exact p2
        exact Stays.out H m (t + 1) (sfN t s2) s' (by omega) (by omega) (g2.n (by omega)) pN he
theorem Stays.all {R C : Nat} {P : SS → Prop} (H : ∀ t, Stays R C t P) {xs : List Int} {s : SS} (h : sfX R C xs = some s) (h0 : P ⟨fun i j => cel xs C i j, idF, idF⟩) : P s := by
  rcases hm : isMat (R : Int) (C : Int) xs with _ | _
  · rw [sfX_no hm] at h; cases h
  · rw [sfX_yes hm] at h
    have M := isMat_iff.1 hm
    have hs := start_gd (R := R) (C := C) M.num
    exact Stays.out H _ _ _ _ (by omega) (by omega) ⟨⟨hs.ok.f, hs.ok.g, idF_ok C C⟩, ⟨hs.nb.f, hs.nb.g, idF_nb⟩⟩ h0 h
/-- d = u m v, and u takes only zeros to zeros. -/
def UMV (R C : Nat) (m : Fn2) (s : SS) : Prop := EqM R C (mm C (mm R s.g m) s.h) s.f ∧ INJ R s.g
theorem opA_val {f : Fn2} {R C i j y : Nat} {t : Int} (h : OKF R C (opA f i j t)) (hi : i < R) (hy : y < C) : opA f i j t i y = f i y + f j y * t := (opA_num (h i y hi hy)).2.2.1
theorem mm_left {n : Nat} {g g' m : Fn2} {x y : Nat} (h : ∀ k, k < n → g' x k = g x k) : mm n g' m x y = mm n g m x y := sumTo_congr n fun k hk => by rw [h k hk]
theorem UMV.stays (R C : Nat) (m : Fn2) (t0 : Nat) : Stays R C t0 (UMV R C m) where
  radd := fun s i j t hi hj _ _ hij hg hk hP => by
    have e1 : ∀ y, y < R → opA s.g i j t i y = s.g i y + s.g j y * t := fun y hy => opA_val hk.g hi hy
    refine ⟨fun x y hx hy => ?_, hP.2.add hi hj hij e1 (fun x y _ _ hne => opA_other hne)⟩
    show mm C (mm R (opA s.g i j t) m) s.h x y = opA s.f i j t x y
    have kf : OKF R C (opA s.f i j t) := hk.f
    by_cases hxi : x = i
    · subst hxi
      rw [opA_val kf hx hy, ← hP.1 x y hx hy, ← hP.1 j y hj hy]
      unfold mm
      rw [← sumTo_mul, ← sumTo_add]
      refine sumTo_congr C fun k hk2 => ?_
      have e2 : sumTo (fun l => opA s.g x j t x l * m l k) R = sumTo (fun l => s.g x l * m l k) R + sumTo (fun l => s.g j l * m l k) R * t := by
        rw [← sumTo_mul, ← sumTo_add]
        exact sumTo_congr R fun l hl => by rw [e1 l hl]; grind
      rw [e2]
      grind
    · rw [opA_other hxi, ← hP.1 x y hx hy]
      exact mm_left fun k hk2 => mm_left fun l hl => opA_other hxi
  rswap := fun s i j hi hj _ _ hij hg hP => by
    refine ⟨fun x y hx hy => ?_, hP.2.swap hi hj⟩
    show mm C (mm R (swF s.g i j) m) s.h x y = swF s.f i j x y
    have key : ∀ z, z < R → (∀ k, swF s.g i j x k = s.g z k) → (swF s.f i j x y = s.f z y) → mm C (mm R (swF s.g i j) m) s.h x y = swF s.f i j x y := fun z hz h1 h2 => by
      rw [h2, ← hP.1 z y hz hy]
      unfold mm
      refine sumTo_congr C fun k _ => ?_
      rw [sumTo_congr R (fun l _ => by rw [h1 l])]
    by_cases h1 : x = i
    · exact key j hj (fun k => by unfold swF; rw [if_pos h1]) (by unfold swF; rw [if_pos h1])
    · by_cases h2 : x = j
      · exact key i hi (fun k => by unfold swF; rw [if_neg h1, if_pos h2]) (by unfold swF; rw [if_neg h1, if_pos h2])
      · exact key x hx (fun k => by unfold swF; rw [if_neg h1, if_neg h2]) (by unfold swF; rw [if_neg h1, if_neg h2])
  rneg := fun s i hi _ hg hP => by
    have e1 : ∀ y, y < R → opM s.g i i y = -s.g i y := fun y hy => opM_at (hg.ok.g i y hi hy)
    have o1 : ∀ (f : Fn2) x y, x ≠ i → opM f i x y = f x y := fun f x y hne => by unfold opM; rw [if_neg hne]
    refine ⟨fun x y hx hy => ?_, hP.2.neg e1 (fun x y _ _ hne => o1 _ _ _ hne)⟩
    show mm C (mm R (opM s.g i) m) s.h x y = opM s.f i x y
    by_cases hxi : x = i
    · subst hxi
      rw [opM_at (hg.ok.f x y hx hy), ← hP.1 x y hx hy]
      unfold mm
      rw [← sumTo_neg]
      refine sumTo_congr C fun k hk2 => ?_
      have e2 : sumTo (fun l => opM s.g x x l * m l k) R = -sumTo (fun l => s.g x l * m l k) R := by
        rw [← sumTo_neg]
        exact sumTo_congr R fun l hl => by rw [e1 l hl, Int.neg_mul]
      rw [e2, Int.neg_mul]
    · rw [o1 _ _ _ hxi, ← hP.1 x y hx hy]
      exact mm_left fun k hk2 => mm_left fun l hl => o1 _ _ _ hxi
  cadd := fun s i j t hi hj _ _ hij hg hk hP => by
    refine ⟨fun x y hx hy => ?_, hP.2⟩
    show mm C (mm R s.g m) (tp (opA (tp s.h) i j t)) x y = tp (opA (tp s.f) i j t) x y
    have kf : OKF C R (opA (tp s.f) i j t) := tp_ok hk.f
    have kh : OKF C C (opA (tp s.h) i j t) := tp_ok hk.h
    by_cases hyi : y = i
    · subst hyi
      show _ = opA (tp s.f) y j t y x
      rw [opA_val kf hy hx]
      show _ = s.f x y + s.f x j * t
      rw [← hP.1 x y hx hy, ← hP.1 x j hx hj]
      unfold mm
      rw [← sumTo_mul, ← sumTo_add]
      refine sumTo_congr C fun k hk2 => ?_
      have e2 : tp (opA (tp s.h) y j t) k y = s.h k y + s.h k j * t := opA_val kh hy hk2
      rw [e2]
      grind
    · show _ = opA (tp s.f) i j t y x
      rw [opA_other hyi]
      show _ = s.f x y
      rw [← hP.1 x y hx hy]
      exact sumTo_congr C fun k hk2 => by
        have e2 : tp (opA (tp s.h) i j t) k y = s.h k y := opA_other hyi
        rw [e2]
  cswap := fun s i j hi hj _ _ hij hg hP => by
    refine ⟨fun x y hx hy => ?_, hP.2⟩
    show mm C (mm R s.g m) (tp (swF (tp s.h) i j)) x y = swF (tp s.f) i j y x
    have key : ∀ z, z < C → (∀ k, swF (tp s.h) i j y k = s.h k z) → (swF (tp s.f) i j y x = s.f x z) → mm C (mm R s.g m) (tp (swF (tp s.h) i j)) x y = swF (tp s.f) i j y x := fun z hz h1 h2 => by
      rw [h2, ← hP.1 x z hx hz]
      exact sumTo_congr C fun k _ => by
        have e2 : tp (swF (tp s.h) i j) k y = s.h k z := h1 k
        rw [e2]
    by_cases h1 : y = i
    · exact key j hj (fun k => by unfold swF; rw [if_pos h1]; rfl) (by unfold swF; rw [if_pos h1]; rfl)
    · by_cases h2 : y = j
      · exact key i hi (fun k => by unfold swF; rw [if_neg h1, if_pos h2]; rfl) (by unfold swF; rw [if_neg h1, if_pos h2]; rfl)
      · exact key y hy (fun k => by unfold swF; rw [if_neg h1, if_neg h2]; rfl) (by unfold swF; rw [if_neg h1, if_neg h2]; rfl)
theorem UMV.start (R C : Nat) (m : Fn2) : UMV R C m ⟨m, idF, idF⟩ := by
  refine ⟨fun i j hi hj => ?_, INJ.id R⟩
  show mm C (mm R idF m) idF i j = m i j
  have e1 : ∀ k, mm R idF m i k = m i k := fun k => mv_id (fun l => m l k) hi
  unfold mm
  rw [sumTo_one C hj]
  · show mm R idF m i j * idF j j = m i j
    rw [e1]; unfold idF; rw [if_pos rfl, Int.mul_one]
  · intro k hk hne
    unfold idF
    rw [if_neg hne, Int.mul_zero]
/-- The Smith form of a matrix is the product. -/
theorem sfX_umv {R C : Nat} {xs : List Int} {s : SS} (h : sfX R C xs = some s) : UMV R C (fun i j => cel xs C i j) s := Stays.all (UMV.stays R C _) h (UMV.start R C _)
/-- A solution of the Smith form gives one of the matrix. -/
theorem sf_solves {R C : Nat} {m : Fn2} {s : SS} (h : UMV R C m s) {b y : Nat → Int} (hy : ∀ i, i < R → mv C s.f y i = mv R s.g b i) : ∀ i, i < R → mv C m (mv C s.h y) i = b i := by
  refine h.2.eq fun i hi => ?_
  rw [← hy i hi, ← mv_mm C R s.g m (mv C s.h y) i, ← mv_mm C C (mm R s.g m) s.h y i]
  exact mv_congr (fun k hk => h.1 i k hi hk) (fun _ _ => rfl)
/-- Outside of the diagonal there are zeros in the first t rows and columns. -/
def Clr (R C t : Nat) (s : SS) : Prop := ∀ x y, x < R → y < C → x ≠ y → (x < t ∨ y < t) → s.f x y = 0
theorem Clr.stays (R C t : Nat) : Stays R C t (Clr R C t) where
  radd := fun s i j q hi hj ti tj hij hg hk hP x y hx hy hxy h => by
    show opA s.f i j q x y = 0
    have kf : OKF R C (opA s.f i j q) := hk.f
    by_cases hxi : x = i
    · subst hxi
      rw [opA_val kf hx hy, hP x y hx hy hxy h, hP j y hj hy (by omega) (.inr (by omega)), Int.zero_mul, Int.zero_add]
    · rw [opA_other hxi]; exact hP x y hx hy hxy h
  rswap := fun s i j hi hj ti tj hij hg hP x y hx hy hxy h => by
    show swF s.f i j x y = 0
    unfold swF
    split
    · rename_i e; exact hP j y hj hy (by omega) (.inr (by omega))
    · split
      · rename_i e; exact hP i y hi hy (by omega) (.inr (by omega))
      · exact hP x y hx hy hxy h
  rneg := fun s i hi ti hg hP x y hx hy hxy h => by
    show opM s.f i x y = 0
    by_cases hxi : x = i
    · subst hxi
      rw [opM_at (hg.ok.f x y hx hy), hP x y hx hy hxy h]; rfl
    · unfold opM; rw [if_neg hxi]; exact hP x y hx hy hxy h
  cadd := fun s i j q hi hj ti tj hij hg hk hP x y hx hy hxy h => by
    show opA (tp s.f) i j q y x = 0
    have kf : OKF C R (opA (tp s.f) i j q) := tp_ok hk.f
    by_cases hyi : y = i
    · subst hyi
      rw [opA_val kf hy hx]
      show s.f x y + s.f x j * q = 0
      rw [hP x y hx hy hxy h, hP x j hx hj (by omega) (.inl (by omega)), Int.zero_mul, Int.zero_add]
    · rw [opA_other hyi]; exact hP x y hx hy hxy h
  cswap := fun s i j hi hj ti tj hij hg hP x y hx hy hxy h => by
    show swF (tp s.f) i j y x = 0
    unfold swF
    split
    · rename_i e; exact hP x j hx hj (by omega) (.inl (by omega))
    · split
      · rename_i e; exact hP x i hx hi (by omega) (.inl (by omega))
      · exact hP x y hx hy hxy h
theorem rnd_done {R C t : Nat} {s : SS} (h : (rnd R C t s).2 = true) : clnS R C t (rnd R C t s).1.f = true ∧ fd R C t (rnd R C t s).1.f = none := by
  unfold rnd at h ⊢
  generalize sfC C t (sfB R t (sfA R C t s)) = s2 at *
  unfold sfD at h ⊢
  by_cases hc : clnS R C t s2.f = true
  · rw [if_pos hc] at h ⊢
    rcases hf : fd R C t s2.f with _ | i
    · exact ⟨hc, hf⟩
    · rw [hf] at h; cases h
  · rw [if_neg hc] at h; cases h
/-- What holds at (t, t) when nothing is left. -/
def Dn (R C t : Nat) (s : SS) : Prop := clnS R C t s.f = true ∧ fd R C t s.f = none ∧ s.f t t ≠ 0
theorem rnd_piv {R C t p q : Nat} {s : SS} (h : SGD R C s) (e : ls2 R C s.f t = ((p : Int), (q : Int))) (hp : p < R) (hq : q < C) (hpq : s.f p q ≠ 0) (ht : t < R) (htC : t < C) (hk : (rnd R C t s).1.OK R C) (hd : (rnd R C t s).2 = true) : (rnd R C t s).1.f t t ≠ 0 := by
  have eA : sfA R C t s = sfA2 t q (sfA1 t p s) := by unfold sfA; rw [e]; rfl
  have hA : SGD R C (sfA R C t s) := by rw [eA]; exact (h.a1 hp ht).a2 hq htC
  have hpiv : (sfA R C t s).f t t = s.f p q := by rw [eA]; exact sfA_piv p q s
  obtain ⟨hB, hC⟩ := rnd_back hA.nb hk
  obtain ⟨f1, -, -⟩ := rnd_facts hA.nb ht htC (by rw [hpiv]; exact hpq) hB hC
  unfold rnd at hd ⊢
  generalize sfC C t (sfB R t (sfA R C t s)) = s2 at *
  unfold sfD at hd ⊢
  by_cases hc : clnS R C t s2.f = true
  · rw [if_pos hc] at hd ⊢
    rcases hf : fd R C t s2.f with _ | i
    · show s2.f t t ≠ 0
      rw [f1, hpiv]; exact hpq
    · rw [hf] at hd; cases hd
  · rw [if_neg hc] at hd; cases hd
theorem sfIn_dn {R C t : Nat} (ht : t < R) (htC : t < C) : ∀ (k : Nat) (s : SS), sfMs R C t s ≤ k → SGD R C s → ¬ (ls2 R C s.f t).1 < 0 → ∀ s', sfIn R C t s = some s' → Dn R C t s' := by
  intro k
  induction k with
  | zero =>
    intro s hk hg hn s' he
    rcases ls2_cases R C s.f t with ⟨e, _⟩ | ⟨p, q, e, ⟨a1, a2, a3, a4⟩, h3, h4, h5⟩
    · rw [e] at hn; exact absurd (by decide) hn
    · have hV : lsV R C t s = (s.f p q).natAbs := by unfold lsV; rw [e]; rfl
      unfold sfMs at hk
      omega
  | succ k ih =>
    intro s hk hg hn s' he
    rcases ls2_cases R C s.f t with ⟨e, _⟩ | ⟨p, q, e, ⟨a1, a2, a3, a4⟩, h3, h4, h5⟩
    · rw [e] at hn; exact absurd (by decide) hn
    · rw [sfIn] at he
      have hA : SGD R C (sfA R C t s) := by
        unfold sfA
        rw [e]
        exact (hg.a1 a2 ht).a2 a4 htC
      have hnb : (rnd R C t s).1.NBS := sfD_nb (sfC_nb (sfB_nb hA.nb))
      split at he
      · rename_i hok
        have hk' := (SS.ok_iff hnb).1 hok
        split at he
        · rename_i hd
          cases he
          obtain ⟨d1, d2⟩ := rnd_done hd
          exact ⟨d1, d2, rnd_piv hg e a2 a4 h3 ht htC hk' hd⟩
        · rename_i hd
          split at he
          · rename_i hlt
            obtain ⟨_, hne⟩ := rnd_lt hg ht htC e a2 a4 h3 (h5 ht htC) hk' (by simpa using hd)
            refine ih _ (by omega) (rnd_gd hg e a2 a4 ht htC hk') ?_ s' he
            obtain ⟨p2, q2, e2, _⟩ := ls2_some (R := R) (C := C) (Nat.le_refl t) ht (Nat.le_refl t) htC hne
            rw [e2]
            dsimp only
            omega
          · cases he
      · cases he
theorem Dn.clr {R C t : Nat} {s : SS} (h : Dn R C t s) (hc : Clr R C t s) : Clr R C (t + 1) s := fun x y hx hy hxy hl => by
  obtain ⟨z1, z2⟩ := clnS_yes h.1
  by_cases h1 : x < t ∨ y < t
  · exact hc x y hx hy hxy h1
  · rcases hl with hl | hl
    · obtain rfl : x = t := by omega
      exact z2 y (by omega) hy
    · obtain rfl : y = t := by omega
      exact z1 x (by omega) hx
theorem sfOut_diag {R C : Nat} : ∀ (m t : Nat) (s s' : SS), t + m = min R C → SGD R C s → Clr R C t s → sfOut R C m t s = some s' → ∀ x y, x < R → y < C → x ≠ y → s'.f x y = 0
  | 0, t, s, s', hm, hg, hc, he => by
    cases he
    exact fun x y hx hy hxy => hc x y hx hy hxy (by omega)
  | m + 1, t, s, s', hm, hg, hc, he => by
    by_cases hn : (ls2 R C s.f t).1 < 0
    · rw [sfOut_stop hn] at he
      cases he
      intro x y hx hy hxy
      by_cases h1 : x < t ∨ y < t
      · exact hc x y hx hy hxy h1
      · rcases ls2_cases R C s.f t with ⟨_, h⟩ | ⟨p, q, e, _⟩
        · exact h x y (by omega) hx (by omega) hy
        · rw [e] at hn; dsimp only at hn; omega
    · rw [sfOut_go hn] at he
      unfold sfGo at he
      rcases hi : sfIn R C t s with _ | s2
      · rw [hi] at he; cases he
      · rw [hi] at he
        have ht : t < R ∧ t < C := by omega
        have g2 := sfIn_gd ht.1 ht.2 _ s (Nat.le_refl _) hg hn s2 hi
        have p2 := (Clr.stays R C t).in_ ht.1 ht.2 _ s (Nat.le_refl _) hg hc hn s2 hi
        have d2 := sfIn_dn ht.1 ht.2 _ s (Nat.le_refl _) hg hn s2 hi
        have p3 := d2.clr p2
        have pN : Clr R C (t + 1) (sfN t s2) := by
          unfold sfN
          split
          · intro x y hx hy hxy h
            show opM s2.f t x y = 0
            by_cases hxt : x = t
            · subst hxt
              rw [opM_at (g2.ok.f x y hx hy), p3 x y hx hy hxy h]; rfl
            · unfold opM; rw [if_neg hxt]; exact p3 x y hx hy hxy h
          · exact p3
        exact sfOut_diag m (t + 1) (sfN t s2) s' (by omega) (g2.n ht.1) pN he
/-- Outside of the diagonal the Smith form has zeros. -/
theorem sfX_diag {R C : Nat} {xs : List Int} {s : SS} (h : sfX R C xs = some s) : ∀ x y, x < R → y < C → x ≠ y → s.f x y = 0 := by
  rcases hm : isMat (R : Int) (C : Int) xs with _ | _
  · rw [sfX_no hm] at h; cases h
  · rw [sfX_yes hm] at h
    have M := isMat_iff.1 hm
    have hs := start_gd (R := R) (C := C) M.num
    exact sfOut_diag _ _ _ _ (by omega) ⟨⟨hs.ok.f, hs.ok.g, idF_ok C C⟩, ⟨hs.nb.f, hs.nb.g, idF_nb⟩⟩ (fun x y _ _ _ h => by omega) h
end Go.Proofs.Ytacjonkehcamgaa

/-
  DERIVED. Exchanges and signs in a work; add; the search for the least number of a column.
-/
namespace Go.Proofs.Ytacjonkehcamgaa
open Go.RowKit
set_option linter.unusedVariables false
set_option linter.unusedSimpArgs false
def RWD (B b R C : Nat) (f g h : Fn2) (w : World) (e : Ending) (w' : World) : Prop := e = .returned (.tuple #[]) ∧ Below B w w' ∧ WK w' B b R C f g h false
set_option maxRecDepth 100000 in
set_option maxHeartbeats 4000000 in
theorem impl_rows_swap (B b R C i j : Nat) (f g h : Fn2) (w : World) (hK : WK w B b R C f g h false) (hi : i < R) (hj : j < R) (hij : i ≠ j) (hC0 : 0 < C) (hC : C ≤ 24) (hR : R ≤ 24) :
    Calls Try.prog 149 #[.pointer (some ⟨b, 0, none⟩), .agg #[.int .i64 0, .int .i64 i, .int .i64 j, .int .i64 0]] w (RWD B b R C (swF f i j) (swF g i j) h w) := by
  obtain ⟨A, n, cap, A2, n2, cap2, A3, n3, cap3, hW⟩ := hK
  have hBb := hW.hb
  have hbl := hW.lt
  have hbw : Below B w (w.alloc (.cells #[.int .i64 0, .int .i64 i, .int .i64 j, .int .i64 0] 66)) := by
    refine Below.mono (B := w.heap.size) ?_ (by omega)
    (repeat (first | (with_reducible (first | exact Below.refl _ _ | assumption | refine below_drewN ?_ _ | refine Below.drew ?_ | refine Below.alloc ?_ ?_ _ | refine Below.setCell ?_ ?_ _ | refine below_i ?_)) | go_size))
  have HMO : Hid ((Value.slice A n cap).ownBlock ≠ some w.heap.size) := Lib.hid (fun e => by have := (hW.m.own _ e).2; omega)
  have HLO : Hid ((Value.slice A2 n2 cap2).ownBlock ≠ some w.heap.size) := Lib.hid (fun e => by have := (hW.l.own _ e).2; omega)
  have HIJ := Lib.hid hij
  clear hij
  obtain ⟨c0, c1, c2, c3, c4, c5, c6, c7, c8, c9, cf, cl⟩ := hW.cells
  have hbe : (b == w.heap.size) = false := by simp; omega
  go_enter Try.func149, Try.ntmps149
  go_wp2_with fail
  have hX : Blk (w.alloc (.cells #[.int .i64 0, .int .i64 i, .int .i64 j, .int .i64 0] 66)) w.heap.size 66 #[.int .i64 0, .int .i64 i, .int .i64 j, .int .i64 0] := Blk.new _ _ _
  have x0 := hX.cell 0; have x1 := hX.cell 1; have x2 := hX.cell 2; have x3 := hX.cell 3; simp at x0 x1 x2 x3
  ((refine wp_region_held_drew (S := (fun w' => w'.cell? ⟨b, 0, none⟩ = some (.int .i64 R) ∧ w'.cell? ⟨b, 1, none⟩ = some (.int .i64 C) ∧ w'.cell? ⟨b, 2, none⟩ = some (.slice A n cap) ∧ w'.cell? ⟨b, 3, none⟩ = some (.int .i64 R) ∧ w'.cell? ⟨b, 4, none⟩ = some (.int .i64 R) ∧ w'.cell? ⟨b, 5, none⟩ = some (.slice A2 n2 cap2) ∧ w'.cell? ⟨b, 9, none⟩ = some (.bool false) ∧ w'.cell? ⟨w.heap.size, 0, none⟩ = some (.int .i64 0) ∧ w'.cell? ⟨w.heap.size, 1, none⟩ = some (.int .i64 i) ∧ w'.cell? ⟨w.heap.size, 2, none⟩ = some (.int .i64 j) ∧ w'.cell? ⟨w.heap.size, 3, none⟩ = some (.int .i64 (0)))) (by kernel_rfl) ?_ (fun hHeld => ?_)); ((focus ((try dsimp only); (go_keep)))); ((refine tk_ (i := 0) (v := ?_) (y := Or.inl ⟨by rfl, ?_⟩) (h := ?_); rotate_left; (focus (((intro w hSw; (try dsimp only at hSw); go_simp) <;> (try with_reducible rfl)); done)); (try simp only [Act.put, p1_, p2_, p3_]))); ((refine tk_ (i := 1) (v := ?_) (y := Or.inl ⟨by rfl, ?_⟩) (h := ?_); rotate_left; (focus (((intro w hSw; (try dsimp only at hSw); go_simp) <;> (try with_reducible rfl)); done)); (try simp only [Act.put, p1_, p2_, p3_]))); ((refine tk_ (i := 2) (v := ?_) (y := Or.inl ⟨by rfl, ?_⟩) (h := ?_); rotate_left; (focus (((intro w hSw; (try dsimp only at hSw); go_simp) <;> (try with_reducible rfl)); done)); (try simp only [Act.put, p1_, p2_, p3_]))); ((refine tk_ (i := 3) (v := ?_) (y := Or.inl ⟨by rfl, ?_⟩) (h := ?_); rotate_left; (focus (((intro w hSw; (try dsimp only at hSw); go_simp) <;> (try with_reducible rfl)); done)); (try simp only [Act.put, p1_, p2_, p3_]))); ((refine tk_ (i := 4) (v := ?_) (y := Or.inl ⟨by rfl, ?_⟩) (h := ?_); rotate_left; (focus (((intro w hSw; (try dsimp only at hSw); go_simp) <;> (try with_reducible rfl)); done)); (try simp only [Act.put, p1_, p2_, p3_]))); ((refine tk_ (i := 5) (v := ?_) (y := Or.inl ⟨by rfl, ?_⟩) (h := ?_); rotate_left; (focus (((intro w hSw; (try dsimp only at hSw); go_simp) <;> (try with_reducible rfl)); done)); (try simp only [Act.put, p1_, p2_, p3_]))); ((refine tk_ (i := 6) (v := ?_) (y := Or.inl ⟨by rfl, ?_⟩) (h := ?_); rotate_left; (focus (((intro w hSw; (try dsimp only at hSw); go_simp) <;> (try with_reducible rfl)); done)); (try simp only [Act.put, p1_, p2_, p3_]))); ((refine tk_ (i := 7) (v := ?_) (y := Or.inl ⟨by rfl, ?_⟩) (h := ?_); rotate_left; (focus (((intro w hSw; (try dsimp only at hSw); go_simp) <;> (try with_reducible rfl)); done)); (try simp only [Act.put, p1_, p2_, p3_]))); ((refine tk_ (i := 8) (v := ?_) (y := Or.inl ⟨by rfl, ?_⟩) (h := ?_); rotate_left; (focus (((intro w hSw; (try dsimp only at hSw); go_simp) <;> (try with_reducible rfl)); done)); (try simp only [Act.put, p1_, p2_, p3_]))); ((refine tk_ (i := 9) (v := ?_) (y := Or.inl ⟨by rfl, ?_⟩) (h := ?_); rotate_left; (focus (((intro w hSw; (try dsimp only at hSw); go_simp) <;> (try with_reducible rfl)); done)); (try simp only [Act.put, p1_, p2_, p3_]))); ((refine tk_ (i := 10) (v := ?_) (y := Or.inl ⟨by rfl, ?_⟩) (h := ?_); rotate_left; (focus (((intro w hSw; (try dsimp only at hSw); go_simp) <;> (try with_reducible rfl)); done)); (try simp only [Act.put, p1_, p2_, p3_]))); ((refine wpAnyH_ready (rs := [11]) (by kernel_rfl) (by simp) ?_; refine AllReadyH.cons (by simp only [e1_, e2_, e3_]; try rfl) (fun K hK => ?_) AllReadyH.nil; go_simp; (go_at_call 142; refine (impl_IsRowOp_swap R i j _ hi hj HIJ.out hR).mono ?_; rintro e w1 ⟨rfl, hb1⟩; (have hW_1 : WB w1 B b R C f g h false A n cap A2 n2 cap2 A3 n3 cap3 := by (with_reducible (repeat (first | exact hW | refine WB.b_ ?_ | refine WB.drew ?_ | refine WB.drewN ?_ _ | refine WB.alloc ?_ _)))); (have hX_1 : Blk w1 w.heap.size 66 #[.int .i64 0, .int .i64 i, .int .i64 j, .int .i64 0] := by (with_reducible (repeat (first | exact hX | refine Blk.below ?_ (by assumption) Ks | apply Blk.drew | apply Blk.drewN | apply Blk.alloc | apply Blk.set_ | apply Blk.far; rotate_left; (simp only [ne_eq]; omega); rotate_right)))); (have hbw_1 : Below B w w1 := by refine Below.trans ?_ (Below.mono hb1 (B' := B) ?_); (first | exact hbw | exact Below.drew hbw); (try simp); omega); (have hsz := hb1.size); (try simp at hsz); clear hb1; clear hW hX hbw; clear c0 c1 c2 c3 c4 c5 c6 c7 c8 c9 cf cl; clear x0 x1 x2 x3; have hW := hW_1; have hX := hX_1; have hbw := hbw_1; clear hW_1 hX_1 hbw_1; obtain ⟨c0, c1, c2, c3, c4, c5, c6, c7, c8, c9, cf, cl⟩ := hW.cells; have x0 := hX.cell 0; have x1 := hX.cell 1; have x2 := hX.cell 2; have x3 := hX.cell 3; simp at x0 x1 x2 x3); (try go_wp2_with fail); refine hK.out _ _ ?_ (fun hHeld => ?_); (focus ((try dsimp only); (go_keep))); clear hK K; (try simp only [Act.put, p1_, p2_, p3_]))); ((refine tk_ (i := 12) (v := ?_) (y := Or.inl ⟨by rfl, ?_⟩) (h := ?_); rotate_left; (focus (((intro w hSw; (try dsimp only at hSw); go_simp) <;> (try with_reducible rfl)); done)); (try simp only [Act.put, p1_, p2_, p3_]))); ((refine tk_ (i := 13) (v := ?_) (y := Or.inl ⟨by rfl, ?_⟩) (h := ?_); rotate_left; (focus (((intro w hSw; (try dsimp only at hSw); go_simp) <;> (try with_reducible rfl)); done)); (try simp only [Act.put, p1_, p2_, p3_]))); ((refine tk_ (i := 14) (v := ?_) (y := Or.inl ⟨by rfl, ?_⟩) (h := ?_); rotate_left; (focus (((intro w hSw; (try dsimp only at hSw); go_simp) <;> (try with_reducible rfl)); done)); (try simp only [Act.put, p1_, p2_, p3_]))); ((refine tk_ (i := 15) (v := ?_) (y := Or.inl ⟨by rfl, ?_⟩) (h := ?_); rotate_left; (focus (((intro w hSw; (try dsimp only at hSw); go_simp) <;> (try with_reducible rfl)); done)); (try simp only [Act.put, p1_, p2_, p3_]))); ((refine tk_ (i := 16) (v := ?_) (y := Or.inl ⟨by rfl, ?_⟩) (h := ?_); rotate_left; (focus (((intro w hSw; (try dsimp only at hSw); go_simp) <;> (try with_reducible rfl)); done)); (try simp only [Act.put, p1_, p2_, p3_]))); ((refine tk_ (i := 17) (v := ?_) (y := Or.inl ⟨by rfl, ?_⟩) (h := ?_); rotate_left; (focus (((intro w hSw; (try dsimp only at hSw); go_simp) <;> (try with_reducible rfl)); done)); (try simp only [Act.put, p1_, p2_, p3_]))); ((refine tk_ (i := 18) (v := ?_) (y := Or.inl ⟨by rfl, ?_⟩) (h := ?_); rotate_left; (focus (((intro w hSw; (try dsimp only at hSw); go_simp) <;> (try with_reducible rfl)); done)); (try simp only [Act.put, p1_, p2_, p3_]))); ((refine tk_ (i := 19) (v := ?_) (y := Or.inl ⟨by rfl, ?_⟩) (h := ?_); rotate_left; (focus (((intro w hSw; (try dsimp only at hSw); go_simp) <;> (try with_reducible rfl)); done)); (try simp only [Act.put, p1_, p2_, p3_]))); ((refine wpAnyH_ready (rs := [20]) (by kernel_rfl) (by simp) ?_; refine AllReadyH.cons (by simp only [e1_, e2_, e3_]; try rfl) (fun K hK => ?_) AllReadyH.nil; go_simp; (go_at_call 165; refine (impl_rowOp_swap R C i j 0 A n cap f _ (B := B) (by have hm := hW.m; (with_reducible (repeat (first | exact hm | refine OR.drew ?_ | refine OR.drewN ?_ _ | refine OR.alloc ?_ _ | refine OR.b_ ?_ | refine OR.l_ ?_)))) hi hj HIJ.out hC0 (by omega) hR).mono ?_; rintro e w2 ⟨rfl, hown2, hgr2, hs2⟩; (have hW_1 := hW.wroteM hown2 hgr2; have hX_1 := hX.grown hgr2 (fun e => HMO.out e.symm); have hbw_1 := hbw.trans (hW.belowM hgr2); clear hown2 hgr2; clear hW hX hbw; clear c0 c1 c2 c3 c4 c5 c6 c7 c8 c9 cf cl; clear x0 x1 x2 x3; have hW := hW_1; have hX := hX_1; have hbw := hbw_1; clear hW_1 hX_1 hbw_1; obtain ⟨c0, c1, c2, c3, c4, c5, c6, c7, c8, c9, cf, cl⟩ := hW.cells; have x0 := hX.cell 0; have x1 := hX.cell 1; have x2 := hX.cell 2; have x3 := hX.cell 3; simp at x0 x1 x2 x3)); (try go_wp2_with fail); refine hK.out _ _ ?_ (fun hHeld => ?_); (focus ((try dsimp only); (go_keep))); clear hK K; (try simp only [Act.put, p1_, p2_, p3_]))); ((refine tk_ (i := 21) (v := ?_) (y := Or.inl ⟨by rfl, ?_⟩) (h := ?_); rotate_left; (focus (((intro w hSw; (try dsimp only at hSw); go_simp) <;> (try with_reducible rfl)); done)); (try simp only [Act.put, p1_, p2_, p3_]))); ((refine tk_ (i := 22) (v := ?_) (y := Or.inl ⟨by rfl, ?_⟩) (h := ?_); rotate_left; (focus (((intro w hSw; (try dsimp only at hSw); go_simp) <;> (try with_reducible rfl)); done)); (try simp only [Act.put, p1_, p2_, p3_]))); ((refine tk_ (i := 23) (v := ?_) (y := Or.inl ⟨by rfl, ?_⟩) (h := ?_); rotate_left; (focus (((intro w hSw; (try dsimp only at hSw); go_simp) <;> (try with_reducible rfl)); done)); (try simp only [Act.put, p1_, p2_, p3_]))); ((refine tk_ (i := 24) (v := ?_) (y := Or.inl ⟨by rfl, ?_⟩) (h := ?_); rotate_left; (focus (((intro w hSw; (try dsimp only at hSw); go_simp) <;> (try with_reducible rfl)); done)); (try simp only [Act.put, p1_, p2_, p3_]))); ((refine tk_ (i := 25) (v := ?_) (y := Or.inl ⟨by rfl, ?_⟩) (h := ?_); rotate_left; (focus (((intro w hSw; (try dsimp only at hSw); go_simp) <;> (try with_reducible rfl)); done)); (try simp only [Act.put, p1_, p2_, p3_]))); ((refine tk_ (i := 26) (v := ?_) (y := Or.inl ⟨by rfl, ?_⟩) (h := ?_); rotate_left; (focus (((intro w hSw; (try dsimp only at hSw); go_simp) <;> (try with_reducible rfl)); done)); (try simp only [Act.put, p1_, p2_, p3_]))); ((refine tk_ (i := 27) (v := ?_) (y := Or.inl ⟨by rfl, ?_⟩) (h := ?_); rotate_left; (focus (((intro w hSw; (try dsimp only at hSw); go_simp) <;> (try with_reducible rfl)); done)); (try simp only [Act.put, p1_, p2_, p3_]))); ((refine tk_ (i := 28) (v := ?_) (y := Or.inl ⟨by rfl, ?_⟩) (h := ?_); rotate_left; (focus (((intro w hSw; (try dsimp only at hSw); go_simp) <;> (try with_reducible rfl)); done)); (try simp only [Act.put, p1_, p2_, p3_]))); ((refine wpAnyH_ready (rs := [29]) (by kernel_rfl) (by simp) ?_; refine AllReadyH.cons (by simp only [e1_, e2_, e3_]; try rfl) (fun K hK => ?_) AllReadyH.nil; go_simp; (go_at_call 165; refine (impl_rowOp_swap R R i j 0 A2 n2 cap2 g _ (B := B) (by have hm := hW.l; (with_reducible (repeat (first | exact hm | refine OR.drew ?_ | refine OR.drewN ?_ _ | refine OR.alloc ?_ _ | refine OR.b_ ?_ | refine OR.l_ ?_)))) hi hj HIJ.out (by omega) (by omega) hR).mono ?_; rintro e w2 ⟨rfl, hown2, hgr2, hs2⟩; (have hW_1 := hW.wroteL hown2 hgr2; have hX_1 := hX.grown hgr2 (fun e => HLO.out e.symm); have hbw_1 := hbw.trans (hW.belowL hgr2); clear hown2 hgr2; clear hW hX hbw; clear c0 c1 c2 c3 c4 c5 c6 c7 c8 c9 cf cl; clear x0 x1 x2 x3; have hW := hW_1; have hX := hX_1; have hbw := hbw_1; clear hW_1 hX_1 hbw_1; obtain ⟨c0, c1, c2, c3, c4, c5, c6, c7, c8, c9, cf, cl⟩ := hW.cells; have x0 := hX.cell 0; have x1 := hX.cell 1; have x2 := hX.cell 2; have x3 := hX.cell 3; simp at x0 x1 x2 x3)); (try go_wp2_with fail); refine hK.out _ _ ?_ (fun hHeld => ?_); (focus ((try dsimp only); (go_keep))); clear hK K; (try simp only [Act.put, p1_, p2_, p3_]))); ((refine tk_ (i := 30) (v := ?_) (y := Or.inl ⟨by rfl, ?_⟩) (h := ?_); rotate_left; (focus (((intro w hSw; (try dsimp only at hSw); go_simp) <;> (try with_reducible rfl)); done)); (try simp only [Act.put, p1_, p2_, p3_]))); ((refine tk_ (i := 31) (v := ?_) (y := Or.inl ⟨by rfl, ?_⟩) (h := ?_); rotate_left; (focus (((intro w hSw; (try dsimp only at hSw); go_simp) <;> (try with_reducible rfl)); done)); (try simp only [Act.put, p1_, p2_, p3_]))); (refine wpAnyH_done (by kernel_rfl) ?_ _))
  go_wp2_with fail
  go_end0
  exact ⟨rfl, hbw, hW.wk⟩
set_option maxRecDepth 100000 in
set_option maxHeartbeats 4000000 in
theorem impl_rows_neg (B b R C i : Nat) (f g h : Fn2) (w : World) (hK : WK w B b R C f g h false) (hi : i < R) (hf : OKF R C f) (hg : OKF R R g) (hC0 : 0 < C) (hC : C ≤ 24) (hR : R ≤ 24) :
    Calls Try.prog 149 #[.pointer (some ⟨b, 0, none⟩), .agg #[.int .i64 1, .int .i64 i, .int .i64 i, .int .i64 0]] w (RWD B b R C (opN f i) (opN g i) h w) := by
  obtain ⟨A, n, cap, A2, n2, cap2, A3, n3, cap3, hW⟩ := hK
  have hBb := hW.hb
  have hbl := hW.lt
  have hbw : Below B w (w.alloc (.cells #[.int .i64 1, .int .i64 i, .int .i64 i, .int .i64 0] 66)) := by
    refine Below.mono (B := w.heap.size) ?_ (by omega)
    (repeat (first | (with_reducible (first | exact Below.refl _ _ | assumption | refine below_drewN ?_ _ | refine Below.drew ?_ | refine Below.alloc ?_ ?_ _ | refine Below.setCell ?_ ?_ _ | refine below_i ?_)) | go_size))
  have HMO : Hid ((Value.slice A n cap).ownBlock ≠ some w.heap.size) := Lib.hid (fun e => by have := (hW.m.own _ e).2; omega)
  have HLO : Hid ((Value.slice A2 n2 cap2).ownBlock ≠ some w.heap.size) := Lib.hid (fun e => by have := (hW.l.own _ e).2; omega)
  have HF := Lib.hid hf
  have HG := Lib.hid hg
  clear hf hg
  obtain ⟨c0, c1, c2, c3, c4, c5, c6, c7, c8, c9, cf, cl⟩ := hW.cells
  have hbe : (b == w.heap.size) = false := by simp; omega
  go_enter Try.func149, Try.ntmps149
  go_wp2_with fail
  have hX : Blk (w.alloc (.cells #[.int .i64 1, .int .i64 i, .int .i64 i, .int .i64 0] 66)) w.heap.size 66 #[.int .i64 1, .int .i64 i, .int .i64 i, .int .i64 0] := Blk.new _ _ _
  have x0 := hX.cell 0; have x1 := hX.cell 1; have x2 := hX.cell 2; have x3 := hX.cell 3; simp at x0 x1 x2 x3
  ((refine wp_region_held_drew (S := (fun w' => w'.cell? ⟨b, 0, none⟩ = some (.int .i64 R) ∧ w'.cell? ⟨b, 1, none⟩ = some (.int .i64 C) ∧ w'.cell? ⟨b, 2, none⟩ = some (.slice A n cap) ∧ w'.cell? ⟨b, 3, none⟩ = some (.int .i64 R) ∧ w'.cell? ⟨b, 4, none⟩ = some (.int .i64 R) ∧ w'.cell? ⟨b, 5, none⟩ = some (.slice A2 n2 cap2) ∧ w'.cell? ⟨b, 9, none⟩ = some (.bool false) ∧ w'.cell? ⟨w.heap.size, 0, none⟩ = some (.int .i64 1) ∧ w'.cell? ⟨w.heap.size, 1, none⟩ = some (.int .i64 i) ∧ w'.cell? ⟨w.heap.size, 2, none⟩ = some (.int .i64 i) ∧ w'.cell? ⟨w.heap.size, 3, none⟩ = some (.int .i64 (0)))) (by kernel_rfl) ?_ (fun hHeld => ?_)); ((focus ((try dsimp only); (go_keep)))); ((refine tk_ (i := 0) (v := ?_) (y := Or.inl ⟨by rfl, ?_⟩) (h := ?_); rotate_left; (focus (((intro w hSw; (try dsimp only at hSw); go_simp) <;> (try with_reducible rfl)); done)); (try simp only [Act.put, p1_, p2_, p3_]))); ((refine tk_ (i := 1) (v := ?_) (y := Or.inl ⟨by rfl, ?_⟩) (h := ?_); rotate_left; (focus (((intro w hSw; (try dsimp only at hSw); go_simp) <;> (try with_reducible rfl)); done)); (try simp only [Act.put, p1_, p2_, p3_]))); ((refine tk_ (i := 2) (v := ?_) (y := Or.inl ⟨by rfl, ?_⟩) (h := ?_); rotate_left; (focus (((intro w hSw; (try dsimp only at hSw); go_simp) <;> (try with_reducible rfl)); done)); (try simp only [Act.put, p1_, p2_, p3_]))); ((refine tk_ (i := 3) (v := ?_) (y := Or.inl ⟨by rfl, ?_⟩) (h := ?_); rotate_left; (focus (((intro w hSw; (try dsimp only at hSw); go_simp) <;> (try with_reducible rfl)); done)); (try simp only [Act.put, p1_, p2_, p3_]))); ((refine tk_ (i := 4) (v := ?_) (y := Or.inl ⟨by rfl, ?_⟩) (h := ?_); rotate_left; (focus (((intro w hSw; (try dsimp only at hSw); go_simp) <;> (try with_reducible rfl)); done)); (try simp only [Act.put, p1_, p2_, p3_]))); ((refine tk_ (i := 5) (v := ?_) (y := Or.inl ⟨by rfl, ?_⟩) (h := ?_); rotate_left; (focus (((intro w hSw; (try dsimp only at hSw); go_simp) <;> (try with_reducible rfl)); done)); (try simp only [Act.put, p1_, p2_, p3_]))); ((refine tk_ (i := 6) (v := ?_) (y := Or.inl ⟨by rfl, ?_⟩) (h := ?_); rotate_left; (focus (((intro w hSw; (try dsimp only at hSw); go_simp) <;> (try with_reducible rfl)); done)); (try simp only [Act.put, p1_, p2_, p3_]))); ((refine tk_ (i := 7) (v := ?_) (y := Or.inl ⟨by rfl, ?_⟩) (h := ?_); rotate_left; (focus (((intro w hSw; (try dsimp only at hSw); go_simp) <;> (try with_reducible rfl)); done)); (try simp only [Act.put, p1_, p2_, p3_]))); ((refine tk_ (i := 8) (v := ?_) (y := Or.inl ⟨by rfl, ?_⟩) (h := ?_); rotate_left; (focus (((intro w hSw; (try dsimp only at hSw); go_simp) <;> (try with_reducible rfl)); done)); (try simp only [Act.put, p1_, p2_, p3_]))); ((refine tk_ (i := 9) (v := ?_) (y := Or.inl ⟨by rfl, ?_⟩) (h := ?_); rotate_left; (focus (((intro w hSw; (try dsimp only at hSw); go_simp) <;> (try with_reducible rfl)); done)); (try simp only [Act.put, p1_, p2_, p3_]))); ((refine tk_ (i := 10) (v := ?_) (y := Or.inl ⟨by rfl, ?_⟩) (h := ?_); rotate_left; (focus (((intro w hSw; (try dsimp only at hSw); go_simp) <;> (try with_reducible rfl)); done)); (try simp only [Act.put, p1_, p2_, p3_]))); ((refine wpAnyH_ready (rs := [11]) (by kernel_rfl) (by simp) ?_; refine AllReadyH.cons (by simp only [e1_, e2_, e3_]; try rfl) (fun K hK => ?_) AllReadyH.nil; go_simp; (go_at_call 142; refine (impl_IsRowOp_neg R i _ hi hR).mono ?_; rintro e w1 ⟨rfl, hb1⟩; (have hW_1 : WB w1 B b R C f g h false A n cap A2 n2 cap2 A3 n3 cap3 := by (with_reducible (repeat (first | exact hW | refine WB.b_ ?_ | refine WB.drew ?_ | refine WB.drewN ?_ _ | refine WB.alloc ?_ _)))); (have hX_1 : Blk w1 w.heap.size 66 #[.int .i64 1, .int .i64 i, .int .i64 i, .int .i64 0] := by (with_reducible (repeat (first | exact hX | refine Blk.below ?_ (by assumption) Ks | apply Blk.drew | apply Blk.drewN | apply Blk.alloc | apply Blk.set_ | apply Blk.far; rotate_left; (simp only [ne_eq]; omega); rotate_right)))); (have hbw_1 : Below B w w1 := by refine Below.trans ?_ (Below.mono hb1 (B' := B) ?_); (first | exact hbw | exact Below.drew hbw); (try simp); omega); (have hsz := hb1.size); (try simp at hsz); clear hb1; clear hW hX hbw; clear c0 c1 c2 c3 c4 c5 c6 c7 c8 c9 cf cl; clear x0 x1 x2 x3; have hW := hW_1; have hX := hX_1; have hbw := hbw_1; clear hW_1 hX_1 hbw_1; obtain ⟨c0, c1, c2, c3, c4, c5, c6, c7, c8, c9, cf, cl⟩ := hW.cells; have x0 := hX.cell 0; have x1 := hX.cell 1; have x2 := hX.cell 2; have x3 := hX.cell 3; simp at x0 x1 x2 x3); (try go_wp2_with fail); refine hK.out _ _ ?_ (fun hHeld => ?_); (focus ((try dsimp only); (go_keep))); clear hK K; (try simp only [Act.put, p1_, p2_, p3_]))); ((refine tk_ (i := 12) (v := ?_) (y := Or.inl ⟨by rfl, ?_⟩) (h := ?_); rotate_left; (focus (((intro w hSw; (try dsimp only at hSw); go_simp) <;> (try with_reducible rfl)); done)); (try simp only [Act.put, p1_, p2_, p3_]))); ((refine tk_ (i := 13) (v := ?_) (y := Or.inl ⟨by rfl, ?_⟩) (h := ?_); rotate_left; (focus (((intro w hSw; (try dsimp only at hSw); go_simp) <;> (try with_reducible rfl)); done)); (try simp only [Act.put, p1_, p2_, p3_]))); ((refine tk_ (i := 14) (v := ?_) (y := Or.inl ⟨by rfl, ?_⟩) (h := ?_); rotate_left; (focus (((intro w hSw; (try dsimp only at hSw); go_simp) <;> (try with_reducible rfl)); done)); (try simp only [Act.put, p1_, p2_, p3_]))); ((refine tk_ (i := 15) (v := ?_) (y := Or.inl ⟨by rfl, ?_⟩) (h := ?_); rotate_left; (focus (((intro w hSw; (try dsimp only at hSw); go_simp) <;> (try with_reducible rfl)); done)); (try simp only [Act.put, p1_, p2_, p3_]))); ((refine tk_ (i := 16) (v := ?_) (y := Or.inl ⟨by rfl, ?_⟩) (h := ?_); rotate_left; (focus (((intro w hSw; (try dsimp only at hSw); go_simp) <;> (try with_reducible rfl)); done)); (try simp only [Act.put, p1_, p2_, p3_]))); ((refine tk_ (i := 17) (v := ?_) (y := Or.inl ⟨by rfl, ?_⟩) (h := ?_); rotate_left; (focus (((intro w hSw; (try dsimp only at hSw); go_simp) <;> (try with_reducible rfl)); done)); (try simp only [Act.put, p1_, p2_, p3_]))); ((refine tk_ (i := 18) (v := ?_) (y := Or.inl ⟨by rfl, ?_⟩) (h := ?_); rotate_left; (focus (((intro w hSw; (try dsimp only at hSw); go_simp) <;> (try with_reducible rfl)); done)); (try simp only [Act.put, p1_, p2_, p3_]))); ((refine tk_ (i := 19) (v := ?_) (y := Or.inl ⟨by rfl, ?_⟩) (h := ?_); rotate_left; (focus (((intro w hSw; (try dsimp only at hSw); go_simp) <;> (try with_reducible rfl)); done)); (try simp only [Act.put, p1_, p2_, p3_]))); ((refine wpAnyH_ready (rs := [20]) (by kernel_rfl) (by simp) ?_; refine AllReadyH.cons (by simp only [e1_, e2_, e3_]; try rfl) (fun K hK => ?_) AllReadyH.nil; go_simp; (go_at_call 165; refine (impl_rowOp_neg R C i 0 A n cap f _ (B := B) (by have hm := hW.m; (with_reducible (repeat (first | exact hm | refine OR.drew ?_ | refine OR.drewN ?_ _ | refine OR.alloc ?_ _ | refine OR.b_ ?_ | refine OR.l_ ?_)))) hi (fun k hk => HF.out i k hi hk) hC0 hC hR).mono ?_; rintro e w2 ⟨rfl, hown2, hgr2, hs2⟩; (have hW_1 := hW.wroteM hown2 hgr2; have hX_1 := hX.grown hgr2 (fun e => HMO.out e.symm); have hbw_1 := hbw.trans (hW.belowM hgr2); clear hown2 hgr2; clear hW hX hbw; clear c0 c1 c2 c3 c4 c5 c6 c7 c8 c9 cf cl; clear x0 x1 x2 x3; have hW := hW_1; have hX := hX_1; have hbw := hbw_1; clear hW_1 hX_1 hbw_1; obtain ⟨c0, c1, c2, c3, c4, c5, c6, c7, c8, c9, cf, cl⟩ := hW.cells; have x0 := hX.cell 0; have x1 := hX.cell 1; have x2 := hX.cell 2; have x3 := hX.cell 3; simp at x0 x1 x2 x3)); (try go_wp2_with fail); refine hK.out _ _ ?_ (fun hHeld => ?_); (focus ((try dsimp only); (go_keep))); clear hK K; (try simp only [Act.put, p1_, p2_, p3_]))); ((refine tk_ (i := 21) (v := ?_) (y := Or.inl ⟨by rfl, ?_⟩) (h := ?_); rotate_left; (focus (((intro w hSw; (try dsimp only at hSw); go_simp) <;> (try with_reducible rfl)); done)); (try simp only [Act.put, p1_, p2_, p3_]))); ((refine tk_ (i := 22) (v := ?_) (y := Or.inl ⟨by rfl, ?_⟩) (h := ?_); rotate_left; (focus (((intro w hSw; (try dsimp only at hSw); go_simp) <;> (try with_reducible rfl)); done)); (try simp only [Act.put, p1_, p2_, p3_]))); ((refine tk_ (i := 23) (v := ?_) (y := Or.inl ⟨by rfl, ?_⟩) (h := ?_); rotate_left; (focus (((intro w hSw; (try dsimp only at hSw); go_simp) <;> (try with_reducible rfl)); done)); (try simp only [Act.put, p1_, p2_, p3_]))); ((refine tk_ (i := 24) (v := ?_) (y := Or.inl ⟨by rfl, ?_⟩) (h := ?_); rotate_left; (focus (((intro w hSw; (try dsimp only at hSw); go_simp) <;> (try with_reducible rfl)); done)); (try simp only [Act.put, p1_, p2_, p3_]))); ((refine tk_ (i := 25) (v := ?_) (y := Or.inl ⟨by rfl, ?_⟩) (h := ?_); rotate_left; (focus (((intro w hSw; (try dsimp only at hSw); go_simp) <;> (try with_reducible rfl)); done)); (try simp only [Act.put, p1_, p2_, p3_]))); ((refine tk_ (i := 26) (v := ?_) (y := Or.inl ⟨by rfl, ?_⟩) (h := ?_); rotate_left; (focus (((intro w hSw; (try dsimp only at hSw); go_simp) <;> (try with_reducible rfl)); done)); (try simp only [Act.put, p1_, p2_, p3_]))); ((refine tk_ (i := 27) (v := ?_) (y := Or.inl ⟨by rfl, ?_⟩) (h := ?_); rotate_left; (focus (((intro w hSw; (try dsimp only at hSw); go_simp) <;> (try with_reducible rfl)); done)); (try simp only [Act.put, p1_, p2_, p3_]))); ((refine tk_ (i := 28) (v := ?_) (y := Or.inl ⟨by rfl, ?_⟩) (h := ?_); rotate_left; (focus (((intro w hSw; (try dsimp only at hSw); go_simp) <;> (try with_reducible rfl)); done)); (try simp only [Act.put, p1_, p2_, p3_]))); ((refine wpAnyH_ready (rs := [29]) (by kernel_rfl) (by simp) ?_; refine AllReadyH.cons (by simp only [e1_, e2_, e3_]; try rfl) (fun K hK => ?_) AllReadyH.nil; go_simp; (go_at_call 165; refine (impl_rowOp_neg R R i 0 A2 n2 cap2 g _ (B := B) (by have hm := hW.l; (with_reducible (repeat (first | exact hm | refine OR.drew ?_ | refine OR.drewN ?_ _ | refine OR.alloc ?_ _ | refine OR.b_ ?_ | refine OR.l_ ?_)))) hi (fun k hk => HG.out i k hi hk) (by omega) (by omega) hR).mono ?_; rintro e w2 ⟨rfl, hown2, hgr2, hs2⟩; (have hW_1 := hW.wroteL hown2 hgr2; have hX_1 := hX.grown hgr2 (fun e => HLO.out e.symm); have hbw_1 := hbw.trans (hW.belowL hgr2); clear hown2 hgr2; clear hW hX hbw; clear c0 c1 c2 c3 c4 c5 c6 c7 c8 c9 cf cl; clear x0 x1 x2 x3; have hW := hW_1; have hX := hX_1; have hbw := hbw_1; clear hW_1 hX_1 hbw_1; obtain ⟨c0, c1, c2, c3, c4, c5, c6, c7, c8, c9, cf, cl⟩ := hW.cells; have x0 := hX.cell 0; have x1 := hX.cell 1; have x2 := hX.cell 2; have x3 := hX.cell 3; simp at x0 x1 x2 x3)); (try go_wp2_with fail); refine hK.out _ _ ?_ (fun hHeld => ?_); (focus ((try dsimp only); (go_keep))); clear hK K; (try simp only [Act.put, p1_, p2_, p3_]))); ((refine tk_ (i := 30) (v := ?_) (y := Or.inl ⟨by rfl, ?_⟩) (h := ?_); rotate_left; (focus (((intro w hSw; (try dsimp only at hSw); go_simp) <;> (try with_reducible rfl)); done)); (try simp only [Act.put, p1_, p2_, p3_]))); ((refine tk_ (i := 31) (v := ?_) (y := Or.inl ⟨by rfl, ?_⟩) (h := ?_); rotate_left; (focus (((intro w hSw; (try dsimp only at hSw); go_simp) <;> (try with_reducible rfl)); done)); (try simp only [Act.put, p1_, p2_, p3_]))); (refine wpAnyH_done (by kernel_rfl) ?_ _))
  go_wp2_with fail
  go_end0
  exact ⟨rfl, hbw, hW.wk⟩
set_option maxRecDepth 100000 in
theorem impl_add (B b R C i j : Nat) (f g h : Fn2) (t : Int) (w : World) (hK : WK w B b R C f g h false) (hi : i < R) (hj : j < R) (hij : i ≠ j) (ht : Num t) (hf : OKF R C f) (hg : OKF R R g) (hC0 : 0 < C) (hC : C ≤ 24) (hR : R ≤ 24) :
    Calls Try.prog 148 #[.pointer (some ⟨b, 0, none⟩), .int .i64 i, .int .i64 j, .int .i64 t] w (RWA B b R C f g h i j t w) := by
  go_enter Try.func148, Try.ntmps148
  go_wp2_with fail
  refine (impl_rows_add B b R C i j f g h t _ hK hi hj hij ht hf hg hC0 hC hR).mono ?_
  rintro e w1 ⟨rfl, h1, h2⟩
  go_wp2_with fail
  go_end0
  exact ⟨rfl, h1, h2⟩
end Go.Proofs.Ytacjonkehcamgaa

/-
  DERIVED. Operations on columns in a work.
-/
namespace Go.Proofs.Ytacjonkehcamgaa
open Go.RowKit
set_option linter.unusedVariables false
set_option linter.unusedSimpArgs false
theorem isMat_tbO {R C : Nat} {f : Fn2} (h : OKF R C f) (hR : R ≤ 24) (hC : C ≤ 24) : isMat (R : Int) (C : Int) (tb R C f) = true := by
  refine isMat_iff.2 ⟨by omega, by omega, by omega, by omega, by rw [tb_len, Int.natCast_mul], ?_⟩
  rw [List.all_eq_true]
  exact tb_mem (P := fun x => isNum x = true) fun i j hi hj => (h i j hi hj).isN
theorem impl_Transpose_tb (R C : Nat) (A : Option Addr) (n cap : Nat) (f : Fn2) (w : World) {B : Nat} (h : RI w B A n (tb R C f)) (hB : B ≤ w.heap.size) (hf : OKF R C f) (hR : R ≤ 24) (hC : C ≤ 24) :
    Calls Try.prog 63 #[.agg #[.int .i64 R, .int .i64 C, .slice A n cap]] w (MBR ⟨C, R, tb C R (tp f)⟩ true w) := by
  have hl := h.len
  rw [tb_len] at hl
  have h2 := impl_TransposeOf R C A n cap (tb R C f) w h hB (by have := Nat.mul_le_mul hR hC; omega)
  have hv : trM (R : Int) (C : Int) (tb R C f) = ⟨C, R, tb C R (tp f)⟩ := by
    unfold trM
    rw [isMat_tbO hf hR hC]
    simp only [if_true, Int.toNat_natCast]
    congr 1
    exact tb_ext fun a b ha hb => cel_tb hb ha
  rw [hv, isMat_tbO hf hR hC] at h2
  exact h2
section
variable {w w' w2 : World} {B b R C n cap n2 cap2 n3 cap3 m k : Nat} {f g h : Fn2} {bd : Bool} {A A2 A3 M : Option Addr}
theorem WB.putM {f' : Fn2} (k5 : WB w B b R C f g h bd A n cap A2 n2 cap2 A3 n3 cap3) (hb : Below w.heap.size w w') (ho : OR w' w.heap.size (.slice M m k) (tb R C f')) :
    WB (((w'.setCell ⟨b, 0, none⟩ (.int .i64 R)).setCell ⟨b, 1, none⟩ (.int .i64 C)).setCell ⟨b, 2, none⟩ (.slice M m k)) B b R C f' g h bd M m k A2 n2 cap2 A3 n3 cap3 := by
  have k6 := k5.below hb (Nat.le_refl _)
  have hlt := k5.lt
  have hBb := k5.hb
  have hme : (Value.slice M m k).ownBlock ≠ some b := fun e => by have := (ho.own _ e).1; omega
  have ho2 := ho.mono (B' := B) (by omega)
  refine ⟨(((k6.blk.set_ 0 _).set_ 1 _).set_ 2 _).as rfl, k5.hb, ((ho2.far hme _).far hme _).far hme _, ((k6.l.far k6.lb _).far k6.lb _).far k6.lb _, ((k6.r.far k6.rb _).far k6.rb _).far k6.rb _, fun g h1 h2 => ?_, fun g h1 h2 => ?_, k6.lr, hme, k6.lb, k6.rb⟩
  · have := (ho.own _ h1).1; have := (k5.l.own _ h2).2; omega
  · have := (ho.own _ h1).1; have := (k5.r.own _ h2).2; omega
theorem WB.putR {h' : Fn2} (k5 : WB w B b R C f g h bd A n cap A2 n2 cap2 A3 n3 cap3) (hb : Below w.heap.size w w') (ho : OR w' w.heap.size (.slice M m k) (tb C C h')) :
    WB (((w'.setCell ⟨b, 6, none⟩ (.int .i64 C)).setCell ⟨b, 7, none⟩ (.int .i64 C)).setCell ⟨b, 8, none⟩ (.slice M m k)) B b R C f g h' bd A n cap A2 n2 cap2 M m k := by
  have k6 := k5.below hb (Nat.le_refl _)
  have hlt := k5.lt
  have hBb := k5.hb
  have hme : (Value.slice M m k).ownBlock ≠ some b := fun e => by have := (ho.own _ e).1; omega
  have ho2 := ho.mono (B' := B) (by omega)
  refine ⟨(((k6.blk.set_ 6 _).set_ 7 _).set_ 8 _).as rfl, k5.hb, ((k6.m.far k6.mb _).far k6.mb _).far k6.mb _, ((k6.l.far k6.lb _).far k6.lb _).far k6.lb _, ((ho2.far hme _).far hme _).far hme _, k6.ml, fun g h1 h2 => ?_, fun g h1 h2 => ?_, k6.mb, k6.lb, hme⟩
  · have := (ho.own _ h2).1; have := (k5.m.own _ h1).2; omega
  · have := (ho.own _ h2).1; have := (k5.l.own _ h1).2; omega
theorem below_put3 {b0 b1 b2 : Nat} {u0 u1 u2 : Value} (h : Below B w2 w') (hb : B ≤ b) : Below B w2 (((w'.setCell ⟨b, b0, none⟩ u0).setCell ⟨b, b1, none⟩ u1).setCell ⟨b, b2, none⟩ u2) :=
  ((h.trans (below_set_at hb)).trans (below_set_at hb)).trans (below_set_at hb)
end
/-- A sum of columns as it goes in both. -/
def okC (R C : Nat) (f h : Fn2) (i j : Nat) (t : Int) : Prop := OKF C R (opA (tp f) i j t) ∧ OKF C C (opA (tp h) i j t)
def CWA (B b R C : Nat) (f g h : Fn2) (i j : Nat) (t : Int) (w : World) (e : Ending) (w' : World) : Prop :=
  e = .returned (.tuple #[]) ∧ Below B w w' ∧ ((okC R C f h i j t ∧ WK w' B b R C (tp (opA (tp f) i j t)) g (tp (opA (tp h) i j t)) false) ∨ (¬ okC R C f h i j t ∧ ∃ f' g' h', WK w' B b R C f' g' h' true))
set_option maxRecDepth 100000 in
set_option maxHeartbeats 8000000 in
theorem impl_cols_swap (B b R C i j : Nat) (f g h : Fn2) (w : World) (hK : WK w B b R C f g h false) (hi : i < C) (hj : j < C) (hij : i ≠ j) (hf : OKF R C f) (hh : OKF C C h) (hR0 : 0 < R) (hC : C ≤ 24) (hR : R ≤ 24) :
    Calls Try.prog 215 #[.pointer (some ⟨b, 0, none⟩), .agg #[.int .i64 0, .int .i64 i, .int .i64 j, .int .i64 0]] w (RWD B b R C (tp (swF (tp f) i j)) g (tp (swF (tp h) i j)) w) := by
  obtain ⟨A, n, cap, A2, n2, cap2, A3, n3, cap3, hWw⟩ := hK
  have hBb := hWw.hb
  have hbl := hWw.lt
  have HIJ := Lib.hid hij
  have HF := Lib.hid hf
  have HH := Lib.hid hh
  clear hij hf hh
  go_enter Try.func215, Try.ntmps215
  go_wp2_with fail
  obtain ⟨xs, HXS⟩ : ∃ v : Array Value, Hid (v = #[.int .i64 0, .int .i64 i, .int .i64 j, .int .i64 0]) := ⟨_, Lib.hid rfl⟩
  obtain ⟨xb, hxb0⟩ : ∃ q, q = w.heap.size := ⟨_, rfl⟩
  have hX : Blk (w.alloc (.cells #[.int .i64 0, .int .i64 i, .int .i64 j, .int .i64 0] 66)) xb 66 #[.int .i64 0, .int .i64 i, .int .i64 j, .int .i64 0] := by rw [hxb0]; exact Blk.new _ _ _
  have hW := hWw.alloc (.cells #[.int .i64 0, .int .i64 i, .int .i64 j, .int .i64 0] 66)
  have HBW : Hid (Below B w (w.alloc (.cells #[.int .i64 0, .int .i64 i, .int .i64 j, .int .i64 0] 66))) := Lib.hid (Below.mono (B := w.heap.size) Kw (by omega))
  have hbe : ¬ b = xb := by omega
  have hbe2 : ¬ xb = b := by omega
  have hxw : xb < (w.alloc (.cells #[.int .i64 0, .int .i64 i, .int .i64 j, .int .i64 0] 66)).heap.size := by simp; omega
  rw [← hxb0]
  generalize w.alloc (.cells #[.int .i64 0, .int .i64 i, .int .i64 j, .int .i64 0] 66) = w0 at *
  have hxb := hxw
  clear hxb0 hWw hxw
  have HW0 := Lib.hid hW
  have HX0 : Hid (Blk w0 xb 66 xs) := Lib.hid (by rw [HXS.out]; exact hX)
  have hBw : B ≤ w0.heap.size := by have := hW.lt; omega
  have hbd : Below w0.heap.size w0 w0 := Below.refl _ _
  obtain ⟨c0, c1, c2, c3, c4, c5, c6, c7, c8, c9, cf, cl⟩ := hW.cells; have x0 := hX.cell 0; have x1 := hX.cell 1; have x2 := hX.cell 2; have x3 := hX.cell 3; simp at x0 x1 x2 x3
  ((refine wp_region_held_drew (S := (fun w' => w'.cell? ⟨b, 1, none⟩ = some (.int .i64 C) ∧ w'.cell? ⟨b, 9, none⟩ = some (.bool false) ∧ w'.cell? ⟨xb, 0, none⟩ = some (.int .i64 0) ∧ w'.cell? ⟨xb, 1, none⟩ = some (.int .i64 i) ∧ w'.cell? ⟨xb, 2, none⟩ = some (.int .i64 j) ∧ w'.cell? ⟨xb, 3, none⟩ = some (.int .i64 (0)))) (by kernel_rfl) ?_ (fun hHeld => ?_)); ((focus ((try dsimp only); (go_keep)))); ((refine tk_ (i := 0) (v := ?_) (y := Or.inl ⟨by rfl, ?_⟩) (h := ?_); rotate_left; (focus (((intro w hSw; (try dsimp only at hSw); go_simp) <;> (try with_reducible rfl)); done)); (try simp only [Act.put, p1_, p2_, p3_]))); ((refine tk_ (i := 1) (v := ?_) (y := Or.inl ⟨by rfl, ?_⟩) (h := ?_); rotate_left; (focus (((intro w hSw; (try dsimp only at hSw); go_simp) <;> (try with_reducible rfl)); done)); (try simp only [Act.put, p1_, p2_, p3_]))); ((refine tk_ (i := 2) (v := ?_) (y := Or.inl ⟨by rfl, ?_⟩) (h := ?_); rotate_left; (focus (((intro w hSw; (try dsimp only at hSw); go_simp) <;> (try with_reducible rfl)); done)); (try simp only [Act.put, p1_, p2_, p3_]))); ((refine tk_ (i := 3) (v := ?_) (y := Or.inl ⟨by rfl, ?_⟩) (h := ?_); rotate_left; (focus (((intro w hSw; (try dsimp only at hSw); go_simp) <;> (try with_reducible rfl)); done)); (try simp only [Act.put, p1_, p2_, p3_]))); ((refine tk_ (i := 4) (v := ?_) (y := Or.inl ⟨by rfl, ?_⟩) (h := ?_); rotate_left; (focus (((intro w hSw; (try dsimp only at hSw); go_simp) <;> (try with_reducible rfl)); done)); (try simp only [Act.put, p1_, p2_, p3_]))); ((refine tk_ (i := 5) (v := ?_) (y := Or.inl ⟨by rfl, ?_⟩) (h := ?_); rotate_left; (focus (((intro w hSw; (try dsimp only at hSw); go_simp) <;> (try with_reducible rfl)); done)); (try simp only [Act.put, p1_, p2_, p3_]))); ((refine tk_ (i := 6) (v := ?_) (y := Or.inl ⟨by rfl, ?_⟩) (h := ?_); rotate_left; (focus (((intro w hSw; (try dsimp only at hSw); go_simp) <;> (try with_reducible rfl)); done)); (try simp only [Act.put, p1_, p2_, p3_]))); ((refine tk_ (i := 7) (v := ?_) (y := Or.inl ⟨by rfl, ?_⟩) (h := ?_); rotate_left; (focus (((intro w hSw; (try dsimp only at hSw); go_simp) <;> (try with_reducible rfl)); done)); (try simp only [Act.put, p1_, p2_, p3_]))); ((refine tk_ (i := 8) (v := ?_) (y := Or.inl ⟨by rfl, ?_⟩) (h := ?_); rotate_left; (focus (((intro w hSw; (try dsimp only at hSw); go_simp) <;> (try with_reducible rfl)); done)); (try simp only [Act.put, p1_, p2_, p3_]))); ((refine tk_ (i := 9) (v := ?_) (y := Or.inl ⟨by rfl, ?_⟩) (h := ?_); rotate_left; (focus (((intro w hSw; (try dsimp only at hSw); go_simp) <;> (try with_reducible rfl)); done)); (try simp only [Act.put, p1_, p2_, p3_]))); ((refine tk_ (i := 10) (v := ?_) (y := Or.inl ⟨by rfl, ?_⟩) (h := ?_); rotate_left; (focus (((intro w hSw; (try dsimp only at hSw); go_simp) <;> (try with_reducible rfl)); done)); (try simp only [Act.put, p1_, p2_, p3_]))); ((refine wpAnyH_ready (rs := [11]) (by kernel_rfl) (by simp) ?_; refine AllReadyH.cons (by simp only [e1_, e2_, e3_]; try rfl) (fun K hK => ?_) AllReadyH.nil; go_simp; (go_at_call 142; refine (impl_IsRowOp_swap C i j _ hi hj HIJ.out hC).mono ?_; rintro e w1 ⟨rfl, hb1⟩; (have hsz := hb1.size); (try simp at hsz); (have hsd := hbd.size); (have hbd_1 : Below w0.heap.size w0 w1 := Kw); (have hW_1 : WB w1 B b R C f g h false A n cap A2 n2 cap2 A3 n3 cap3 := HW0.out.below hbd_1 (Nat.le_refl _)); (have hX_1 : Blk w1 xb 66 xs := HX0.out.below hbd_1 hxb); clear c0 c1 c2 c3 c4 c5 c6 c7 c8 c9 cf cl x0 x1 x2 x3; clear hW hX hbd; (have hW := hW_1); (have hX := hX_1); (have hbd := hbd_1); clear hW_1 hX_1 hbd_1; rw [HXS.out] at hX; obtain ⟨c0, c1, c2, c3, c4, c5, c6, c7, c8, c9, cf, cl⟩ := hW.cells; have x0 := hX.cell 0; have x1 := hX.cell 1; have x2 := hX.cell 2; have x3 := hX.cell 3; simp at x0 x1 x2 x3); (try go_wp2_with fail); refine hK.out _ _ ?_ (fun hHeld => ?_); (focus ((try dsimp only); (go_keep))); clear hK K; (try simp only [Act.put, p1_, p2_, p3_]))); ((refine tk_ (i := 12) (v := ?_) (y := Or.inl ⟨by rfl, ?_⟩) (h := ?_); rotate_left; (focus (((intro w hSw; (try dsimp only at hSw); go_simp) <;> (try with_reducible rfl)); done)); (try simp only [Act.put, p1_, p2_, p3_]))); ((refine tk_ (i := 13) (v := ?_) (y := Or.inl ⟨by rfl, ?_⟩) (h := ?_); rotate_left; (focus (((intro w hSw; (try dsimp only at hSw); go_simp) <;> (try with_reducible rfl)); done)); (try simp only [Act.put, p1_, p2_, p3_]))); (refine wpAnyH_done (by kernel_rfl) ?_ _))
  go_wp2_with fail
  refine (impl_Transpose_tb R C A n cap f _ hW.m.reads (Nat.le_refl _) HF.out hR hC).mono ?_
  rintro e w2 ⟨Aa, na, ca, rfl, hoa, hb2⟩
  have hs1 := hbd.size
  have hs2 := hb2.size
  have hUa : Own (.slice Aa na ca) w1.heap.size w2.heap.size := hoa.own
  have hbd_1 : Below w0.heap.size w0 w2 := Kw
  (have hW_1 : WB w2 B b R C f g h false A n cap A2 n2 cap2 A3 n3 cap3 := HW0.out.below hbd_1 (Nat.le_refl _)); (have hX_1 : Blk w2 xb 66 xs := HX0.out.below hbd_1 hxb); clear c0 c1 c2 c3 c4 c5 c6 c7 c8 c9 cf cl x0 x1 x2 x3; clear hW hX hbd; (have hW := hW_1); (have hX := hX_1); (have hbd := hbd_1); clear hW_1 hX_1 hbd_1; rw [HXS.out] at hX; obtain ⟨c0, c1, c2, c3, c4, c5, c6, c7, c8, c9, cf, cl⟩ := hW.cells; have x0 := hX.cell 0; have x1 := hX.cell 1; have x2 := hX.cell 2; have x3 := hX.cell 3; simp at x0 x1 x2 x3
  go_wp2_with fail
  refine (impl_Transpose_tb C C A3 n3 cap3 h _ (hW.r.alloc _).reads (Nat.le_refl _) HH.out hC hC).mono ?_
  rintro e w3 ⟨Ab, nb, cb, rfl, hob, hb3⟩
  have hs3 := hb3.size
  simp at hs3
  have hUb : Own (.slice Ab nb cb) (w2.heap.size + 1) w3.heap.size := by have := hob.own; simpa using this
  have hAx : BM w3 w2.heap.size C R Aa na ca := Ka
  have hoa3 : OR w3 w1.heap.size (.slice Aa na ca) (tb C R (tp f)) := Ko hoa
  have hob3 : OR w3 (w2.heap.size + 1) (.slice Ab nb cb) (tb C C (tp h)) := by simpa using hob
  have hbd_1 : Below w0.heap.size w0 w3 := Kw
  (have hW_1 : WB w3 B b R C f g h false A n cap A2 n2 cap2 A3 n3 cap3 := HW0.out.below hbd_1 (Nat.le_refl _)); (have hX_1 : Blk w3 xb 66 xs := HX0.out.below hbd_1 hxb); clear c0 c1 c2 c3 c4 c5 c6 c7 c8 c9 cf cl x0 x1 x2 x3; clear hW hX hbd; (have hW := hW_1); (have hX := hX_1); (have hbd := hbd_1); clear hW_1 hX_1 hbd_1; rw [HXS.out] at hX; obtain ⟨c0, c1, c2, c3, c4, c5, c6, c7, c8, c9, cf, cl⟩ := hW.cells; have x0 := hX.cell 0; have x1 := hX.cell 1; have x2 := hX.cell 2; have x3 := hX.cell 3; simp at x0 x1 x2 x3
  obtain ⟨aa, ab, ac, af, al⟩ := hAx.mx
  clear hoa hob hb2 hb3
  have hx3 : xb < w3.heap.size := by have := hbd.size; omega
  go_wp2_with fail
  have hBx : BM (w3.alloc (.cells #[.int .i64 C, .int .i64 C, .slice Ab nb cb] 26)) w3.heap.size C C Ab nb cb := Ka
  refine (impl_rowOp_swap C R i j 0 Aa na ca (tp f) _ (B := w1.heap.size) (Ko hoa3) hi hj HIJ.out hR0 (by omega) hC).mono ?_
  rintro e w4 ⟨rfl, hoa4, hgr4, hs4⟩
  simp at hs4; have hAx4 : BM w4 w2.heap.size C R Aa na ca := BX.keptOwn (Kb hAx) hgr4 hUa (.inr (Nat.le_refl _)); have hBx4 : BM w4 w3.heap.size C C Ab nb cb := BX.keptOwn hBx hgr4 hUa (.inr (by omega)); have hob4 : OR w4 (w2.heap.size + 1) (.slice Ab nb cb) (tb C C (tp h)) := OR.keptOwn (Ko hob3) hgr4 hUb hUa (.inr (by omega)); have hbd_1 : Below w0.heap.size w0 w4 := Below.trans Kw (below_keptOwn hgr4 hUa hs1 Ks); clear hgr4 hAx hoa3 hob3 hBx aa ab ac af al; (have hW_1 : WB w4 B b R C f g h false A n cap A2 n2 cap2 A3 n3 cap3 := HW0.out.below hbd_1 (Nat.le_refl _)); (have hX_1 : Blk w4 xb 66 xs := HX0.out.below hbd_1 hxb); clear c0 c1 c2 c3 c4 c5 c6 c7 c8 c9 cf cl x0 x1 x2 x3; clear hW hX hbd; (have hW := hW_1); (have hX := hX_1); (have hbd := hbd_1); clear hW_1 hX_1 hbd_1; rw [HXS.out] at hX; obtain ⟨c0, c1, c2, c3, c4, c5, c6, c7, c8, c9, cf, cl⟩ := hW.cells; have x0 := hX.cell 0; have x1 := hX.cell 1; have x2 := hX.cell 2; have x3 := hX.cell 3; simp at x0 x1 x2 x3; obtain ⟨aa, ab, ac, af, al⟩ := hAx4.mx; obtain ⟨ba, bb, bc, bf, bl⟩ := hBx4.mx
  go_wp2_with fail
  refine (impl_rowOp_swap C C i j 0 Ab nb cb (tp h) _ (B := w2.heap.size + 1) (Ko hob4) hi hj HIJ.out (by omega) (by omega) hC).mono ?_
  rintro e w5 ⟨rfl, hob5, hgr5, hs5⟩
  have hAx5 : BM w5 w2.heap.size C R Aa na ca := BX.keptOwn hAx4 hgr5 hUb (.inl (by omega)); have hBx5 : BM w5 w3.heap.size C C Ab nb cb := BX.keptOwn hBx4 hgr5 hUb (.inr (Nat.le_refl _)); have hoa5 := OR.keptOwn hoa4 hgr5 hUa hUb (.inl (by omega)); have hbd_1 : Below w0.heap.size w0 w5 := Below.trans hbd (below_keptOwn hgr5 hUb (by omega) Ks); clear hgr5 hAx4 hoa4 hob4 hBx4 aa ab ac af al ba bb bc bf bl; (have hW_1 : WB w5 B b R C f g h false A n cap A2 n2 cap2 A3 n3 cap3 := HW0.out.below hbd_1 (Nat.le_refl _)); (have hX_1 : Blk w5 xb 66 xs := HX0.out.below hbd_1 hxb); clear c0 c1 c2 c3 c4 c5 c6 c7 c8 c9 cf cl x0 x1 x2 x3; clear hW hX hbd; (have hW := hW_1); (have hX := hX_1); (have hbd := hbd_1); clear hW_1 hX_1 hbd_1; rw [HXS.out] at hX; obtain ⟨c0, c1, c2, c3, c4, c5, c6, c7, c8, c9, cf, cl⟩ := hW.cells; have x0 := hX.cell 0; have x1 := hX.cell 1; have x2 := hX.cell 2; have x3 := hX.cell 3; simp at x0 x1 x2 x3; obtain ⟨aa, ab, ac, af, al⟩ := hAx5.mx; obtain ⟨ba, bb, bc, bf, bl⟩ := hBx5.mx
  go_wp2_with fail
  refine (impl_Transpose_tb C R Aa na ca (swF (tp f) i j) _ hoa5.reads (Nat.le_refl _) (swF_ok (tp_ok HF.out) hi hj) hC hR).mono ?_
  rintro e w6 ⟨Am, nm, cm, rfl, hom, hb6⟩
  have hs6 := hb6.size
  have hW5 := hW
  have hbw0 := HW0.out.lt
  have hsd5 := hbd.size
  have hbx : ¬ w3.heap.size = b := by omega
  have hbx2 : ¬ b = w3.heap.size := by omega
  have hBx7 : BM w6 w3.heap.size C C Ab nb cb := Kb hBx5
  have hob7 : OR w6 (w2.heap.size + 1) (.slice Ab nb cb) (tb C C (swF (tp h) i j)) := Ko hob5
  have hbd_1 : Below w0.heap.size w0 w6 := Kw
  have HB7 := Lib.hid (below_put3 (b := b) (b0 := 0) (b1 := 1) (b2 := 2) (u0 := .int .i64 R) (u1 := .int .i64 C) (u2 := .slice Am nm cm) (hbd_1.mono hBw) hBb)
  (have hW_1 : WB w6 B b R C f g h false A n cap A2 n2 cap2 A3 n3 cap3 := HW0.out.below hbd_1 (Nat.le_refl _)); (have hX_1 : Blk w6 xb 66 xs := HX0.out.below hbd_1 hxb); clear c0 c1 c2 c3 c4 c5 c6 c7 c8 c9 cf cl x0 x1 x2 x3; clear hW hX hbd; (have hW := hW_1); (have hX := hX_1); (have hbd := hbd_1); clear hW_1 hX_1 hbd_1; rw [HXS.out] at hX; obtain ⟨c0, c1, c2, c3, c4, c5, c6, c7, c8, c9, cf, cl⟩ := hW.cells; have x0 := hX.cell 0; have x1 := hX.cell 1; have x2 := hX.cell 2; have x3 := hX.cell 3; simp at x0 x1 x2 x3
  clear aa ab ac af al ba bb bc bf bl
  obtain ⟨ba, bb, bc, bf, bl⟩ := hBx7.mx
  go_wp2_with fail
  refine (impl_Transpose_tb C C Ab nb cb (swF (tp h) i j) _ (OR.reads (OR.low (OR.low (OR.low hob7 (by simp; omega) _) (by simp; omega) _) (by simp; omega) _)) (Nat.le_refl _) (swF_ok (tp_ok HH.out) hi hj) hC hC).mono ?_
  rintro e w8 ⟨Ar, nr, cr, rfl, hor, hb8⟩
  have hW7 := hW5.putM hb6 hom
  have hs8 := hb8.size
  have hW8 := hW7.below hb8 (Nat.le_refl _)
  have hW9 := hW7.putR hb8 hor
  have HB8 := Lib.hid (HB7.out.trans (Below.mono hb8 (by have := hW7.lt; have := hW7.hb; omega)))
  clear c0 c1 c2 c3 c4 c5 c6 c7 c8 c9 cf cl x0 x1 x2 x3
  clear hW hW5 hW7 hX hbd hb8 hor hb6 hom ba bb bc bf bl hBx7 hob7 hBx5 hob5 hAx5 hoa5
  have HB9 := Lib.hid (below_put3 (b := b) (b0 := 6) (b1 := 7) (b2 := 8) (u0 := .int .i64 C) (u1 := .int .i64 C) (u2 := .slice Ar nr cr) HB8.out hBb)
  obtain ⟨c0, c1, c2, c3, c4, c5, c6, c7, c8, c9, cf, cl⟩ := hW8.cells
  go_wp2_with fail
  go_end0
  exact ⟨rfl, HBW.out.trans HB9.out, hW9.wk⟩
set_option maxRecDepth 100000 in
set_option maxHeartbeats 8000000 in
theorem impl_cols_add (B b R C i j : Nat) (f g h : Fn2) (t : Int) (w : World) (hK : WK w B b R C f g h false) (hi : i < C) (hj : j < C) (hij : i ≠ j) (ht : Num t) (hf : OKF R C f) (hh : OKF C C h) (hR0 : 0 < R) (hC : C ≤ 24) (hR : R ≤ 24) :
    Calls Try.prog 215 #[.pointer (some ⟨b, 0, none⟩), .agg #[.int .i64 2, .int .i64 i, .int .i64 j, .int .i64 t]] w (CWA B b R C f g h i j t w) := by
  have HT := Lib.hid ht
  clear ht
  obtain ⟨A, n, cap, A2, n2, cap2, A3, n3, cap3, hWw⟩ := hK
  have hBb := hWw.hb
  have hbl := hWw.lt
  have HIJ := Lib.hid hij
  have HF := Lib.hid hf
  have HH := Lib.hid hh
  clear hij hf hh
  go_enter Try.func215, Try.ntmps215
  go_wp2_with fail
  obtain ⟨xs, HXS⟩ : ∃ v : Array Value, Hid (v = #[.int .i64 2, .int .i64 i, .int .i64 j, .int .i64 t]) := ⟨_, Lib.hid rfl⟩
  obtain ⟨xb, hxb0⟩ : ∃ q, q = w.heap.size := ⟨_, rfl⟩
  have hX : Blk (w.alloc (.cells #[.int .i64 2, .int .i64 i, .int .i64 j, .int .i64 t] 66)) xb 66 #[.int .i64 2, .int .i64 i, .int .i64 j, .int .i64 t] := by rw [hxb0]; exact Blk.new _ _ _
  have hW := hWw.alloc (.cells #[.int .i64 2, .int .i64 i, .int .i64 j, .int .i64 t] 66)
  have HBW : Hid (Below B w (w.alloc (.cells #[.int .i64 2, .int .i64 i, .int .i64 j, .int .i64 t] 66))) := Lib.hid (Below.mono (B := w.heap.size) Kw (by omega))
  have hbe : ¬ b = xb := by omega
  have hbe2 : ¬ xb = b := by omega
  have hxw : xb < (w.alloc (.cells #[.int .i64 2, .int .i64 i, .int .i64 j, .int .i64 t] 66)).heap.size := by simp; omega
  rw [← hxb0]
  generalize w.alloc (.cells #[.int .i64 2, .int .i64 i, .int .i64 j, .int .i64 t] 66) = w0 at *
  have hxb := hxw
  clear hxb0 hWw hxw
  have HW0 := Lib.hid hW
  have HX0 : Hid (Blk w0 xb 66 xs) := Lib.hid (by rw [HXS.out]; exact hX)
  have hBw : B ≤ w0.heap.size := by have := hW.lt; omega
  have hbd : Below w0.heap.size w0 w0 := Below.refl _ _
  obtain ⟨c0, c1, c2, c3, c4, c5, c6, c7, c8, c9, cf, cl⟩ := hW.cells; have x0 := hX.cell 0; have x1 := hX.cell 1; have x2 := hX.cell 2; have x3 := hX.cell 3; simp at x0 x1 x2 x3
  ((refine wp_region_held_drew (S := (fun w' => w'.cell? ⟨b, 1, none⟩ = some (.int .i64 C) ∧ w'.cell? ⟨b, 9, none⟩ = some (.bool false) ∧ w'.cell? ⟨xb, 0, none⟩ = some (.int .i64 2) ∧ w'.cell? ⟨xb, 1, none⟩ = some (.int .i64 i) ∧ w'.cell? ⟨xb, 2, none⟩ = some (.int .i64 j) ∧ w'.cell? ⟨xb, 3, none⟩ = some (.int .i64 t))) (by kernel_rfl) ?_ (fun hHeld => ?_)); ((focus ((try dsimp only); (go_keep)))); ((refine tk_ (i := 0) (v := ?_) (y := Or.inl ⟨by rfl, ?_⟩) (h := ?_); rotate_left; (focus (((intro w hSw; (try dsimp only at hSw); go_simp) <;> (try with_reducible rfl)); done)); (try simp only [Act.put, p1_, p2_, p3_]))); ((refine tk_ (i := 1) (v := ?_) (y := Or.inl ⟨by rfl, ?_⟩) (h := ?_); rotate_left; (focus (((intro w hSw; (try dsimp only at hSw); go_simp) <;> (try with_reducible rfl)); done)); (try simp only [Act.put, p1_, p2_, p3_]))); ((refine tk_ (i := 2) (v := ?_) (y := Or.inl ⟨by rfl, ?_⟩) (h := ?_); rotate_left; (focus (((intro w hSw; (try dsimp only at hSw); go_simp) <;> (try with_reducible rfl)); done)); (try simp only [Act.put, p1_, p2_, p3_]))); ((refine tk_ (i := 3) (v := ?_) (y := Or.inl ⟨by rfl, ?_⟩) (h := ?_); rotate_left; (focus (((intro w hSw; (try dsimp only at hSw); go_simp) <;> (try with_reducible rfl)); done)); (try simp only [Act.put, p1_, p2_, p3_]))); ((refine tk_ (i := 4) (v := ?_) (y := Or.inl ⟨by rfl, ?_⟩) (h := ?_); rotate_left; (focus (((intro w hSw; (try dsimp only at hSw); go_simp) <;> (try with_reducible rfl)); done)); (try simp only [Act.put, p1_, p2_, p3_]))); ((refine tk_ (i := 5) (v := ?_) (y := Or.inl ⟨by rfl, ?_⟩) (h := ?_); rotate_left; (focus (((intro w hSw; (try dsimp only at hSw); go_simp) <;> (try with_reducible rfl)); done)); (try simp only [Act.put, p1_, p2_, p3_]))); ((refine tk_ (i := 6) (v := ?_) (y := Or.inl ⟨by rfl, ?_⟩) (h := ?_); rotate_left; (focus (((intro w hSw; (try dsimp only at hSw); go_simp) <;> (try with_reducible rfl)); done)); (try simp only [Act.put, p1_, p2_, p3_]))); ((refine tk_ (i := 7) (v := ?_) (y := Or.inl ⟨by rfl, ?_⟩) (h := ?_); rotate_left; (focus (((intro w hSw; (try dsimp only at hSw); go_simp) <;> (try with_reducible rfl)); done)); (try simp only [Act.put, p1_, p2_, p3_]))); ((refine tk_ (i := 8) (v := ?_) (y := Or.inl ⟨by rfl, ?_⟩) (h := ?_); rotate_left; (focus (((intro w hSw; (try dsimp only at hSw); go_simp) <;> (try with_reducible rfl)); done)); (try simp only [Act.put, p1_, p2_, p3_]))); ((refine tk_ (i := 9) (v := ?_) (y := Or.inl ⟨by rfl, ?_⟩) (h := ?_); rotate_left; (focus (((intro w hSw; (try dsimp only at hSw); go_simp) <;> (try with_reducible rfl)); done)); (try simp only [Act.put, p1_, p2_, p3_]))); ((refine tk_ (i := 10) (v := ?_) (y := Or.inl ⟨by rfl, ?_⟩) (h := ?_); rotate_left; (focus (((intro w hSw; (try dsimp only at hSw); go_simp) <;> (try with_reducible rfl)); done)); (try simp only [Act.put, p1_, p2_, p3_]))); ((refine wpAnyH_ready (rs := [11]) (by kernel_rfl) (by simp) ?_; refine AllReadyH.cons (by simp only [e1_, e2_, e3_]; try rfl) (fun K hK => ?_) AllReadyH.nil; go_simp; (go_at_call 142; refine (impl_IsRowOp_add C i j t _ hi hj HIJ.out HT.out hC).mono ?_; rintro e w1 ⟨rfl, hb1⟩; (have hsz := hb1.size); (try simp at hsz); (have hsd := hbd.size); (have hbd_1 : Below w0.heap.size w0 w1 := Kw); (have hW_1 : WB w1 B b R C f g h false A n cap A2 n2 cap2 A3 n3 cap3 := HW0.out.below hbd_1 (Nat.le_refl _)); (have hX_1 : Blk w1 xb 66 xs := HX0.out.below hbd_1 hxb); clear c0 c1 c2 c3 c4 c5 c6 c7 c8 c9 cf cl x0 x1 x2 x3; clear hW hX hbd; (have hW := hW_1); (have hX := hX_1); (have hbd := hbd_1); clear hW_1 hX_1 hbd_1; rw [HXS.out] at hX; obtain ⟨c0, c1, c2, c3, c4, c5, c6, c7, c8, c9, cf, cl⟩ := hW.cells; have x0 := hX.cell 0; have x1 := hX.cell 1; have x2 := hX.cell 2; have x3 := hX.cell 3; simp at x0 x1 x2 x3); (try go_wp2_with fail); refine hK.out _ _ ?_ (fun hHeld => ?_); (focus ((try dsimp only); (go_keep))); clear hK K; (try simp only [Act.put, p1_, p2_, p3_]))); ((refine tk_ (i := 12) (v := ?_) (y := Or.inl ⟨by rfl, ?_⟩) (h := ?_); rotate_left; (focus (((intro w hSw; (try dsimp only at hSw); go_simp) <;> (try with_reducible rfl)); done)); (try simp only [Act.put, p1_, p2_, p3_]))); ((refine tk_ (i := 13) (v := ?_) (y := Or.inl ⟨by rfl, ?_⟩) (h := ?_); rotate_left; (focus (((intro w hSw; (try dsimp only at hSw); go_simp) <;> (try with_reducible rfl)); done)); (try simp only [Act.put, p1_, p2_, p3_]))); (refine wpAnyH_done (by kernel_rfl) ?_ _))
  go_wp2_with fail
  refine (impl_Transpose_tb R C A n cap f _ hW.m.reads (Nat.le_refl _) HF.out hR hC).mono ?_
  rintro e w2 ⟨Aa, na, ca, rfl, hoa, hb2⟩
  have hs1 := hbd.size
  have hs2 := hb2.size
  have hUa : Own (.slice Aa na ca) w1.heap.size w2.heap.size := hoa.own
  have hbd_1 : Below w0.heap.size w0 w2 := Kw
  (have hW_1 : WB w2 B b R C f g h false A n cap A2 n2 cap2 A3 n3 cap3 := HW0.out.below hbd_1 (Nat.le_refl _)); (have hX_1 : Blk w2 xb 66 xs := HX0.out.below hbd_1 hxb); clear c0 c1 c2 c3 c4 c5 c6 c7 c8 c9 cf cl x0 x1 x2 x3; clear hW hX hbd; (have hW := hW_1); (have hX := hX_1); (have hbd := hbd_1); clear hW_1 hX_1 hbd_1; rw [HXS.out] at hX; obtain ⟨c0, c1, c2, c3, c4, c5, c6, c7, c8, c9, cf, cl⟩ := hW.cells; have x0 := hX.cell 0; have x1 := hX.cell 1; have x2 := hX.cell 2; have x3 := hX.cell 3; simp at x0 x1 x2 x3
  go_wp2_with fail
  refine (impl_Transpose_tb C C A3 n3 cap3 h _ (hW.r.alloc _).reads (Nat.le_refl _) HH.out hC hC).mono ?_
  rintro e w3 ⟨Ab, nb, cb, rfl, hob, hb3⟩
  have hs3 := hb3.size
  simp at hs3
  have hUb : Own (.slice Ab nb cb) (w2.heap.size + 1) w3.heap.size := by have := hob.own; simpa using this
  have hAx : BM w3 w2.heap.size C R Aa na ca := Ka
  have hoa3 : OR w3 w1.heap.size (.slice Aa na ca) (tb C R (tp f)) := Ko hoa
  have hob3 : OR w3 (w2.heap.size + 1) (.slice Ab nb cb) (tb C C (tp h)) := by simpa using hob
  have hbd_1 : Below w0.heap.size w0 w3 := Kw
  (have hW_1 : WB w3 B b R C f g h false A n cap A2 n2 cap2 A3 n3 cap3 := HW0.out.below hbd_1 (Nat.le_refl _)); (have hX_1 : Blk w3 xb 66 xs := HX0.out.below hbd_1 hxb); clear c0 c1 c2 c3 c4 c5 c6 c7 c8 c9 cf cl x0 x1 x2 x3; clear hW hX hbd; (have hW := hW_1); (have hX := hX_1); (have hbd := hbd_1); clear hW_1 hX_1 hbd_1; rw [HXS.out] at hX; obtain ⟨c0, c1, c2, c3, c4, c5, c6, c7, c8, c9, cf, cl⟩ := hW.cells; have x0 := hX.cell 0; have x1 := hX.cell 1; have x2 := hX.cell 2; have x3 := hX.cell 3; simp at x0 x1 x2 x3
  obtain ⟨aa, ab, ac, af, al⟩ := hAx.mx
  clear hoa hob hb2 hb3
  have hx3 : xb < w3.heap.size := by have := hbd.size; omega
  go_wp2_with fail
  have hBx : BM (w3.alloc (.cells #[.int .i64 C, .int .i64 C, .slice Ab nb cb] 26)) w3.heap.size C C Ab nb cb := Ka
  by_cases hr1 : rowOk (tp f) i j t R
  · refine (impl_rowOp_add_yes C R i j t Aa na ca (tp f) _ (B := w1.heap.size) (Ko hoa3) hi hj HIJ.out HT.out (tp_ok HF.out) hR0 hR hC hr1).mono ?_
    rintro e w4 ⟨rfl, hoa4, hgr4, hs4⟩
    simp at hs4; have hAx4 : BM w4 w2.heap.size C R Aa na ca := BX.keptOwn (Kb hAx) hgr4 hUa (.inr (Nat.le_refl _)); have hBx4 : BM w4 w3.heap.size C C Ab nb cb := BX.keptOwn hBx hgr4 hUa (.inr (by omega)); have hob4 : OR w4 (w2.heap.size + 1) (.slice Ab nb cb) (tb C C (tp h)) := OR.keptOwn (Ko hob3) hgr4 hUb hUa (.inr (by omega)); have hbd_1 : Below w0.heap.size w0 w4 := Below.trans Kw (below_keptOwn hgr4 hUa hs1 Ks); clear hgr4 hAx hoa3 hob3 hBx aa ab ac af al; (have hW_1 : WB w4 B b R C f g h false A n cap A2 n2 cap2 A3 n3 cap3 := HW0.out.below hbd_1 (Nat.le_refl _)); (have hX_1 : Blk w4 xb 66 xs := HX0.out.below hbd_1 hxb); clear c0 c1 c2 c3 c4 c5 c6 c7 c8 c9 cf cl x0 x1 x2 x3; clear hW hX hbd; (have hW := hW_1); (have hX := hX_1); (have hbd := hbd_1); clear hW_1 hX_1 hbd_1; rw [HXS.out] at hX; obtain ⟨c0, c1, c2, c3, c4, c5, c6, c7, c8, c9, cf, cl⟩ := hW.cells; have x0 := hX.cell 0; have x1 := hX.cell 1; have x2 := hX.cell 2; have x3 := hX.cell 3; simp at x0 x1 x2 x3; obtain ⟨aa, ab, ac, af, al⟩ := hAx4.mx; obtain ⟨ba, bb, bc, bf, bl⟩ := hBx4.mx
    have HR1 := Lib.hid ((rowOk_iff (tp_ok HF.out) hi hj HT.out).1 hr1)
    clear hr1
    go_wp2_with fail
    by_cases hr2 : rowOk (tp h) i j t C
    · refine (impl_rowOp_add_yes C C i j t Ab nb cb (tp h) _ (B := w2.heap.size + 1) (Ko hob4) hi hj HIJ.out HT.out (tp_ok HH.out) (by omega) hC hC hr2).mono ?_
      rintro e w5 ⟨rfl, hob5, hgr5, hs5⟩
      have hAx5 : BM w5 w2.heap.size C R Aa na ca := BX.keptOwn hAx4 hgr5 hUb (.inl (by omega)); have hBx5 : BM w5 w3.heap.size C C Ab nb cb := BX.keptOwn hBx4 hgr5 hUb (.inr (Nat.le_refl _)); have hoa5 := OR.keptOwn hoa4 hgr5 hUa hUb (.inl (by omega)); have hbd_1 : Below w0.heap.size w0 w5 := Below.trans hbd (below_keptOwn hgr5 hUb (by omega) Ks); clear hgr5 hAx4 hoa4 hob4 hBx4 aa ab ac af al ba bb bc bf bl; (have hW_1 : WB w5 B b R C f g h false A n cap A2 n2 cap2 A3 n3 cap3 := HW0.out.below hbd_1 (Nat.le_refl _)); (have hX_1 : Blk w5 xb 66 xs := HX0.out.below hbd_1 hxb); clear c0 c1 c2 c3 c4 c5 c6 c7 c8 c9 cf cl x0 x1 x2 x3; clear hW hX hbd; (have hW := hW_1); (have hX := hX_1); (have hbd := hbd_1); clear hW_1 hX_1 hbd_1; rw [HXS.out] at hX; obtain ⟨c0, c1, c2, c3, c4, c5, c6, c7, c8, c9, cf, cl⟩ := hW.cells; have x0 := hX.cell 0; have x1 := hX.cell 1; have x2 := hX.cell 2; have x3 := hX.cell 3; simp at x0 x1 x2 x3; obtain ⟨aa, ab, ac, af, al⟩ := hAx5.mx; obtain ⟨ba, bb, bc, bf, bl⟩ := hBx5.mx
      have HR2 := Lib.hid ((rowOk_iff (tp_ok HH.out) hi hj HT.out).1 hr2)
      clear hr2
      go_wp2_with fail
      refine (impl_Transpose_tb C R Aa na ca (opA (tp f) i j t) _ hoa5.reads (Nat.le_refl _) HR1.out hC hR).mono ?_
      rintro e w6 ⟨Am, nm, cm, rfl, hom, hb6⟩
      have hs6 := hb6.size
      have hW5 := hW
      have hbw0 := HW0.out.lt
      have hsd5 := hbd.size
      have hbx : ¬ w3.heap.size = b := by omega
      have hbx2 : ¬ b = w3.heap.size := by omega
      have hBx7 : BM w6 w3.heap.size C C Ab nb cb := Kb hBx5
      have hob7 : OR w6 (w2.heap.size + 1) (.slice Ab nb cb) (tb C C (opA (tp h) i j t)) := Ko hob5
      have hbd_1 : Below w0.heap.size w0 w6 := Kw
      have HB7 := Lib.hid (below_put3 (b := b) (b0 := 0) (b1 := 1) (b2 := 2) (u0 := .int .i64 R) (u1 := .int .i64 C) (u2 := .slice Am nm cm) (hbd_1.mono hBw) hBb)
      (have hW_1 : WB w6 B b R C f g h false A n cap A2 n2 cap2 A3 n3 cap3 := HW0.out.below hbd_1 (Nat.le_refl _)); (have hX_1 : Blk w6 xb 66 xs := HX0.out.below hbd_1 hxb); clear c0 c1 c2 c3 c4 c5 c6 c7 c8 c9 cf cl x0 x1 x2 x3; clear hW hX hbd; (have hW := hW_1); (have hX := hX_1); (have hbd := hbd_1); clear hW_1 hX_1 hbd_1; rw [HXS.out] at hX; obtain ⟨c0, c1, c2, c3, c4, c5, c6, c7, c8, c9, cf, cl⟩ := hW.cells; have x0 := hX.cell 0; have x1 := hX.cell 1; have x2 := hX.cell 2; have x3 := hX.cell 3; simp at x0 x1 x2 x3
      clear aa ab ac af al ba bb bc bf bl
      obtain ⟨ba, bb, bc, bf, bl⟩ := hBx7.mx
      go_wp2_with fail
      refine (impl_Transpose_tb C C Ab nb cb (opA (tp h) i j t) _ (OR.reads (OR.low (OR.low (OR.low hob7 (by simp; omega) _) (by simp; omega) _) (by simp; omega) _)) (Nat.le_refl _) HR2.out hC hC).mono ?_
      rintro e w8 ⟨Ar, nr, cr, rfl, hor, hb8⟩
      have hW7 := hW5.putM hb6 hom
      have hs8 := hb8.size
      have hW8 := hW7.below hb8 (Nat.le_refl _)
      have hW9 := hW7.putR hb8 hor
      have HB8 := Lib.hid (HB7.out.trans (Below.mono hb8 (by have := hW7.lt; have := hW7.hb; omega)))
      clear c0 c1 c2 c3 c4 c5 c6 c7 c8 c9 cf cl x0 x1 x2 x3
      clear hW hW5 hW7 hX hbd hb8 hor hb6 hom ba bb bc bf bl hBx7 hob7 hBx5 hob5 hAx5 hoa5
      have HB9 := Lib.hid (below_put3 (b := b) (b0 := 6) (b1 := 7) (b2 := 8) (u0 := .int .i64 C) (u1 := .int .i64 C) (u2 := .slice Ar nr cr) HB8.out hBb)
      obtain ⟨c0, c1, c2, c3, c4, c5, c6, c7, c8, c9, cf, cl⟩ := hW8.cells
      go_wp2_with fail
      go_end0
      exact ⟨rfl, HBW.out.trans HB9.out, .inl ⟨⟨HR1.out, HR2.out⟩, hW9.wk⟩⟩
    · refine (impl_rowOp_add_no C C i j t Ab nb cb (tp h) _ (B := w2.heap.size + 1) (Ko hob4) hi hj HIJ.out HT.out (tp_ok HH.out) (by omega) hC hC hr2).mono ?_
      rintro e w5 ⟨h', rfl, hob5, hgr5, hs5⟩
      have hAx5 : BM w5 w2.heap.size C R Aa na ca := BX.keptOwn hAx4 hgr5 hUb (.inl (by omega)); have hBx5 : BM w5 w3.heap.size C C Ab nb cb := BX.keptOwn hBx4 hgr5 hUb (.inr (Nat.le_refl _)); have hoa5 := OR.keptOwn hoa4 hgr5 hUa hUb (.inl (by omega)); have hbd_1 : Below w0.heap.size w0 w5 := Below.trans hbd (below_keptOwn hgr5 hUb (by omega) Ks); clear hgr5 hAx4 hoa4 hob4 hBx4 aa ab ac af al ba bb bc bf bl; (have hW_1 : WB w5 B b R C f g h false A n cap A2 n2 cap2 A3 n3 cap3 := HW0.out.below hbd_1 (Nat.le_refl _)); (have hX_1 : Blk w5 xb 66 xs := HX0.out.below hbd_1 hxb); clear c0 c1 c2 c3 c4 c5 c6 c7 c8 c9 cf cl x0 x1 x2 x3; clear hW hX hbd; (have hW := hW_1); (have hX := hX_1); (have hbd := hbd_1); clear hW_1 hX_1 hbd_1; rw [HXS.out] at hX; obtain ⟨c0, c1, c2, c3, c4, c5, c6, c7, c8, c9, cf, cl⟩ := hW.cells; have x0 := hX.cell 0; have x1 := hX.cell 1; have x2 := hX.cell 2; have x3 := hX.cell 3; simp at x0 x1 x2 x3; obtain ⟨aa, ab, ac, af, al⟩ := hAx5.mx; obtain ⟨ba, bb, bc, bf, bl⟩ := hBx5.mx
      have HR2 : Hid (¬ okC R C f h i j t) := Lib.hid (fun k => hr2 ((rowOk_iff (tp_ok HH.out) hi hj HT.out).2 k.2))
      clear hr2
      go_wp2_with fail
      go_end0
      exact ⟨rfl, HBW.out.trans ((hbd.mono hBw).trans (below_set_at hBb)), .inr ⟨HR2.out, _, _, _, hW.setBad.wk⟩⟩
  · refine (impl_rowOp_add_no C R i j t Aa na ca (tp f) _ (B := w1.heap.size) (Ko hoa3) hi hj HIJ.out HT.out (tp_ok HF.out) hR0 hR hC hr1).mono ?_
    rintro e w4 ⟨f', rfl, hoa4, hgr4, hs4⟩
    simp at hs4; have hAx4 : BM w4 w2.heap.size C R Aa na ca := BX.keptOwn (Kb hAx) hgr4 hUa (.inr (Nat.le_refl _)); have hBx4 : BM w4 w3.heap.size C C Ab nb cb := BX.keptOwn hBx hgr4 hUa (.inr (by omega)); have hob4 : OR w4 (w2.heap.size + 1) (.slice Ab nb cb) (tb C C (tp h)) := OR.keptOwn (Ko hob3) hgr4 hUb hUa (.inr (by omega)); have hbd_1 : Below w0.heap.size w0 w4 := Below.trans Kw (below_keptOwn hgr4 hUa hs1 Ks); clear hgr4 hAx hoa3 hob3 hBx aa ab ac af al; (have hW_1 : WB w4 B b R C f g h false A n cap A2 n2 cap2 A3 n3 cap3 := HW0.out.below hbd_1 (Nat.le_refl _)); (have hX_1 : Blk w4 xb 66 xs := HX0.out.below hbd_1 hxb); clear c0 c1 c2 c3 c4 c5 c6 c7 c8 c9 cf cl x0 x1 x2 x3; clear hW hX hbd; (have hW := hW_1); (have hX := hX_1); (have hbd := hbd_1); clear hW_1 hX_1 hbd_1; rw [HXS.out] at hX; obtain ⟨c0, c1, c2, c3, c4, c5, c6, c7, c8, c9, cf, cl⟩ := hW.cells; have x0 := hX.cell 0; have x1 := hX.cell 1; have x2 := hX.cell 2; have x3 := hX.cell 3; simp at x0 x1 x2 x3; obtain ⟨aa, ab, ac, af, al⟩ := hAx4.mx; obtain ⟨ba, bb, bc, bf, bl⟩ := hBx4.mx
    have HR1 : Hid (¬ okC R C f h i j t) := Lib.hid (fun k => hr1 ((rowOk_iff (tp_ok HF.out) hi hj HT.out).2 k.1))
    clear hr1
    go_wp2_with fail
    go_end0
    exact ⟨rfl, HBW.out.trans ((hbd.mono hBw).trans (below_set_at hBb)), .inr ⟨HR1.out, _, _, _, hW.setBad.wk⟩⟩
end Go.Proofs.Ytacjonkehcamgaa

/-
  DERIVED. The matrices that make the Smith form are unimodular: no program in sight.
-/
namespace Go.Proofs.Ytacjonkehcamgaa
set_option linter.unusedVariables false
def Pm (x : Int) : Prop := x = 1 ∨ x = -1
theorem Pm.neg {x y : Int} (h : Pm x) (e : y = -x) : Pm y := by
  unfold Pm at *
  omega
/-- Both accounts are unimodular. -/
def Unm (R C : Nat) (s : SS) : Prop := Pm (Dt R s.g) ∧ Pm (Dt C s.h)
theorem Dt_opA {R i j : Nat} {t : Int} {g : Fn2} (hk : OKF R R (opA g i j t)) (hi : i < R) (hj : j < R) (hij : i ≠ j) : Dt R (opA g i j t) = Dt R g :=
  (Dt_alt R).add hi hj hij (fun y hy => opA_val hk hi hy) (fun x y _ _ hne => opA_other hne)
theorem Dt_opM {R i : Nat} {g : Fn2} (h : OKF R R g) (hi : i < R) : Dt R (opM g i) = -Dt R g := by
  have := (Dt_alt R).scale (i := i) (t := -1) (f := g) (g := opM g i) hi (fun y hy => by rw [opM_at (h i y hi hy)]; omega) (fun x y _ _ hne => by unfold opM; rw [if_neg hne])
  rw [this]; omega
theorem Unm.stays (R C t0 : Nat) : Stays R C t0 (Unm R C) where
  radd := fun s i j t hi hj _ _ hij hg hk hP => by
    have kg : OKF R R (opA s.g i j t) := hk.g
    refine ⟨?_, hP.2⟩
    show Pm (Dt R (opA s.g i j t))
    rw [Dt_opA kg hi hj hij]
    exact hP.1
  rswap := fun s i j hi hj _ _ hij hg hP => ⟨hP.1.neg ((Dt_alt R).swap hi hj hij s.g), hP.2⟩
  rneg := fun s i hi _ hg hP => ⟨hP.1.neg (Dt_opM hg.ok.g hi), hP.2⟩
  cadd := fun s i j t hi hj _ _ hij hg hk hP => by
    have kh : OKF C C (opA (tp s.h) i j t) := tp_ok hk.h
    refine ⟨hP.1, ?_⟩
    have e : Dt C (tp (opA (tp s.h) i j t)) = Dt C s.h :=
      (Dt_altC C).add (f := tp s.h) (g := opA (tp s.h) i j t) hi hj hij (fun y hy => opA_val kh hi hy) (fun x y _ _ hne => opA_other hne)
    show Pm (Dt C (tp (opA (tp s.h) i j t)))
    rw [e]
    exact hP.2
  cswap := fun s i j hi hj _ _ hij hg hP => ⟨hP.1, hP.2.neg ((Dt_altC C).swap hi hj hij (tp s.h))⟩
theorem sfX_unm {R C : Nat} {xs : List Int} {s : SS} (h : sfX R C xs = some s) : Unm R C s :=
  Stays.all (Unm.stays R C) h ⟨.inl (Dt_id R), .inl (Dt_id C)⟩
end Go.Proofs.Ytacjonkehcamgaa

/-
  DERIVED. What EchelonOf returns; makePrimitive on a row.
-/
namespace Go.Proofs.Ytacjonkehcamgaa
open Go.RowKit
set_option linter.unusedVariables false
set_option linter.unusedSimpArgs false
theorem ret_MTT' {fn : Func} {R : Ending → World → Prop} {a : Act} {w : World} {t s s2 : Tmp} {b n cap : Nat} {r c : Int} {A : Option Addr} (hr : fn.results = #[.cell t 26, .tmp s, .tmp s2])
    (ht : a.tmps.getD t undef = .pointer (some ⟨b, 0, none⟩)) (h : BM w b r c A n cap) (hd : a.defers = []) (hR : R (.returned (.tuple #[.agg #[.int .i64 r, .int .i64 c, .slice A n cap], a.tmps.getD s undef, a.tmps.getD s2 undef])) w) : bodyPost Try.prog fn R .ret a w :=
  bodyPost_ret (v := .tuple #[.agg #[.int .i64 r, .int .i64 c, .slice A n cap], a.tmps.getD s undef, a.tmps.getD s2 undef]) (by
    obtain ⟨r0, r1, r2, rf, rl⟩ := h.mx
    have ht' := ht
    simp only [Array.getD_eq_getD_getElem?] at ht'
    simp [results, hr, ht', go_sem, r0, r1, r2]) hd hR
theorem OR.shape' {w : World} {B : Nat} {v : Value} {xs : List Int} (h : OR w B v xs) : ∃ A c, v = .slice A xs.length c := by
  rcases h.form with ⟨h1, h2⟩ | ⟨g, c, h1, _⟩
  · subst h2; exact ⟨_, _, h1⟩
  · exact ⟨_, _, h1⟩
/-- The call returned this matrix, this list and the flag: each its own, and apart. -/
def MIBR (m : Mx) (ps : List Int) (b : Bool) (w : World) (e : Ending) (w' : World) : Prop :=
  ∃ A n cap P k c, e = .returned (.tuple #[.agg #[.int .i64 m.r, .int .i64 m.c, .slice A n cap], .slice P k c, .bool b]) ∧ OR w' w.heap.size (.slice A n cap) m.xs ∧ OR w' w.heap.size (.slice P k c) ps ∧ Apart (.slice A n cap) (.slice P k c) ∧ Below w.heap.size w w'
def eoX (r c : Int) (xs : List Int) : Option QSt := if isMat r c xs then echQ r.toNat c.toNat (fun i j => cel xs c.toNat i j) else none
def mxQ (r c : Int) : Option QSt → Mx
  | some s => ⟨r, c, tb r.toNat c.toNat s.f⟩
  | none => .none
def psQ : Option QSt → List Int
  | some s => s.ps
  | none => []
theorem MIBR.none_ {r c : Int} {w w' : World} {P : Option Addr} {k pc : Nat} (h : OR w' w.heap.size (.slice P k pc) []) (hb : Below w.heap.size w w') :
    MIBR (mxQ r c none) (psQ none) (none : Option QSt).isSome w (.returned (.tuple #[.agg #[.int .i64 0, .int .i64 0, .slice none 0 0], .slice P k pc, .bool false])) w' :=
  ⟨none, 0, 0, P, k, pc, rfl, OR.nil_ _ _, h, (fun g h1 => by simp [Value.ownBlock] at h1), hb⟩
theorem MIBR.some_ {R C : Nat} {s : QSt} {w w' : World} {A P : Option Addr} {n cap k pc : Nat} (ho : OR w' w.heap.size (.slice A n cap) (tb R C s.f)) (h : OR w' w.heap.size (.slice P k pc) s.ps) (ha : Apart (.slice A n cap) (.slice P k pc)) (hb : Below w.heap.size w w') :
    MIBR (mxQ R C (some s)) (psQ (some s)) (some s).isSome w (.returned (.tuple #[.agg #[.int .i64 R, .int .i64 C, .slice A n cap], .slice P k pc, .bool true])) w' :=
  ⟨A, n, cap, P, k, pc, rfl, by show OR w' w.heap.size (.slice A n cap) (tb (R : Int).toNat (C : Int).toNat s.f); simpa using ho, h, ha, hb⟩
theorem tb_bd {R C : Nat} {f : Nat → Nat → Int} (h : ∀ i c, i < R → c < C → -400000000 ≤ f i c ∧ f i c ≤ 400000000) (k : Nat) : -400000000 ≤ (tb R C f).getD k 0 ∧ (tb R C f).getD k 0 ≤ 400000000 := by
  by_cases hk : k < (tb R C f).length
  · exact tb_mem (P := fun x => -400000000 ≤ x ∧ x ≤ 400000000) h _ (mem_getD hk)
  · simp [List.getD, List.getElem?_eq_none (show (tb R C f).length ≤ k by omega)]
theorem impl_makePrimitive_tb (R C i g capv n cap : Nat) (f f' : Nat → Nat → Int) (hf : prF C f i = f') (w : World) {B : Nat} (h : OR w B (.slice (some ⟨g, 0, none⟩) n cap) (tb R C f)) (hi : i < R) (hC : C ≤ 48) (hb : ∀ i c, i < R → c < C → -400000000 ≤ f i c ∧ f i c ≤ 400000000) :
    Calls Try.prog 173 #[.slice (some ⟨g, i * C, none⟩) C capv] w (WU (.slice (some ⟨g, 0, none⟩) n cap) B (tb R C f') w) := by
  have hl : i * C + C ≤ R * C := by
    have h3 := Nat.mul_le_mul_right C (show i + 1 ≤ R by omega); rw [Nat.add_mul, Nat.one_mul] at h3; exact h3
  have := impl_makePrimitive g (i * C) C capv n cap (tb R C f) w h (by rw [tb_len]; exact hl) (by omega) (tb_bd hb)
  rw [win_tb hi, spl_tb hi (by rw [primL_len, rw_len])] at this
  rw [← hf]
  exact this
theorem impl_makePrimitive0 (A : Option Addr) (k cap : Nat) (hk : k = 0) (w : World) : Calls Try.prog 173 #[.slice A k cap] w (EV (.tuple #[]) w) := by
  subst hk
  go_enter Try.func173, Try.ntmps173
  go_wp2
  refine wp_loop_rounds 1 ?_
  rw [rounds_succ]
  go_wp2
  refine bodyPost_ret (v := .tuple #[]) (by simp [results, Try.results173]) rfl ?_
  exact ⟨rfl, rfl⟩
end Go.Proofs.Ytacjonkehcamgaa

/-
  DERIVED. Ranks: no more than n rows are wanted to span; turned over; products; echelon, Hermite and diagonal forms. No program in sight.
-/
namespace Go.Proofs.Ytacjonkehcamgaa
set_option linter.unusedVariables false
/-- The rows of f are, some times, sums of n rows. -/
def RKs (R C n : Nat) (f : Fn2) : Prop := ∃ e : Fn2, ∀ i, i < R → QS n C e (f i)
section
variable {R S C r n : Nat} {p : Nat → Nat} {f g : Fn2}
theorem EF.rk_le (H : EF R C r p f) (h : RKs R C n f) : r ≤ n := by
  obtain ⟨e, he⟩ := h
  exact Ind.le H.ind fun i hi => he i (Nat.lt_of_lt_of_le hi H.le)
theorem EF.rk (H : EF R C r p f) : RKs R C r f := ⟨f, fun i hi => by
  rcases Nat.lt_or_ge i r with h | h
  · exact QS.row h
  · exact QS.zero fun y hy => H.zero i y h hi hy⟩
theorem RKs.span (h : RKs S C n g) (k : ∀ i, i < R → QS S C g (f i)) : RKs R C n f := by
  obtain ⟨e, he⟩ := h
  exact ⟨e, fun i hi => (k i hi).trans he⟩
/-- One divisor for all rows. -/
theorem QS.all {e : Fn2} : ∀ R, (∀ i, i < R → QS n C e (f i)) → ∃ (d : Int) (u : Fn2), d ≠ 0 ∧ ∀ i y, i < R → y < C → d * f i y = sumTo (fun k => u i k * e k y) n
  | 0, _ => ⟨1, fun _ _ => 0, by decide, fun i y hi => absurd hi (Nat.not_lt_zero _)⟩
  | R + 1, h => by
    obtain ⟨d, u, hd, hu⟩ := QS.all R fun i hi => h i (by omega)
    obtain ⟨d2, c, hd2, hc⟩ := h R (by omega)
    refine ⟨d * d2, fun i k => if i = R then d * c k else d2 * u i k, Int.mul_ne_zero hd hd2, fun i y hi hy => ?_⟩
    by_cases e1 : i = R
    · subst e1
      rw [show d * d2 * f i y = d * (d2 * f i y) by grind, hc y hy, ← sumTo_mul']
      exact sumTo_congr n fun k _ => by simp only [if_pos]; grind
    · rw [show d * d2 * f i y = d2 * (d * f i y) by grind, hu i y (by omega) hy, ← sumTo_mul']
      exact sumTo_congr n fun k _ => by simp only [if_neg e1]; grind
theorem RKs.turn (h : RKs R C n f) : RKs C R n (fun a b => f b a) := by
  obtain ⟨e, he⟩ := h
  obtain ⟨d, u, hd, hu⟩ := QS.all R he
  refine ⟨fun k i => u i k, fun y hy => ⟨d, fun k => e k y, hd, fun i hi => ?_⟩⟩
  rw [hu i y hi hy]
  exact sumTo_congr n fun k _ => Int.mul_comm _ _
theorem QS.mm {u : Fn2} {i : Nat} : QS R C f (mm R u f i) := ⟨1, u i, by decide, fun y _ => by rw [Int.one_mul]; rfl⟩
theorem RKs.left {u : Fn2} (h : RKs R C n f) : RKs S C n (mm R u f) := h.span fun i _ => QS.mm
theorem RKs.right {v : Fn2} {D : Nat} (h : RKs R C n f) : RKs R D n (mm C f v) := by
  obtain ⟨e, he⟩ := h
  refine ⟨mm C e v, fun i hi => ?_⟩
  obtain ⟨d, c, hd, hc⟩ := he i hi
  refine ⟨d, c, hd, fun y _ => ?_⟩
  have e1 : d * mm C f v i y = sumTo (fun k => d * (f i k * v k y)) C := by unfold mm; rw [sumTo_mul']
  have e2 : sumTo (fun k => d * (f i k * v k y)) C = sumTo (fun k => sumTo (fun a => c a * e a k * v k y) n) C := sumTo_congr C fun k hk => by
    rw [show d * (f i k * v k y) = d * f i k * v k y by grind, hc k hk, ← sumTo_mul]
  rw [e1, e2, sumTo_swap]
  refine sumTo_congr n fun a _ => ?_
  unfold mm
  rw [← sumTo_mul']
  exact sumTo_congr C fun k _ => by grind
/-- Two echelon forms of two spaces, one in the other. -/
theorem EF.le_of {q : Nat → Nat} {s : Nat} (H : EF R C r p f) (K : EF S C s q g) (h : ∀ i, i < R → QS S C g (f i)) : r ≤ s := H.rk_le (K.rk.span h)
/-- A form with the rows of it from r on zeros, and the first r independent. -/
theorem Ind.rk_le (H : Ind r C f) (hr : r ≤ R) (h : RKs R C n f) : r ≤ n := by
  obtain ⟨e, he⟩ := h
  exact Ind.le H fun i hi => he i (by omega)
/-- A space in another one, as many dimensions: they are one. -/
theorem EF.back {q : Nat → Nat} {s : Nat} (H : EF R C r p f) (K : EF S C s q g) (h : ∀ i, i < R → QS S C g (f i)) (hrs : s ≤ r) : ∀ i, i < S → QS R C f (g i) := fun i hi => by
  -- the rows of f with row i of g beside them: r + 1 vectors in a space of s dimensions
  have hfr := H.le
  apply Classical.byContradiction
  intro hno
  have hind : Ind (r + 1) C (fun k y => if k < r then f k y else g i y) := fun z hz k hk => by
    have e1 : ∀ y, y < C → sumTo (fun k => z k * f k y) r + z r * g i y = 0 := fun y hy => by
      have := hz y hy
      rw [sumTo_succ] at this
      simp only [if_neg (Nat.lt_irrefl r)] at this
      rw [← this]
      congr 1
      exact sumTo_congr r fun k hk => by simp only [if_pos hk]
    have hr0 : z r = 0 := by
      apply Classical.byContradiction
      intro h0
      refine hno ⟨z r, fun k => if k < r then -z k else 0, h0, fun y hy => ?_⟩
      have h1 := e1 y hy
      have h2 : sumTo (fun k => (if k < r then -z k else 0) * f k y) R = -sumTo (fun k => z k * f k y) r := by
        have hs : ∀ m, r ≤ m → sumTo (fun k => (if k < r then -z k else 0) * f k y) m = -sumTo (fun k => z k * f k y) r := fun m => by
          induction m with
          | zero => intro hm; obtain rfl : r = 0 := by omega
                    rfl
          | succ m ih =>
            intro hm
            by_cases e : r = m + 1
            · subst e
              rw [← sumTo_neg]
              exact sumTo_congr (m + 1) fun k hk => by rw [if_pos hk, Int.neg_mul]
            · rw [sumTo_succ, ih (by omega), if_neg (by omega), Int.zero_mul, Int.add_zero]
        exact hs R hfr
      rw [h2]; omega
    rcases Nat.lt_or_ge k r with h | h
    · refine H.ind z (fun y hy => ?_) k h
      have := e1 y hy
      rw [hr0, Int.zero_mul, Int.add_zero] at this
      exact this
    · obtain rfl : k = r := by omega
      exact hr0
  obtain ⟨e, he⟩ := K.rk
  have := Ind.le hind (u := e) (m := s) fun k hk => by
    rcases Nat.lt_or_ge k r with h1 | h1
    · have q := (h k (by omega)).trans he
      obtain ⟨d, c, hd, hc⟩ := q
      exact ⟨d, c, hd, fun y hy => by simp only [if_pos h1]; exact hc y hy⟩
    · obtain ⟨d, c, hd, hc⟩ := he i hi
      exact ⟨d, c, hd, fun y hy => by simp only [if_neg (show ¬ k < r by omega)]; exact hc y hy⟩
  omega
end
end Go.Proofs.Ytacjonkehcamgaa

/-
  DERIVED. What stays under the operations of the Hermite form: u m = h, and u is unimodular. No program in sight.
-/
namespace Go.Proofs.Ytacjonkehcamgaa
set_option linter.unusedVariables false
/-- A property that stays under the operations on rows. -/
structure StaysH (R C : Nat) (P : HS → Prop) : Prop where
  add : ∀ (s : HS) (i j : Nat) (t : Int), i < R → j < R → i ≠ j → GD R C s → (s.add i j t).OK R C → P s → P (s.add i j t)
  swap : ∀ (s : HS) (i j : Nat), i < R → j < R → i ≠ j → GD R C s → P s → P (s.swap i j)
  neg : ∀ (s : HS) (i : Nat), i < R → GD R C s → P s → P (s.neg i)
section
variable {R C : Nat} {P : HS → Prop}
theorem StaysH.sw (H : StaysH R C P) {j p t : Nat} {s : HS} (h : GD R C s) (hP : P s) (hp : p < R) : ∀ n, t + n ≤ R → (swS j p t s n).OK R C → P (swS j p t s n)
  | 0, _, _ => hP
  | n + 1, hn, hk => by
    have hk' := swS_back h.nb hk
    have ih := H.sw h hP hp n (by omega) hk'
    rw [swS_succ] at hk ⊢
    split
    · rename_i hc
      rw [if_pos hc] at hk
      exact H.add _ (t + n) p _ (by omega) hp hc.1 ⟨hk', swS_nb h.nb n⟩ hk ih
    · exact ih
theorem StaysH.ab (H : StaysH R C P) {j t : Nat} {s : HS} (h : GD R C s) (hP : P s) (ht : t < R) : ∀ n, n ≤ t → (abS j t s n).OK R C → P (abS j t s n)
  | 0, _, _ => hP
  | n + 1, hn, hk => by
    have hk' := abS_back h.nb hk
    have ih := H.ab h hP ht n (by omega) hk'
    rw [abS_succ] at hk ⊢
    exact H.add _ n t _ (by omega) ht (by omega) ⟨hk', abS_nb h.nb n⟩ hk ih
theorem StaysH.in_ (H : StaysH R C P) {j t : Nat} (hj : j < C) (ht : t < R) : ∀ (k : Nat) (s : HS) (p : Nat), hmMs R j t s p ≤ k → GD R C s → P s → t ≤ p → p < R → s.f p j ≠ 0 → ∀ s' q, hmIn R C j t s p = some (s', q) → P s' ∧ GD R C s' ∧ t ≤ q ∧ q < R ∧ s'.f q j ≠ 0 := by
  intro k
  induction k with
  | zero =>
    intro s p hk hg hP h1 h2 h3 s' q he
    rcases ho : oth R s.f j t p with _ | _
    · rw [hmIn_done ho] at he
      cases he
      exact ⟨hP, hg, h1, h2, h3⟩
    · unfold hmMs at hk
      rw [if_pos ho] at hk
      omega
  | succ k ih =>
    intro s p hk hg hP h1 h2 h3 s' q he
    rcases ho : oth R s.f j t p with _ | _
    · rw [hmIn_done ho] at he
      cases he
      exact ⟨hP, hg, h1, h2, h3⟩
    · rcases hok : (swS j p t s (R - t)).ok R C with _ | _
      · rw [hmIn_bad ho hok] at he; cases he
      · have hk' := (HS.ok_iff (swS_nb hg.nb _)).1 hok
        rw [hmIn_next hg.nb hj h2 h1 h3 ho hok] at he
        have hlt := hmMs_lt hg.nb hj h2 h1 h3 ho hk'
        have hP' := H.sw (j := j) (t := t) hg hP h2 (R - t) (by omega) hk'
        have hpp := swS_p (j := j) (p := p) (t := t) (s := s) j (R - t)
        have hg' : GD R C (swS j p t s (R - t)) := ⟨hk', swS_nb hg.nb _⟩
        generalize swS j p t s (R - t) = s2 at *
        rcases lst_cases R s2.f j t (Nat.le_of_lt ht) with ⟨e, hz⟩ | ⟨p2, e, k1, k2, k3⟩
        · exact absurd (hz p h1 h2) (by rw [hpp]; exact h3)
        · rw [e, Int.toNat_natCast] at he hlt
          exact ih s2 p2 (by omega) hg' hP' k1 k2 k3 s' q he
theorem StaysH.fin (H : StaysH R C P) {j t p : Nat} {s s' : HS} (hg : GD R C s) (hP : P s) (hp : p < R) (ht : t < R) (he : hmFin R C j t p s = some s') : P s' ∧ GD R C s' := by
  have g1 := hg.s1 (t := t) hp ht
  have p1 : P (hmS1 t p s) := by
    unfold hmS1
    split
    · exact hP
    · rename_i hne; exact H.swap s p t hp ht hne hg hP
  have g2 := g1.s2 (j := j) ht
  have p2 : P (hmS2 j t (hmS1 t p s)) := by
    unfold hmS2
    split
    · exact H.neg _ t ht g1 p1
    · exact p1
  unfold hmFin at he
  split at he
  · rename_i hok
    cases he
    have hk := (HS.ok_iff (abS_nb g2.nb t)).1 hok
    exact ⟨H.ab g2 p2 ht t (Nat.le_refl _) hk, ⟨hk, abS_nb g2.nb t⟩⟩
  · cases he
theorem StaysH.out (H : StaysH R C P) : ∀ (m j t : Nat) (s s' : HS) (q : Nat), j + m ≤ C → t ≤ R → GD R C s → P s → hmOut R C m j t s = some (s', q) → P s' ∧ GD R C s'
  | 0, j, t, s, s', q, _, _, hg, hP, he => by cases he; exact ⟨hP, hg⟩
  | m + 1, j, t, s, s', q, hj, ht, hg, hP, he => by
    by_cases htR : t < R
    · rcases lst_cases R s.f j t ht with ⟨e, hz⟩ | ⟨p, e, h1, h2, h3⟩
      · rw [hmOut_skip htR (by omega)] at he
        exact H.out m (j + 1) t s s' q (by omega) ht hg hP he
      · rw [hmOut_go htR (by omega), e, Int.toNat_natCast] at he
        unfold hmGo at he
        rcases hi : hmIn R C j t s p with _ | ⟨s2, p2⟩
        · rw [hi] at he; cases he
        · rw [hi] at he
          obtain ⟨a1, a2, a3, a4, a5⟩ := H.in_ (by omega) htR _ s p (Nat.le_refl _) hg hP h1 h2 h3 s2 p2 hi
          rcases hf : hmFin R C j t p2 s2 with _ | s3
          · simp only [Option.bind_some] at he
            rw [hf] at he; cases he
          · simp only [Option.bind_some] at he
            rw [hf] at he
            obtain ⟨b1, b2⟩ := H.fin a2 a1 a4 htR hf
            exact H.out m (j + 1) (t + 1) s3 s' q (by omega) (by omega) b2 b1 he
    · rw [hmOut_full htR] at he
      cases he
      exact ⟨hP, hg⟩
end
/-- h = u m; u is unimodular, and takes only zeros to zeros. -/
def UMH (R C : Nat) (m : Fn2) (s : HS) : Prop := EqM R C (mm R s.g m) s.f ∧ INJ R s.g ∧ Pm (Dt R s.g)
theorem UMH.stays (R C : Nat) (m : Fn2) : StaysH R C (UMH R C m) where
  add := fun s i j t hi hj hij hg hk hP => by
    have kg : OKF R R (opA s.g i j t) := hk.g
    have kf : OKF R C (opA s.f i j t) := hk.f
    have e1 : ∀ y, y < R → opA s.g i j t i y = s.g i y + s.g j y * t := fun y hy => opA_val kg hi hy
    refine ⟨fun x y hx hy => ?_, hP.2.1.add hi hj hij e1 (fun x y _ _ hne => opA_other hne), ?_⟩
    · show mm R (opA s.g i j t) m x y = opA s.f i j t x y
      by_cases hxi : x = i
      · subst hxi
        rw [opA_val kf hx hy, ← hP.1 x y hx hy, ← hP.1 j y hj hy]
        unfold mm
        rw [← sumTo_mul, ← sumTo_add]
        exact sumTo_congr R fun k hk2 => by rw [e1 k hk2]; grind
      · rw [opA_other hxi, ← hP.1 x y hx hy]
        exact mm_left fun l hl => opA_other hxi
    · show Pm (Dt R (opA s.g i j t))
      rw [Dt_opA kg hi hj hij]
      exact hP.2.2
  swap := fun s i j hi hj hij hg hP => by
    refine ⟨fun x y hx hy => ?_, hP.2.1.swap hi hj, hP.2.2.neg ((Dt_alt R).swap hi hj hij s.g)⟩
    show mm R (swF s.g i j) m x y = swF s.f i j x y
    have key : ∀ z, z < R → (∀ k, swF s.g i j x k = s.g z k) → (swF s.f i j x y = s.f z y) → mm R (swF s.g i j) m x y = swF s.f i j x y := fun z hz h1 h2 => by
      rw [h2, ← hP.1 z y hz hy]
      unfold mm
      exact sumTo_congr R fun l _ => by rw [h1 l]
    by_cases h1 : x = i
    · exact key j hj (fun k => by unfold swF; rw [if_pos h1]) (by unfold swF; rw [if_pos h1])
    · by_cases h2 : x = j
      · exact key i hi (fun k => by unfold swF; rw [if_neg h1, if_pos h2]) (by unfold swF; rw [if_neg h1, if_pos h2])
      · exact key x hx (fun k => by unfold swF; rw [if_neg h1, if_neg h2]) (by unfold swF; rw [if_neg h1, if_neg h2])
  neg := fun s i hi hg hP => by
    have e1 : ∀ y, y < R → opM s.g i i y = -s.g i y := fun y hy => opM_at (hg.ok.g i y hi hy)
    have o1 : ∀ (f : Fn2) x y, x ≠ i → opM f i x y = f x y := fun f x y hne => by unfold opM; rw [if_neg hne]
    refine ⟨fun x y hx hy => ?_, hP.2.1.neg e1 (fun x y _ _ hne => o1 _ _ _ hne), hP.2.2.neg (Dt_opM hg.ok.g hi)⟩
    show mm R (opM s.g i) m x y = opM s.f i x y
    by_cases hxi : x = i
    · subst hxi
      rw [opM_at (hg.ok.f x y hx hy), ← hP.1 x y hx hy]
      unfold mm
      rw [← sumTo_neg]
      exact sumTo_congr R fun k hk2 => by rw [e1 k hk2, Int.neg_mul]
    · rw [o1 _ _ _ hxi, ← hP.1 x y hx hy]
      exact mm_left fun l hl => o1 _ _ _ hxi
theorem UMH.start (R C : Nat) (m : Fn2) : UMH R C m ⟨m, idF⟩ := ⟨fun i j hi hj => mv_id (fun l => m l j) hi, INJ.id R, .inl (Dt_id R)⟩
end Go.Proofs.Ytacjonkehcamgaa

/-
  DERIVED. In the Smith form each number of the diagonal is no less than 0 and divides the next one: no program in sight.
-/
namespace Go.Proofs.Ytacjonkehcamgaa
set_option linter.unusedVariables false
/-- The first t numbers of the diagonal. -/
def Chn (R C t : Nat) (s : SS) : Prop := (∀ a, a < t → 0 ≤ s.f a a) ∧ ∀ a x y, a < t → a ≤ x → x < R → a ≤ y → y < C → s.f a a ∣ s.f x y
theorem Chn.stays (R C t : Nat) (htR : t ≤ R) (htC : t ≤ C) : Stays R C t (Chn R C t) where
  radd := fun s i j q hi hj ti tj hij hg hk hP => by
    have kf : OKF R C (opA s.f i j q) := hk.f
    have e : ∀ a, a < t → opA s.f i j q a a = s.f a a := fun a ha => opA_other (by omega)
    refine ⟨fun a ha => by show 0 ≤ opA s.f i j q a a; rw [e a ha]; exact hP.1 a ha, fun a x y ha hx hxR hy hyC => ?_⟩
    show opA s.f i j q a a ∣ opA s.f i j q x y
    rw [e a ha]
    by_cases hxi : x = i
    · subst hxi
      rw [opA_val kf hxR hyC]
      exact Int.dvd_add (hP.2 a x y ha hx hxR hy hyC) (Int.dvd_trans (hP.2 a j y ha (by omega) hj hy hyC) ⟨q, rfl⟩)
    · rw [opA_other hxi]; exact hP.2 a x y ha hx hxR hy hyC
  rswap := fun s i j hi hj ti tj hij hg hP => by
    have e : ∀ a, a < t → swF s.f i j a a = s.f a a := fun a ha => by unfold swF; rw [if_neg (by omega), if_neg (by omega)]
    refine ⟨fun a ha => by show 0 ≤ swF s.f i j a a; rw [e a ha]; exact hP.1 a ha, fun a x y ha hx hxR hy hyC => ?_⟩
    show swF s.f i j a a ∣ swF s.f i j x y
    rw [e a ha]
    unfold swF
    split
    · exact hP.2 a j y ha (by omega) hj hy hyC
    · split
      · exact hP.2 a i y ha (by omega) hi hy hyC
      · exact hP.2 a x y ha hx hxR hy hyC
  rneg := fun s i hi ti hg hP => by
    have e : ∀ a, a < t → opM s.f i a a = s.f a a := fun a ha => by unfold opM; rw [if_neg (by omega)]
    refine ⟨fun a ha => by show 0 ≤ opM s.f i a a; rw [e a ha]; exact hP.1 a ha, fun a x y ha hx hxR hy hyC => ?_⟩
    show opM s.f i a a ∣ opM s.f i x y
    rw [e a ha]
    by_cases hxi : x = i
    · subst hxi
      rw [opM_at (hg.ok.f x y hxR hyC)]
      exact Int.dvd_neg.2 (hP.2 a x y ha hx hxR hy hyC)
    · unfold opM; rw [if_neg hxi]; exact hP.2 a x y ha hx hxR hy hyC
  cadd := fun s i j q hi hj ti tj hij hg hk hP => by
    have kf : OKF C R (opA (tp s.f) i j q) := tp_ok hk.f
    have e : ∀ a, a < t → opA (tp s.f) i j q a a = s.f a a := fun a ha => opA_other (by omega)
    refine ⟨fun a ha => by show 0 ≤ opA (tp s.f) i j q a a; rw [e a ha]; exact hP.1 a ha, fun a x y ha hx hxR hy hyC => ?_⟩
    show opA (tp s.f) i j q a a ∣ opA (tp s.f) i j q y x
    rw [e a ha]
    by_cases hyi : y = i
    · subst hyi
      rw [opA_val kf hyC hxR]
      exact Int.dvd_add (hP.2 a x y ha hx hxR hy hyC) (Int.dvd_trans (hP.2 a x j ha hx hxR (by omega) hj) ⟨q, rfl⟩)
    · rw [opA_other hyi]; exact hP.2 a x y ha hx hxR hy hyC
  cswap := fun s i j hi hj ti tj hij hg hP => by
    have e : ∀ a, a < t → swF (tp s.f) i j a a = s.f a a := fun a ha => by unfold swF; rw [if_neg (by omega), if_neg (by omega)]; rfl
    refine ⟨fun a ha => by show 0 ≤ swF (tp s.f) i j a a; rw [e a ha]; exact hP.1 a ha, fun a x y ha hx hxR hy hyC => ?_⟩
    show swF (tp s.f) i j a a ∣ swF (tp s.f) i j y x
    rw [e a ha]
    unfold swF
    split
    · exact hP.2 a x j ha hx hxR (by omega) hj
    · split
      · exact hP.2 a x i ha hx hxR (by omega) hi
      · exact hP.2 a x y ha hx hxR hy hyC
theorem Dn.dvd {R C t : Nat} {s : SS} (h : Dn R C t s) (hg : SGD R C s) {x y : Nat} (hx : t ≤ x) (hxR : x < R) (hy : t ≤ y) (hyC : y < C) : s.f t t ∣ s.f x y := by
  obtain ⟨h1, h2, h3⟩ := h
  obtain ⟨z1, z2⟩ := clnS_yes h1
  by_cases ex : x = t
  · subst ex
    by_cases ey : y = x
    · subst ey; exact Int.dvd_refl _
    · rw [z2 y (by omega) hyC]; exact Int.dvd_zero _
  · by_cases ey : y = t
    · subst ey; rw [z1 x (by omega) hxR]; exact Int.dvd_zero _
    · have hf : fdR s.f t C x = false := by
        refine Bool.eq_false_iff.2 fun hc => ?_
        have key : ∀ m i, i ≤ x → x < i + m → fdS s.f t C i m ≠ none := fun m => by
          induction m with
          | zero => intro i a b; omega
          | succ m ih =>
            intro i a b
            rcases hr : fdR s.f t C i with _ | _
            · rw [fdS_no hr]
              by_cases e : i = x
              · subst e; rw [hr] at hc; cases hc
              · exact ih (i + 1) (by omega) (by omega)
            · rw [fdS_yes hr]; simp
        exact key (R - (t + 1)) (t + 1) (by omega) (by omega) h2
      have hn : ¬ (s.f x y).tmod (s.f t t) ≠ 0 := fun hne => by
        have : fdR s.f t C x = true := fdR_iff.2 ⟨y, by omega, hyC, (hg.ok.f x y hxR hyC).ne, hne⟩
        rw [hf] at this; cases this
      exact Int.dvd_of_tmod_eq_zero (Decidable.of_not_not hn)
/-- What the Smith form's diagonal is. -/
def Dia (R C : Nat) (s : SS) : Prop := (∀ a, a < R → a < C → 0 ≤ s.f a a) ∧ ∀ a, a + 1 < R → a + 1 < C → s.f a a ∣ s.f (a + 1) (a + 1)
theorem sfOut_chn {R C : Nat} : ∀ (m t : Nat) (s s' : SS), t + m = min R C → SGD R C s → Chn R C t s → sfOut R C m t s = some s' → Dia R C s'
  | 0, t, s, s', hm, hg, hc, he => by
    cases he
    exact ⟨fun a h1 h2 => hc.1 a (by omega), fun a h1 h2 => hc.2 a (a + 1) (a + 1) (by omega) (by omega) h1 (by omega) h2⟩
  | m + 1, t, s, s', hm, hg, hc, he => by
    by_cases hn : (ls2 R C s.f t).1 < 0
    · rw [sfOut_stop hn] at he
      cases he
      rcases ls2_cases R C s.f t with ⟨_, h⟩ | ⟨p, q, e, _⟩
      · refine ⟨fun a h1 h2 => ?_, fun a h1 h2 => ?_⟩
        · by_cases hat : a < t
          · exact hc.1 a hat
          · rw [h a a (by omega) h1 (by omega) h2]; exact Int.le_refl _
        · by_cases hat : a < t
          · exact hc.2 a (a + 1) (a + 1) hat (by omega) h1 (by omega) h2
          · rw [h (a + 1) (a + 1) (by omega) h1 (by omega) h2]; exact Int.dvd_zero _
      · rw [e] at hn; dsimp only at hn; omega
    · rw [sfOut_go hn] at he
      unfold sfGo at he
      rcases hi : sfIn R C t s with _ | s2
      · rw [hi] at he; cases he
      · rw [hi] at he
        have ht : t < R ∧ t < C := by omega
        have g2 := sfIn_gd ht.1 ht.2 _ s (Nat.le_refl _) hg hn s2 hi
        have p2 := (Chn.stays R C t (by omega) (by omega)).in_ ht.1 ht.2 _ s (Nat.le_refl _) hg hc hn s2 hi
        have d2 := sfIn_dn ht.1 ht.2 _ s (Nat.le_refl _) hg hn s2 hi
        have o1 : ∀ (x y : Nat), x ≠ t → opM s2.f t x y = s2.f x y := fun x y hne => by unfold opM; rw [if_neg hne]
        have o2 : ∀ y, y < C → opM s2.f t t y = -s2.f t y := fun y hy => opM_at (g2.ok.f t y ht.1 hy)
        have pN : Chn R C (t + 1) (sfN t s2) := by
          unfold sfN
          split
          · rename_i hneg
            have dv : ∀ a x y, a < t + 1 → a ≤ x → x < R → a ≤ y → y < C → s2.f a a ∣ s2.f x y := fun a x y ha hx hxR hy hyC => by
              by_cases e : a = t
              · subst e; exact d2.dvd g2 hx hxR hy hyC
              · exact p2.2 a x y (by omega) hx hxR hy hyC
            refine ⟨fun a ha => ?_, fun a x y ha hx hxR hy hyC => ?_⟩
            · show 0 ≤ opM s2.f t a a
              by_cases e : a = t
              · subst e; rw [o2 a ht.2]; omega
              · rw [o1 a a e]; exact p2.1 a (by omega)
            · show opM s2.f t a a ∣ opM s2.f t x y
              have h5 := dv a x y ha hx hxR hy hyC
              have h6 : opM s2.f t a a ∣ s2.f x y := by
                by_cases e : a = t
                · subst e; rw [o2 a ht.2]; exact Int.neg_dvd.2 h5
                · rw [o1 a a e]; exact h5
              by_cases e : x = t
              · subst e; rw [o2 y hyC]; exact Int.dvd_neg.2 h6
              · rw [o1 x y e]; exact h6
          · rename_i hpos
            refine ⟨fun a ha => ?_, fun a x y ha hx hxR hy hyC => ?_⟩
            · by_cases e : a = t
              · subst e; omega
              · exact p2.1 a (by omega)
            · by_cases e : a = t
              · subst e; exact d2.dvd g2 hx hxR hy hyC
              · exact p2.2 a x y (by omega) hx hxR hy hyC
        exact sfOut_chn m (t + 1) (sfN t s2) s' (by omega) (g2.n ht.1) pN he
theorem sfX_dia {R C : Nat} {xs : List Int} {s : SS} (h : sfX R C xs = some s) : Dia R C s := by
  rcases hm : isMat (R : Int) (C : Int) xs with _ | _
  · rw [sfX_no hm] at h; cases h
  · rw [sfX_yes hm] at h
    have M := isMat_iff.1 hm
    have hs := start_gd (R := R) (C := C) M.num
    exact sfOut_chn _ _ _ _ (by omega) ⟨⟨hs.ok.f, hs.ok.g, idF_ok C C⟩, ⟨hs.nb.f, hs.nb.g, idF_nb⟩⟩ ⟨fun a h => by omega, fun a x y h => by omega⟩ h
end Go.Proofs.Ytacjonkehcamgaa

/-
  DERIVED. leastFrom of a work.
-/
namespace Go.Proofs.Ytacjonkehcamgaa
open Go.RowKit
set_option linter.unusedVariables false
set_option linter.unusedSimpArgs false
theorem lsI_next {f : Fn2} {i t j : Nat} {st : Int × Int} (h : t ≤ j) : lsI f i t st (j + 1 - t) = if f i j ≠ 0 ∧ ((lsI f i t st (j - t)).1 < 0 ∨ (f i j).natAbs < (f (lsI f i t st (j - t)).1.toNat (lsI f i t st (j - t)).2.toNat).natAbs) then (((i : Nat) : Int), ((j : Nat) : Int)) else lsI f i t st (j - t) := by
  rw [show j + 1 - t = (j - t) + 1 by omega, lsI_succ, show t + (j - t) = j by omega]
theorem lsO_next {f : Fn2} {i t D : Nat} (h : t ≤ i) : lsO f t D (i + 1 - t) = lsI f i t (lsO f t D (i - t)) D := by
  rw [show i + 1 - t = (i - t) + 1 by omega]
  show lsI f (t + (i - t)) t _ D = _
  rw [show t + (i - t) = i by omega]
theorem lsI_form {f : Fn2} {R C t i j : Nat} (hti : t ≤ i) (hiR : i < R) (htj : t ≤ j) (hj : j ≤ C) : lsI f i t (lsO f t (C - t) (i - t)) (j - t) = (-1, -1) ∨
    ∃ p q : Nat, lsI f i t (lsO f t (C - t) (i - t)) (j - t) = ((p : Int), (q : Int)) ∧ p < R ∧ q < C ∧ f p q ≠ 0 := by
  have h := lsI_P (f := f) (t := t) (D := C - t) (i := i) hti ((lsO_P f t (C - t) (i - t)).as fun a b => by omega) (j - t) (by omega)
  rcases h with ⟨h1, _⟩ | ⟨p, q, h1, h2, h3, _⟩
  · exact .inl h1
  · exact .inr ⟨p, q, h1, by omega, by omega, h3⟩
/-- Two numbers and a flag. -/
def P2V (o : Int × Int) (w : World) (e : Ending) (w' : World) : Prop := e = .returned (.tuple #[.int .i64 o.1, .int .i64 o.2, .bool (decide (0 ≤ o.1))]) ∧ Below w.heap.size w w'
set_option maxRecDepth 100000 in
set_option maxHeartbeats 4000000 in
theorem impl_leastFrom (B b R C t : Nat) (f g h : Fn2) (bd : Bool) (w : World) (hK : WK w B b R C f g h bd) (ht : t ≤ R) (htC : t ≤ C) (hf : OKF R C f) (hC : C ≤ 24) (hR : R ≤ 24) :
    Calls Try.prog 155 #[.pointer (some ⟨b, 0, none⟩), .int .i64 t] w (P2V (ls2 R C f t) w) := by
  obtain ⟨A, n, cap, A2, n2, cap2, A3, n3, cap3, hW0⟩ := hK
  have HF := Lib.hid hf
  clear hf
  go_enter Try.func155, Try.ntmps155
  go_wp2_with fail
  go_loopw [7, 8, 9] (fun u v x wr => ∃ (i : Nat) (o : Int × Int), x = .int .i64 i ∧ lsO f t (C - t) (i - t) = o ∧ u = .int .i64 o.1 ∧ v = .int .i64 o.2 ∧ t ≤ i ∧ i ≤ R ∧ WB wr B b R C f g h bd A n cap A2 n2 cap2 A3 n3 cap3 ∧ Below w.heap.size w wr) (fun _ _ x _ => R - (intOf x).toNat)
  case atStart => exact ⟨t, (-1, -1), rfl, by rw [Nat.sub_self]; rfl, rfl, rfl, Nat.le_refl _, ht, hW0, Kw⟩
  case round =>
    clear hW0
    obtain ⟨i, o, rfl, hO, rfl, rfl, hti, hiR, hW, hbw⟩ := hrel
    obtain ⟨c0, c1, c2, c3, c4, c5, c6, c7, c8, c9, cf, cl⟩ := hW.cells
    have hsz := hbw.size
    by_cases hlt : i < R
    · have HO := Lib.hid hO
      have HO0 : Hid (lsI f i t (lsO f t (C - t) (i - t)) (t - t) = o) := Lib.hid (by rw [Nat.sub_self]; exact hO)
      clear hO
      go_wp2_with fail
      obtain ⟨wo2, rfl⟩ : ∃ wo : World, wo = wr := ⟨_, rfl⟩
      go_loopw [7, 8, 10] (fun u v x wr => ∃ (j : Nat) (o : Int × Int), x = .int .i64 j ∧ lsI f i t (lsO f t (C - t) (i - t)) (j - t) = o ∧ u = .int .i64 o.1 ∧ v = .int .i64 o.2 ∧ t ≤ j ∧ j ≤ C ∧ WB wr B b R C f g h bd A n cap A2 n2 cap2 A3 n3 cap3 ∧ Below w.heap.size w wr) (fun _ _ x _ => C - (intOf x).toNat)
      case atStart => exact ⟨t, o, rfl, HO0.out, rfl, rfl, Nat.le_refl _, htC, hW, hbw⟩
      case round =>
        clear c0 c1 c2 c3 c4 c5 c6 c7 c8 c9 cf cl
        clear hW hbw HO0 HO hsz
        obtain ⟨j, o2, rfl, hO, rfl, rfl, htj, hjC, hW, hbw⟩ := hrel
        obtain ⟨c0, c1, c2, c3, c4, c5, c6, c7, c8, c9, cf, cl⟩ := hW.cells
        have hsz := hbw.size
        by_cases hjl : j < C
        · have hn := HF.out i j hlt hjl
          have hx := lsI_next (f := f) (i := i) (st := lsO f t (C - t) (i - t)) htj
          have hcs := lsI_form (f := f) (C := C) hti hlt htj (Nat.le_of_lt hjl)
          rw [hO] at hx hcs
          by_cases hz : f i j = 0
          · rw [if_neg (by simp [hz])] at hx
            have HX := Lib.hid hx
            have hnz : ((((f i j).natAbs : Nat) : Int) != 0) = false := by simp [hz]
            obtain ⟨y1, y2⟩ := hn
            clear hx hz hcs hO
            generalize hv : f i j = v at *
            have HV := Lib.hid hv
            clear hv
            go_wp2_with fail
            (refine (impl_at_tb R C i j A n cap f (v) HV.out _ (B := B) (by have hm := hW.m; (with_reducible (repeat (first | exact hm | refine OR.drew ?_ | refine OR.drewN ?_ _ | refine OR.alloc ?_ _ | refine OR.b_ ?_ | refine OR.l_ ?_)))) (by omega) (by omega) (by omega) (by omega)).mono ?_; rintro e w1 ⟨rfl, hb1⟩; (have hW_1 : WB w1 B b R C f g h bd A n cap A2 n2 cap2 A3 n3 cap3 := by (with_reducible (repeat (first | exact hW | refine WB.b_ ?_ | refine WB.drew ?_ | refine WB.drewN ?_ _ | refine WB.alloc ?_ _)))); (have hbw_1 : Below w.heap.size w w1 := Kw); (have hsz_1 := hbw_1.size); clear hW hbw hb1; clear c0 c1 c2 c3 c4 c5 c6 c7 c8 c9 cf cl; have hW := hW_1; have hbw := hbw_1; clear hW_1 hbw_1; obtain ⟨c0, c1, c2, c3, c4, c5, c6, c7, c8, c9, cf, cl⟩ := hW.cells)
            go_wp2_with (go_at_call 169; refine (impl_absInt _ _ (by omega) (by omega)).mono ?_; rintro e w' ⟨rfl, rfl⟩)
            go_roundw
            case rel => exact ⟨j + 1, _, by go_num, HX.out, rfl, rfl, by omega, by omega, hW, hbw⟩
            case measure => simp only [intOf]; omega
          · rcases hcs with rfl | ⟨p, q, rfl, hpR, hqC, hpq⟩
            · rw [if_pos ⟨hz, .inl (by decide)⟩] at hx
              have HX := Lib.hid hx
              obtain ⟨y1, y2⟩ := hn
              have hnz : ((((f i j).natAbs : Nat) : Int) != 0) = true := by simp; omega
              clear hx hz hO
              generalize hv : f i j = v at *
              have HV := Lib.hid hv
              clear hv
              go_wp2_with fail
              (refine (impl_at_tb R C i j A n cap f (v) HV.out _ (B := B) (by have hm := hW.m; (with_reducible (repeat (first | exact hm | refine OR.drew ?_ | refine OR.drewN ?_ _ | refine OR.alloc ?_ _ | refine OR.b_ ?_ | refine OR.l_ ?_)))) (by omega) (by omega) (by omega) (by omega)).mono ?_; rintro e w1 ⟨rfl, hb1⟩; (have hW_1 : WB w1 B b R C f g h bd A n cap A2 n2 cap2 A3 n3 cap3 := by (with_reducible (repeat (first | exact hW | refine WB.b_ ?_ | refine WB.drew ?_ | refine WB.drewN ?_ _ | refine WB.alloc ?_ _)))); (have hbw_1 : Below w.heap.size w w1 := Kw); (have hsz_1 := hbw_1.size); clear hW hbw hb1; clear c0 c1 c2 c3 c4 c5 c6 c7 c8 c9 cf cl; have hW := hW_1; have hbw := hbw_1; clear hW_1 hbw_1; obtain ⟨c0, c1, c2, c3, c4, c5, c6, c7, c8, c9, cf, cl⟩ := hW.cells)
              go_wp2_with (go_at_call 169; refine (impl_absInt _ _ (by omega) (by omega)).mono ?_; rintro e w' ⟨rfl, rfl⟩)
              go_roundw
              case rel => exact ⟨j + 1, _, by go_num, HX.out, rfl, rfl, by omega, by omega, hW, hbw⟩
              case measure => simp only [intOf]; omega
            · simp only [Int.toNat_natCast] at hx
              have hnp := HF.out p q hpR hqC
              obtain ⟨y1, y2⟩ := hn
              obtain ⟨y3, y4⟩ := hnp
              have hnz : ((((f i j).natAbs : Nat) : Int) != 0) = true := by simp; omega
              by_cases hc : (f i j).natAbs < (f p q).natAbs
              · rw [if_pos ⟨hz, .inr hc⟩] at hx
                have HX := Lib.hid hx
                clear hx hz hO hpq
                generalize hv : f i j = v at *
                generalize hv2 : f p q = v2 at *
                have HV := Lib.hid hv
                have HV2 := Lib.hid hv2
                clear hv hv2
                go_wp2_with fail
                (refine (impl_at_tb R C i j A n cap f (v) HV.out _ (B := B) (by have hm := hW.m; (with_reducible (repeat (first | exact hm | refine OR.drew ?_ | refine OR.drewN ?_ _ | refine OR.alloc ?_ _ | refine OR.b_ ?_ | refine OR.l_ ?_)))) (by omega) (by omega) (by omega) (by omega)).mono ?_; rintro e w1 ⟨rfl, hb1⟩; (have hW_1 : WB w1 B b R C f g h bd A n cap A2 n2 cap2 A3 n3 cap3 := by (with_reducible (repeat (first | exact hW | refine WB.b_ ?_ | refine WB.drew ?_ | refine WB.drewN ?_ _ | refine WB.alloc ?_ _)))); (have hbw_1 : Below w.heap.size w w1 := Kw); (have hsz_1 := hbw_1.size); clear hW hbw hb1; clear c0 c1 c2 c3 c4 c5 c6 c7 c8 c9 cf cl; have hW := hW_1; have hbw := hbw_1; clear hW_1 hbw_1; obtain ⟨c0, c1, c2, c3, c4, c5, c6, c7, c8, c9, cf, cl⟩ := hW.cells)
                go_wp2_with (go_at_call 169; refine (impl_absInt _ _ (by omega) (by omega)).mono ?_; rintro e w' ⟨rfl, rfl⟩)
                (refine (impl_at_tb R C p q A n cap f (v2) HV2.out _ (B := B) (by have hm := hW.m; (with_reducible (repeat (first | exact hm | refine OR.drew ?_ | refine OR.drewN ?_ _ | refine OR.alloc ?_ _ | refine OR.b_ ?_ | refine OR.l_ ?_)))) (by omega) (by omega) (by omega) (by omega)).mono ?_; rintro e w1 ⟨rfl, hb1⟩; (have hW_1 : WB w1 B b R C f g h bd A n cap A2 n2 cap2 A3 n3 cap3 := by (with_reducible (repeat (first | exact hW | refine WB.b_ ?_ | refine WB.drew ?_ | refine WB.drewN ?_ _ | refine WB.alloc ?_ _)))); (have hbw_1 : Below w.heap.size w w1 := Kw); (have hsz_1 := hbw_1.size); clear hW hbw hb1; clear c0 c1 c2 c3 c4 c5 c6 c7 c8 c9 cf cl; have hW := hW_1; have hbw := hbw_1; clear hW_1 hbw_1; obtain ⟨c0, c1, c2, c3, c4, c5, c6, c7, c8, c9, cf, cl⟩ := hW.cells)
                go_wp2_with (go_at_call 169; refine (impl_absInt _ _ (by omega) (by omega)).mono ?_; rintro e w' ⟨rfl, rfl⟩)
                go_roundw
                case rel => exact ⟨j + 1, _, by go_num, HX.out, rfl, rfl, by omega, by omega, hW, hbw⟩
                case measure => simp only [intOf]; omega
              · rw [if_neg (by rintro ⟨_, h5⟩; omega)] at hx
                have HX := Lib.hid hx
                clear hx hz hO hpq
                generalize hv : f i j = v at *
                generalize hv2 : f p q = v2 at *
                have HV := Lib.hid hv
                have HV2 := Lib.hid hv2
                clear hv hv2
                go_wp2_with fail
                (refine (impl_at_tb R C i j A n cap f (v) HV.out _ (B := B) (by have hm := hW.m; (with_reducible (repeat (first | exact hm | refine OR.drew ?_ | refine OR.drewN ?_ _ | refine OR.alloc ?_ _ | refine OR.b_ ?_ | refine OR.l_ ?_)))) (by omega) (by omega) (by omega) (by omega)).mono ?_; rintro e w1 ⟨rfl, hb1⟩; (have hW_1 : WB w1 B b R C f g h bd A n cap A2 n2 cap2 A3 n3 cap3 := by (with_reducible (repeat (first | exact hW | refine WB.b_ ?_ | refine WB.drew ?_ | refine WB.drewN ?_ _ | refine WB.alloc ?_ _)))); (have hbw_1 : Below w.heap.size w w1 := Kw); (have hsz_1 := hbw_1.size); clear hW hbw hb1; clear c0 c1 c2 c3 c4 c5 c6 c7 c8 c9 cf cl; have hW := hW_1; have hbw := hbw_1; clear hW_1 hbw_1; obtain ⟨c0, c1, c2, c3, c4, c5, c6, c7, c8, c9, cf, cl⟩ := hW.cells)
                go_wp2_with (go_at_call 169; refine (impl_absInt _ _ (by omega) (by omega)).mono ?_; rintro e w' ⟨rfl, rfl⟩)
                (refine (impl_at_tb R C p q A n cap f (v2) HV2.out _ (B := B) (by have hm := hW.m; (with_reducible (repeat (first | exact hm | refine OR.drew ?_ | refine OR.drewN ?_ _ | refine OR.alloc ?_ _ | refine OR.b_ ?_ | refine OR.l_ ?_)))) (by omega) (by omega) (by omega) (by omega)).mono ?_; rintro e w1 ⟨rfl, hb1⟩; (have hW_1 : WB w1 B b R C f g h bd A n cap A2 n2 cap2 A3 n3 cap3 := by (with_reducible (repeat (first | exact hW | refine WB.b_ ?_ | refine WB.drew ?_ | refine WB.drewN ?_ _ | refine WB.alloc ?_ _)))); (have hbw_1 : Below w.heap.size w w1 := Kw); (have hsz_1 := hbw_1.size); clear hW hbw hb1; clear c0 c1 c2 c3 c4 c5 c6 c7 c8 c9 cf cl; have hW := hW_1; have hbw := hbw_1; clear hW_1 hbw_1; obtain ⟨c0, c1, c2, c3, c4, c5, c6, c7, c8, c9, cf, cl⟩ := hW.cells)
                go_wp2_with (go_at_call 169; refine (impl_absInt _ _ (by omega) (by omega)).mono ?_; rintro e w' ⟨rfl, rfl⟩)
                go_roundw
                case rel => exact ⟨j + 1, _, by go_num, HX.out, rfl, rfl, by omega, by omega, hW, hbw⟩
                case measure => simp only [intOf]; omega
        · obtain rfl : j = C := by omega
          have HX : Hid (lsO f t (j - t) (i + 1 - t) = o2) := Lib.hid (by rw [lsO_next hti]; exact hO)
          clear hO
          go_wp2_with fail
          go_roundw
          case rel => exact ⟨i + 1, o2, by go_num, HX.out, rfl, rfl, by omega, by omega, hW, hbw⟩
          case measure => simp only [intOf]; omega
    · obtain rfl : i = R := by omega
      have HX : Hid (ls2 i C f t = o) := Lib.hid hO
      have hb : -1 ≤ o.1 ∧ o.1 ≤ 100 := by
        rcases ls2_cases i C f t with ⟨e, _⟩ | ⟨p, q, e, h3, _⟩
        · rw [← HX.out, e]; decide
        · rw [← HX.out, e]; dsimp only; omega
      clear hO
      go_wp2_with fail
      go_ret3
      rw [HX.out]
      exact ⟨rfl, Kw⟩
end Go.Proofs.Ytacjonkehcamgaa

/-
  DERIVED. leastIn and others of a work.
-/
namespace Go.Proofs.Ytacjonkehcamgaa
open Go.RowKit
set_option linter.unusedVariables false
set_option linter.unusedSimpArgs false
theorem lst_succ {f : Fn2} {j t i : Nat} (h : t ≤ i) : lstK f j t (i + 1 - t) = if f i j ≠ 0 ∧ (lstK f j t (i - t) < 0 ∨ (f i j).natAbs < (f (lstK f j t (i - t)).toNat j).natAbs) then (i : Int) else lstK f j t (i - t) := by
  rw [show i + 1 - t = (i - t) + 1 by omega, lstK_succ, show t + (i - t) = i by omega]
set_option maxRecDepth 100000 in
set_option maxHeartbeats 4000000 in
theorem impl_leastIn (B b R C t j : Nat) (f g h : Fn2) (bd : Bool) (w : World) (hK : WK w B b R C f g h bd) (ht : t ≤ R) (hj : j < C) (hf : OKF R C f) (hC : C ≤ 24) (hR : R ≤ 24) :
    Calls Try.prog 145 #[.pointer (some ⟨b, 0, none⟩), .int .i64 t, .int .i64 j] w (BV (.int .i64 (lst R f j t)) w) := by
  obtain ⟨A, n, cap, A2, n2, cap2, A3, n3, cap3, hW0⟩ := hK
  have HF := Lib.hid hf
  clear hf
  go_enter Try.func145, Try.ntmps145
  go_wp2_with fail
  go_loopw [7, 8, 9] (fun u v _ wr => ∃ (i : Nat), v = .int .i64 i ∧ u = .int .i64 (lstK f j t (i - t)) ∧ t ≤ i ∧ i ≤ R ∧ WB wr B b R C f g h bd A n cap A2 n2 cap2 A3 n3 cap3 ∧ Below w.heap.size w wr) (fun _ v _ _ => R - (intOf v).toNat)
  case atStart => exact ⟨t, rfl, by rw [Nat.sub_self]; rfl, Nat.le_refl _, ht, hW0, Kw⟩
  case round =>
    clear hW0
    obtain ⟨i, rfl, rfl, hti, hiR, hW, hbw⟩ := hrel
    obtain ⟨c0, c1, c2, c3, c4, c5, c6, c7, c8, c9, cf, cl⟩ := hW.cells
    have hsz := hbw.size
    by_cases hlt : i < R
    · have hn := HF.out i j hlt hj
      have HS := Lib.hid (lst_succ (f := f) (j := j) hti)
      have hcs := lstK_cases f j t (i - t)
      by_cases hz : f i j = 0
      · have hx := HS.out
        rw [if_neg (by simp [hz])] at hx
        have HX := Lib.hid hx
        have hnz : ((((f i j).natAbs : Nat) : Int) != 0) = false := by simp [hz]
        obtain ⟨y1, y2⟩ := hn
        have hb : -1 ≤ lstK f j t (i - t) ∧ lstK f j t (i - t) ≤ 100 := by
          rcases hcs with ⟨e, _⟩ | ⟨p, e, _, h3, _⟩
          · omega
          · omega
        obtain ⟨b1, b2⟩ := hb
        clear hx hz hcs HS
        generalize lstK f j t (i - t) = q at *
        generalize hv : f i j = v at *
        have HV := Lib.hid hv
        clear hv
        go_wp2_with fail
        (refine (impl_at_tb R C i j A n cap f (v) HV.out _ (B := B) (by have hm := hW.m; (with_reducible (repeat (first | exact hm | refine OR.drew ?_ | refine OR.drewN ?_ _ | refine OR.alloc ?_ _ | refine OR.b_ ?_ | refine OR.l_ ?_)))) (by omega) (by omega) (by omega) (by omega)).mono ?_; rintro e w1 ⟨rfl, hb1⟩; (have hW_1 : WB w1 B b R C f g h bd A n cap A2 n2 cap2 A3 n3 cap3 := by (with_reducible (repeat (first | exact hW | refine WB.b_ ?_ | refine WB.drew ?_ | refine WB.drewN ?_ _ | refine WB.alloc ?_ _)))); (have hbw_1 : Below w.heap.size w w1 := Kw); (have hsz_1 := hbw_1.size); clear hW hbw hb1; clear c0 c1 c2 c3 c4 c5 c6 c7 c8 c9 cf cl; have hW := hW_1; have hbw := hbw_1; clear hW_1 hbw_1; obtain ⟨c0, c1, c2, c3, c4, c5, c6, c7, c8, c9, cf, cl⟩ := hW.cells)
        go_wp2_with (go_at_call 169; refine (impl_absInt _ _ (by omega) (by omega)).mono ?_; rintro e w' ⟨rfl, rfl⟩)
        go_roundw
        case rel => exact ⟨i + 1, by go_num, by rw [HX.out], by omega, by omega, hW, hbw⟩
        case measure => simp only [intOf]; omega
      · rcases hcs with ⟨e, _⟩ | ⟨p, e, h2, h3, h4, _⟩
        · have hx := HS.out
          rw [if_pos ⟨hz, .inl (by omega)⟩] at hx
          have HX := Lib.hid hx
          rw [e]
          obtain ⟨y1, y2⟩ := hn
          have hnz : ((((f i j).natAbs : Nat) : Int) != 0) = true := by simp; omega
          clear hx hz HS e
          generalize hv : f i j = v at *
          have HV := Lib.hid hv
          clear hv
          go_wp2_with fail
          (refine (impl_at_tb R C i j A n cap f (v) HV.out _ (B := B) (by have hm := hW.m; (with_reducible (repeat (first | exact hm | refine OR.drew ?_ | refine OR.drewN ?_ _ | refine OR.alloc ?_ _ | refine OR.b_ ?_ | refine OR.l_ ?_)))) (by omega) (by omega) (by omega) (by omega)).mono ?_; rintro e w1 ⟨rfl, hb1⟩; (have hW_1 : WB w1 B b R C f g h bd A n cap A2 n2 cap2 A3 n3 cap3 := by (with_reducible (repeat (first | exact hW | refine WB.b_ ?_ | refine WB.drew ?_ | refine WB.drewN ?_ _ | refine WB.alloc ?_ _)))); (have hbw_1 : Below w.heap.size w w1 := Kw); (have hsz_1 := hbw_1.size); clear hW hbw hb1; clear c0 c1 c2 c3 c4 c5 c6 c7 c8 c9 cf cl; have hW := hW_1; have hbw := hbw_1; clear hW_1 hbw_1; obtain ⟨c0, c1, c2, c3, c4, c5, c6, c7, c8, c9, cf, cl⟩ := hW.cells)
          go_wp2_with (go_at_call 169; refine (impl_absInt _ _ (by omega) (by omega)).mono ?_; rintro e w' ⟨rfl, rfl⟩)
          go_roundw
          case rel => exact ⟨i + 1, by go_num, by rw [HX.out], by omega, by omega, hW, hbw⟩
          case measure => simp only [intOf]; omega
        · have e2 : (lstK f j t (i - t)).toNat = p := by omega
          have hx := HS.out
          rw [e2] at hx
          have hnp := HF.out p j (by omega) hj
          obtain ⟨y1, y2⟩ := hn
          obtain ⟨y3, y4⟩ := hnp
          have hnz : ((((f i j).natAbs : Nat) : Int) != 0) = true := by simp; omega
          rw [e] at hx ⊢
          have hpR : p < R := by omega
          by_cases hc : (f i j).natAbs < (f p j).natAbs
          · rw [if_pos ⟨hz, .inr hc⟩] at hx
            have HX := Lib.hid hx
            clear hx hz HS e h4 e2
            generalize hv : f i j = v at *
            generalize hv2 : f p j = v2 at *
            have HV := Lib.hid hv
            have HV2 := Lib.hid hv2
            clear hv hv2
            go_wp2_with fail
            (refine (impl_at_tb R C i j A n cap f (v) HV.out _ (B := B) (by have hm := hW.m; (with_reducible (repeat (first | exact hm | refine OR.drew ?_ | refine OR.drewN ?_ _ | refine OR.alloc ?_ _ | refine OR.b_ ?_ | refine OR.l_ ?_)))) (by omega) (by omega) (by omega) (by omega)).mono ?_; rintro e w1 ⟨rfl, hb1⟩; (have hW_1 : WB w1 B b R C f g h bd A n cap A2 n2 cap2 A3 n3 cap3 := by (with_reducible (repeat (first | exact hW | refine WB.b_ ?_ | refine WB.drew ?_ | refine WB.drewN ?_ _ | refine WB.alloc ?_ _)))); (have hbw_1 : Below w.heap.size w w1 := Kw); (have hsz_1 := hbw_1.size); clear hW hbw hb1; clear c0 c1 c2 c3 c4 c5 c6 c7 c8 c9 cf cl; have hW := hW_1; have hbw := hbw_1; clear hW_1 hbw_1; obtain ⟨c0, c1, c2, c3, c4, c5, c6, c7, c8, c9, cf, cl⟩ := hW.cells)
            go_wp2_with (go_at_call 169; refine (impl_absInt _ _ (by omega) (by omega)).mono ?_; rintro e w' ⟨rfl, rfl⟩)
            (refine (impl_at_tb R C p j A n cap f (v2) HV2.out _ (B := B) (by have hm := hW.m; (with_reducible (repeat (first | exact hm | refine OR.drew ?_ | refine OR.drewN ?_ _ | refine OR.alloc ?_ _ | refine OR.b_ ?_ | refine OR.l_ ?_)))) (by omega) (by omega) (by omega) (by omega)).mono ?_; rintro e w1 ⟨rfl, hb1⟩; (have hW_1 : WB w1 B b R C f g h bd A n cap A2 n2 cap2 A3 n3 cap3 := by (with_reducible (repeat (first | exact hW | refine WB.b_ ?_ | refine WB.drew ?_ | refine WB.drewN ?_ _ | refine WB.alloc ?_ _)))); (have hbw_1 : Below w.heap.size w w1 := Kw); (have hsz_1 := hbw_1.size); clear hW hbw hb1; clear c0 c1 c2 c3 c4 c5 c6 c7 c8 c9 cf cl; have hW := hW_1; have hbw := hbw_1; clear hW_1 hbw_1; obtain ⟨c0, c1, c2, c3, c4, c5, c6, c7, c8, c9, cf, cl⟩ := hW.cells)
            go_wp2_with (go_at_call 169; refine (impl_absInt _ _ (by omega) (by omega)).mono ?_; rintro e w' ⟨rfl, rfl⟩)
            go_roundw
            case rel => exact ⟨i + 1, by go_num, by rw [HX.out], by omega, by omega, hW, hbw⟩
            case measure => simp only [intOf]; omega
          · rw [if_neg (by rintro ⟨_, h5⟩; omega)] at hx
            have HX := Lib.hid hx
            clear hx hz HS e h4 e2
            generalize hv : f i j = v at *
            generalize hv2 : f p j = v2 at *
            have HV := Lib.hid hv
            have HV2 := Lib.hid hv2
            clear hv hv2
            go_wp2_with fail
            (refine (impl_at_tb R C i j A n cap f (v) HV.out _ (B := B) (by have hm := hW.m; (with_reducible (repeat (first | exact hm | refine OR.drew ?_ | refine OR.drewN ?_ _ | refine OR.alloc ?_ _ | refine OR.b_ ?_ | refine OR.l_ ?_)))) (by omega) (by omega) (by omega) (by omega)).mono ?_; rintro e w1 ⟨rfl, hb1⟩; (have hW_1 : WB w1 B b R C f g h bd A n cap A2 n2 cap2 A3 n3 cap3 := by (with_reducible (repeat (first | exact hW | refine WB.b_ ?_ | refine WB.drew ?_ | refine WB.drewN ?_ _ | refine WB.alloc ?_ _)))); (have hbw_1 : Below w.heap.size w w1 := Kw); (have hsz_1 := hbw_1.size); clear hW hbw hb1; clear c0 c1 c2 c3 c4 c5 c6 c7 c8 c9 cf cl; have hW := hW_1; have hbw := hbw_1; clear hW_1 hbw_1; obtain ⟨c0, c1, c2, c3, c4, c5, c6, c7, c8, c9, cf, cl⟩ := hW.cells)
            go_wp2_with (go_at_call 169; refine (impl_absInt _ _ (by omega) (by omega)).mono ?_; rintro e w' ⟨rfl, rfl⟩)
            (refine (impl_at_tb R C p j A n cap f (v2) HV2.out _ (B := B) (by have hm := hW.m; (with_reducible (repeat (first | exact hm | refine OR.drew ?_ | refine OR.drewN ?_ _ | refine OR.alloc ?_ _ | refine OR.b_ ?_ | refine OR.l_ ?_)))) (by omega) (by omega) (by omega) (by omega)).mono ?_; rintro e w1 ⟨rfl, hb1⟩; (have hW_1 : WB w1 B b R C f g h bd A n cap A2 n2 cap2 A3 n3 cap3 := by (with_reducible (repeat (first | exact hW | refine WB.b_ ?_ | refine WB.drew ?_ | refine WB.drewN ?_ _ | refine WB.alloc ?_ _)))); (have hbw_1 : Below w.heap.size w w1 := Kw); (have hsz_1 := hbw_1.size); clear hW hbw hb1; clear c0 c1 c2 c3 c4 c5 c6 c7 c8 c9 cf cl; have hW := hW_1; have hbw := hbw_1; clear hW_1 hbw_1; obtain ⟨c0, c1, c2, c3, c4, c5, c6, c7, c8, c9, cf, cl⟩ := hW.cells)
            go_wp2_with (go_at_call 169; refine (impl_absInt _ _ (by omega) (by omega)).mono ?_; rintro e w' ⟨rfl, rfl⟩)
            go_roundw
            case rel => exact ⟨i + 1, by go_num, by rw [HX.out], by omega, by omega, hW, hbw⟩
            case measure => simp only [intOf]; omega
    · obtain rfl : i = R := by omega
      have hb : -1 ≤ lstK f j t (i - t) ∧ lstK f j t (i - t) ≤ 100 := by
        rcases lstK_cases f j t (i - t) with ⟨e, _⟩ | ⟨p, e, _, h3, _⟩
        · omega
        · omega
      obtain ⟨b1, b2⟩ := hb
      have HL : Hid (lst i f j t = lstK f j t (i - t)) := Lib.hid rfl
      generalize lstK f j t (i - t) = q at *
      go_wp2_with fail
      go_ret
      exact BV.mk (vint HL.out.symm) hbw
set_option maxRecDepth 100000 in
set_option maxHeartbeats 4000000 in
theorem impl_others (B b R C t p j : Nat) (f g h : Fn2) (bd : Bool) (w : World) (hK : WK w B b R C f g h bd) (ht : t ≤ R) (hj : j < C) (hp : p < R) (hC : C ≤ 24) (hR : R ≤ 24) :
    Calls Try.prog 146 #[.pointer (some ⟨b, 0, none⟩), .int .i64 t, .int .i64 p, .int .i64 j] w (BV (.bool (oth R f j t p)) w) := by
  obtain ⟨A, n, cap, A2, n2, cap2, A3, n3, cap3, hW0⟩ := hK
  have HNO := Lib.hid (oth_no (R := R) (f := f) (j := j) (t := t) (p := p))
  have HYES := Lib.hid (fun i h1 h2 h3 h4 => (oth_iff (R := R) (f := f) (j := j) (t := t) (p := p)).2 ⟨i, h1, h2, h3, h4⟩)
  generalize oth R f j t p = res at *
  go_enter Try.func146, Try.ntmps146
  go_wp2_with fail
  go_loopw [9] (fun v wr => ∃ (i : Nat), v = .int .i64 i ∧ t ≤ i ∧ i ≤ R ∧ (∀ k, t ≤ k → k < i → ¬ (k ≠ p ∧ f k j ≠ 0)) ∧ WB wr B b R C f g h bd A n cap A2 n2 cap2 A3 n3 cap3 ∧ Below w.heap.size w wr) (fun v _ => R - (intOf v).toNat)
  case atStart => exact ⟨t, rfl, Nat.le_refl _, ht, fun k h1 h2 => absurd h1 (by omega), hW0, Kw⟩
  case round =>
    clear hW0
    obtain ⟨i, rfl, hti, hiR, hno, hW, hbw⟩ := hrel
    obtain ⟨c0, c1, c2, c3, c4, c5, c6, c7, c8, c9, cf, cl⟩ := hW.cells
    have hsz := hbw.size
    have HN := Lib.hid hno
    clear hno
    by_cases hlt : i < R
    · by_cases hip : i = p
      · have hb : ((i : Int) != (p : Int)) = false := by simp [hip]
        have HS : Hid (∀ k, t ≤ k → k < i + 1 → ¬ (k ≠ p ∧ f k j ≠ 0)) := Lib.hid (fun k h1 h2 => by
          by_cases e : k = i
          · exact fun h3 => h3.1 (e.trans hip)
          · exact HN.out k h1 (by omega))
        clear hip
        go_wp2_with fail
        go_roundw
        case rel => exact ⟨i + 1, by go_num, by omega, by omega, HS.out, hW, hbw⟩
        case measure => simp only [intOf]; omega
      · have hb : ((i : Int) != (p : Int)) = true := by simp; omega
        have HIP := Lib.hid hip
        clear hip
        by_cases hz : f i j = 0
        · have HS : Hid (∀ k, t ≤ k → k < i + 1 → ¬ (k ≠ p ∧ f k j ≠ 0)) := Lib.hid (fun k h1 h2 => by
            by_cases e : k = i
            · exact fun h3 => h3.2 (by rw [e]; exact hz)
            · exact HN.out k h1 (by omega))
          have hnz : (f i j != 0) = false := by simp [hz]
          clear hz
          generalize hv : f i j = v at *
          have HV := Lib.hid hv
          clear hv
          go_wp2_with fail
          (refine (impl_at_tb R C i j A n cap f (v) HV.out _ (B := B) (by have hm := hW.m; (with_reducible (repeat (first | exact hm | refine OR.drew ?_ | refine OR.drewN ?_ _ | refine OR.alloc ?_ _ | refine OR.b_ ?_ | refine OR.l_ ?_)))) (by omega) (by omega) (by omega) (by omega)).mono ?_; rintro e w1 ⟨rfl, hb1⟩; (have hW_1 : WB w1 B b R C f g h bd A n cap A2 n2 cap2 A3 n3 cap3 := by (with_reducible (repeat (first | exact hW | refine WB.b_ ?_ | refine WB.drew ?_ | refine WB.drewN ?_ _ | refine WB.alloc ?_ _)))); (have hbw_1 : Below w.heap.size w w1 := Kw); (have hsz_1 := hbw_1.size); clear hW hbw hb1; clear c0 c1 c2 c3 c4 c5 c6 c7 c8 c9 cf cl; have hW := hW_1; have hbw := hbw_1; clear hW_1 hbw_1; obtain ⟨c0, c1, c2, c3, c4, c5, c6, c7, c8, c9, cf, cl⟩ := hW.cells)
          go_wp2_with fail
          go_roundw
          case rel => exact ⟨i + 1, by go_num, by omega, by omega, HS.out, hW, hbw⟩
          case measure => simp only [intOf]; omega
        · have HR := Lib.hid (HYES.out i hti hlt HIP.out hz)
          have hnz : (f i j != 0) = true := by simpa using hz
          clear hz
          generalize hv : f i j = v at *
          have HV := Lib.hid hv
          clear hv
          go_wp2_with fail
          (refine (impl_at_tb R C i j A n cap f (v) HV.out _ (B := B) (by have hm := hW.m; (with_reducible (repeat (first | exact hm | refine OR.drew ?_ | refine OR.drewN ?_ _ | refine OR.alloc ?_ _ | refine OR.b_ ?_ | refine OR.l_ ?_)))) (by omega) (by omega) (by omega) (by omega)).mono ?_; rintro e w1 ⟨rfl, hb1⟩; (have hW_1 : WB w1 B b R C f g h bd A n cap A2 n2 cap2 A3 n3 cap3 := by (with_reducible (repeat (first | exact hW | refine WB.b_ ?_ | refine WB.drew ?_ | refine WB.drewN ?_ _ | refine WB.alloc ?_ _)))); (have hbw_1 : Below w.heap.size w w1 := Kw); (have hsz_1 := hbw_1.size); clear hW hbw hb1; clear c0 c1 c2 c3 c4 c5 c6 c7 c8 c9 cf cl; have hW := hW_1; have hbw := hbw_1; clear hW_1 hbw_1; obtain ⟨c0, c1, c2, c3, c4, c5, c6, c7, c8, c9, cf, cl⟩ := hW.cells)
          go_wp2_with fail
          go_ret
          exact BV.mk (vbool HR.out.symm) hbw
    · obtain rfl : i = R := by omega
      have HR := Lib.hid (HNO.out HN.out)
      go_wp2_with fail
      go_ret
      exact BV.mk (vbool HR.out.symm) hbw
end Go.Proofs.Ytacjonkehcamgaa

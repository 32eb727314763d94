/-
  DERIVED. Several small texts in one: PlDet, Sm0, PlainU, PlSp, PlRk, PlainQ2, SmT, PlEc, PlEc2.
-/
import Derived.Test.YtlggfmfelakadaaU3
import Derived.Test.YtlggfmfelakadaaU1
import Derived.Test.YtlggfmfelakadaaU2
/-
  DERIVED. Determinants by expansion along the first row: linear in rows and columns, zero where two rows or two columns are equal. No program in sight.
-/
namespace Go.Proofs.Ytlggfmfelakadaa
set_option linter.unusedVariables false
def sg (j : Nat) : Int := if j % 2 = 1 then -1 else 1
theorem sg_succ (j : Nat) : sg (j + 1) = -sg j := by
  unfold sg
  rcases Nat.mod_two_eq_zero_or_one j with h | h
  · rw [if_pos (by omega), if_neg (by omega)]
  · rw [if_neg (by omega), if_pos (by omega)]; rfl
/-- The column behind the one that is left out. -/
def sk (j b : Nat) : Nat := if b < j then b else b + 1
/-- Without the first row and column j. -/
def mnr (f : Fn2) (j : Nat) : Fn2 := fun a b => f (a + 1) (sk j b)
def Dt : Nat → Fn2 → Int
  | 0, _ => 1
  | n + 1, f => sumTo (fun j => sg j * f 0 j * Dt n (mnr f j)) (n + 1)
theorem Dt_succ (n : Nat) (f : Fn2) : Dt (n + 1) f = sumTo (fun j => sg j * f 0 j * Dt n (mnr f j)) (n + 1) := rfl
theorem sk_lt {j b n : Nat} (h : b < n) : sk j b < n + 1 := by unfold sk; split <;> omega
theorem sk_ne (j b : Nat) : sk j b ≠ j := by unfold sk; split <;> omega
theorem Dt_congr : ∀ (n : Nat) {f g : Fn2}, EqM n n f g → Dt n f = Dt n g
  | 0, _, _, _ => rfl
  | n + 1, f, g, h => by
    rw [Dt_succ, Dt_succ]
    refine sumTo_congr (n + 1) fun j hj => ?_
    have ih : Dt n (mnr f j) = Dt n (mnr g j) := Dt_congr n fun a b ha hb => h (a + 1) (sk j b) (by omega) (sk_lt hb)
    rw [h 0 j (by omega) hj, ih]
/-- Linear in row i. -/
theorem Dt_row : ∀ (n i : Nat) (t : Int) {f g h : Fn2}, i < n → (∀ y, y < n → f i y = g i y + h i y * t) → (∀ x y, x < n → y < n → x ≠ i → f x y = g x y ∧ f x y = h x y) → Dt n f = Dt n g + Dt n h * t
  | 0, i, _, _, _, _, hi, _, _ => absurd hi (Nat.not_lt_zero _)
  | n + 1, 0, t, f, g, h, _, h1, h2 => by
    rw [Dt_succ, Dt_succ, Dt_succ, ← sumTo_mul, ← sumTo_add]
    refine sumTo_congr (n + 1) fun j hj => ?_
    have e1 : Dt n (mnr g j) = Dt n (mnr f j) := Dt_congr n fun a b ha hb => (h2 (a + 1) (sk j b) (by omega) (sk_lt hb) (by omega)).1.symm
    have e2 : Dt n (mnr h j) = Dt n (mnr f j) := Dt_congr n fun a b ha hb => (h2 (a + 1) (sk j b) (by omega) (sk_lt hb) (by omega)).2.symm
    rw [e1, e2, h1 j hj]
    grind
  | n + 1, i + 1, t, f, g, h, hi, h1, h2 => by
    rw [Dt_succ, Dt_succ, Dt_succ, ← sumTo_mul, ← sumTo_add]
    refine sumTo_congr (n + 1) fun j hj => ?_
    have e1 := (h2 0 j (by omega) hj (by omega)).1
    have e2 := (h2 0 j (by omega) hj (by omega)).2
    have ih := Dt_row n i t (f := mnr f j) (g := mnr g j) (h := mnr h j) (by omega) (fun y hy => h1 (sk j y) (sk_lt hy)) (fun x y hx hy hne => h2 (x + 1) (sk j y) (by omega) (sk_lt hy) (by omega))
    rw [ih, ← e1, ← e2]
    grind
/-- Linear in column c. -/
theorem Dt_col : ∀ (n c : Nat) (t : Int) {f g h : Fn2}, c < n → (∀ x, x < n → f x c = g x c + h x c * t) → (∀ x y, x < n → y < n → y ≠ c → f x y = g x y ∧ f x y = h x y) → Dt n f = Dt n g + Dt n h * t
  | 0, c, _, _, _, _, hc, _, _ => absurd hc (Nat.not_lt_zero _)
  | n + 1, c, t, f, g, h, hc, h1, h2 => by
    rw [Dt_succ, Dt_succ, Dt_succ, ← sumTo_mul, ← sumTo_add]
    refine sumTo_congr (n + 1) fun j hj => ?_
    by_cases e : j = c
    · subst e
      have e1 : Dt n (mnr g j) = Dt n (mnr f j) := Dt_congr n fun a b ha hb => (h2 (a + 1) (sk j b) (by omega) (sk_lt hb) (sk_ne j b)).1.symm
      have e2 : Dt n (mnr h j) = Dt n (mnr f j) := Dt_congr n fun a b ha hb => (h2 (a + 1) (sk j b) (by omega) (sk_lt hb) (sk_ne j b)).2.symm
      rw [e1, e2, h1 0 (by omega)]
      grind
    · have e1 := (h2 0 j (by omega) hj e).1
      have e2 := (h2 0 j (by omega) hj e).2
      obtain ⟨c', hc', hk, hk2⟩ : ∃ c', c' < n ∧ sk j c' = c ∧ ∀ y, sk j y = c → y = c' := by
        by_cases hlt : c < j
        · exact ⟨c, by omega, by unfold sk; rw [if_pos hlt], fun y hy => by unfold sk at hy; split at hy <;> omega⟩
        · refine ⟨c - 1, by omega, by unfold sk; rw [if_neg (by omega)]; omega, fun y hy => by unfold sk at hy; split at hy <;> omega⟩
      have ih := Dt_col n c' t (f := mnr f j) (g := mnr g j) (h := mnr h j) hc' (fun x hx => by
        show f (x + 1) (sk j c') = g (x + 1) (sk j c') + h (x + 1) (sk j c') * t
        rw [hk]
        exact h1 (x + 1) (by omega)) (fun x y hx hy hne => h2 (x + 1) (sk j y) (by omega) (sk_lt hy) (fun e2 => hne (hk2 y e2)))
      rw [ih, ← e1, ← e2]
      grind
/-- Two summands only. -/
theorem sumTo_two {f : Nat → Int} {i : Nat} (n : Nat) (hi : i + 1 < n) (h : ∀ k, k < n → k ≠ i → k ≠ i + 1 → f k = 0) : sumTo f n = f i + f (i + 1) := by
  induction n with
  | zero => omega
  | succ n ih =>
    rw [sumTo_succ]
    by_cases e : i + 1 = n
    · subst e
      rw [sumTo_one (i := i) (i + 1) (by omega) (fun k hk hne => h k (by omega) hne (by omega))]
    · rw [ih (by omega) (fun k hk h1 h2 => h k (by omega) h1 h2), h n (by omega) (by omega) (by omega), Int.add_zero]
/-- Zero where two columns beside each other are equal. -/
theorem Dt_col_eq : ∀ (n c : Nat) {f : Fn2}, c + 1 < n → (∀ x, x < n → f x c = f x (c + 1)) → Dt n f = 0
  | 0, c, _, hc, _ => absurd hc (Nat.not_lt_zero _)
  | n + 1, c, f, hc, h => by
    rw [Dt_succ, sumTo_two (i := c) (n + 1) hc (fun j hj h1 h2 => ?_)]
    · have e : Dt n (mnr f c) = Dt n (mnr f (c + 1)) := Dt_congr n fun a b ha hb => by
        show f (a + 1) (sk c b) = f (a + 1) (sk (c + 1) b)
        by_cases hbc : b = c
        · subst hbc
          have e1 : sk b b = b + 1 := by unfold sk; rw [if_neg (Nat.lt_irrefl _)]
          have e2 : sk (b + 1) b = b := by unfold sk; rw [if_pos (by omega)]
          rw [e1, e2]
          exact (h (a + 1) (by omega)).symm
        · have e3 : sk c b = sk (c + 1) b := by unfold sk; split <;> split <;> omega
          rw [e3]
      rw [e, sg_succ, h 0 (by omega)]
      grind
    · have hz : Dt n (mnr f j) = 0 := by
        obtain ⟨c', hc', e1, e2⟩ : ∃ c', c' + 1 < n ∧ sk j c' = c ∧ sk j (c' + 1) = c + 1 := by
          by_cases hlt : c < j
          · exact ⟨c, by omega, by unfold sk; rw [if_pos hlt], by unfold sk; rw [if_pos (by omega)]⟩
          · exact ⟨c - 1, by omega, by unfold sk; rw [if_neg (by omega)]; omega, by unfold sk; rw [if_neg (by omega)]; omega⟩
        refine Dt_col_eq n c' hc' fun x hx => ?_
        show f (x + 1) (sk j c') = f (x + 1) (sk j (c' + 1))
        rw [e1, e2]
        exact h (x + 1) (by omega)
      rw [hz, Int.mul_zero]
/-- A sum over pairs that change sign when turned is zero. -/
theorem sumTo_anti {g : Nat → Nat → Int} (n : Nat) (h : ∀ a b, a < n → b < n → g a b = -g b a) : sumTo (fun a => sumTo (fun b => g a b) n) n = 0 := by
  have e : sumTo (fun a => sumTo (fun b => g a b) n) n = sumTo (fun a => -sumTo (fun b => g b a) n) n :=
    sumTo_congr n fun a ha => by
      rw [← sumTo_neg]
      exact sumTo_congr n fun b hb => h a b ha hb
  rw [sumTo_neg, sumTo_swap (fun a b => g b a) n n] at e
  omega
/-- A sum that leaves one place out. -/
theorem sumTo_skip {g : Nat → Int} {j : Nat} : ∀ n, j < n + 1 → sumTo (fun k => g (sk j k)) n = sumTo (fun b => if b = j then 0 else g b) (n + 1)
  | 0, hj => by
    have : j = 0 := by omega
    subst this
    rfl
  | n + 1, hj => by
    by_cases e : j = n + 1
    · subst e
      rw [sumTo_succ _ (n + 1), if_pos rfl, Int.add_zero]
      refine sumTo_congr (n + 1) fun k hk => ?_
      unfold sk
      rw [if_pos hk, if_neg (by omega)]
    · rw [sumTo_succ _ n, sumTo_skip n (by omega), sumTo_succ _ (n + 1), if_neg (by omega)]
      have : sk j n = n + 1 := by unfold sk; rw [if_neg (by omega)]
      rw [this]
/-- Without two rows and two columns, whichever goes first. -/
theorem mnr_two {f : Fn2} {a b : Nat} (h : a < b) : mnr (mnr f b) a = mnr (mnr f a) (b - 1) := by
  funext x y
  show f (x + 1 + 1) (sk b (sk a y)) = f (x + 1 + 1) (sk a (sk (b - 1) y))
  have : sk b (sk a y) = sk a (sk (b - 1) y) := by
    unfold sk
    repeat' split
    all_goals omega
  rw [this]
/-- Zero where two rows beside each other are equal. -/
theorem Dt_row_eq : ∀ (n i : Nat) {f : Fn2}, i + 1 < n → (∀ y, y < n → f i y = f (i + 1) y) → Dt n f = 0
  | 0, i, _, hi, _ => absurd hi (Nat.not_lt_zero _)
  | n + 1, i + 1, f, hi, h => by
    rw [Dt_succ]
    refine sumTo_null (n + 1) fun j hj => ?_
    rw [Dt_row_eq n i (f := mnr f j) (by omega) (fun y hy => h (sk j y) (sk_lt hy)), Int.mul_zero]
  | 1, 0, f, hi, h => by omega
  | n + 2, 0, f, hi, h => by
    rw [Dt_succ]
    -- the summand for the columns a of row 0 and b of row 1
    have key : ∀ a, a < n + 2 → sg a * f 0 a * Dt (n + 1) (mnr f a) = sumTo (fun b => if b = a then 0 else sg a * f 0 a * ((if b < a then sg b else sg (b - 1)) * f 0 b * Dt n (mnr (mnr f a) (if b < a then b else b - 1)))) (n + 2) := fun a ha => by
      rw [← sumTo_skip (g := fun b => sg a * f 0 a * ((if b < a then sg b else sg (b - 1)) * f 0 b * Dt n (mnr (mnr f a) (if b < a then b else b - 1)))) (n + 1) ha, Dt_succ, ← sumTo_mul']
      refine sumTo_congr (n + 1) fun k hk => ?_
      have e0 : mnr f a 0 k = f 0 (sk a k) := (h (sk a k) (sk_lt hk)).symm
      have e1 : (if sk a k < a then sk a k else sk a k - 1) = k := by
        unfold sk
        repeat' split
        all_goals omega
      have e2 : (if sk a k < a then sg (sk a k) else sg (sk a k - 1)) = sg k := by
        by_cases hka : k < a
        · have : sk a k = k := by unfold sk; rw [if_pos hka]
          rw [this, if_pos hka]
        · have : sk a k = k + 1 := by unfold sk; rw [if_neg hka]
          rw [this, if_neg (by omega), Nat.add_sub_cancel]
      rw [e0, e1, e2]
    rw [sumTo_congr (n + 2) key]
    refine sumTo_anti (n + 2) fun a b ha hb => ?_
    by_cases e : b = a
    · subst e; rw [if_pos rfl]; rfl
    · rw [if_neg e, if_neg (show ¬ a = b from fun e2 => e e2.symm)]
      by_cases hlt : b < a
      · rw [if_pos hlt, if_pos hlt, if_neg (show ¬ a < b by omega), if_neg (show ¬ a < b by omega), mnr_two hlt]
        have : sg a = -sg (a - 1) := by
          have := sg_succ (a - 1)
          rwa [Nat.sub_add_cancel (by omega)] at this
        rw [this]
        grind
      · have hlt2 : a < b := by omega
        rw [if_neg hlt, if_neg hlt, if_pos hlt2, if_pos hlt2, mnr_two hlt2]
        have : sg b = -sg (b - 1) := by
          have := sg_succ (b - 1)
          rwa [Nat.sub_add_cancel (by omega)] at this
        rw [this]
        grind
/-- Linear in each row, zero where two rows beside each other are equal. -/
structure Alt (n : Nat) (F : Fn2 → Int) : Prop where
  congr : ∀ (f g : Fn2), EqM n n f g → F f = F g
  lin : ∀ (i : Nat) (t : Int) (f g h : Fn2), i < n → (∀ y, y < n → f i y = g i y + h i y * t) → (∀ x y, x < n → y < n → x ≠ i → f x y = g x y ∧ f x y = h x y) → F f = F g + F h * t
  alt : ∀ (i : Nat) (f : Fn2), i + 1 < n → (∀ y, y < n → f i y = f (i + 1) y) → F f = 0
theorem Dt_alt (n : Nat) : Alt n (Dt n) :=
  ⟨fun f g h => Dt_congr n h, fun i t f g h hi h1 h2 => Dt_row n i t hi h1 h2, fun i f hi h => Dt_row_eq n i hi h⟩
theorem Dt_altC (n : Nat) : Alt n (fun f => Dt n (fun a b => f b a)) :=
  ⟨fun f g h => Dt_congr n fun a b ha hb => h b a hb ha, fun i t f g h hi h1 h2 => Dt_col n i t hi (fun x hx => h1 x hx) (fun x y hx hy hne => h2 y x hy hx hne), fun i f hi h => Dt_col_eq n i hi fun x hx => h x hx⟩
/-- Rows i and j anew. -/
def rw2 (f : Fn2) (i j : Nat) (a b : Nat → Int) : Fn2 := fun x y => if x = i then a y else if x = j then b y else f x y
section
variable {n : Nat} {F : Fn2 → Int}
/-- The exchange of two rows, if equal ones give zero there. -/
theorem Alt.turn (H : Alt n F) {i j : Nat} (hi : i < n) (hj : j < n) (hij : i ≠ j) (hz : ∀ f : Fn2, (∀ y, y < n → f i y = f j y) → F f = 0) (f : Fn2) (a b : Nat → Int) : F (rw2 f i j b a) = -F (rw2 f i j a b) := by
  have hji : j ≠ i := fun e => hij e.symm
  have z : ∀ c, F (rw2 f i j c c) = 0 := fun c => hz _ fun y _ => by unfold rw2; rw [if_pos rfl, if_neg hji, if_pos rfl]
  have l1 : ∀ c, F (rw2 f i j (fun y => a y + b y) c) = F (rw2 f i j a c) + F (rw2 f i j b c) := fun c => by
    have := H.lin i 1 (rw2 f i j (fun y => a y + b y) c) (rw2 f i j a c) (rw2 f i j b c) hi (fun y _ => by unfold rw2; rw [if_pos rfl, if_pos rfl, if_pos rfl, Int.mul_one]) (fun x y _ _ hne => by unfold rw2; rw [if_neg hne, if_neg hne, if_neg hne]; exact ⟨rfl, rfl⟩)
    rw [this, Int.mul_one]
  have l2 : ∀ c, F (rw2 f i j c (fun y => a y + b y)) = F (rw2 f i j c a) + F (rw2 f i j c b) := fun c => by
    have := H.lin j 1 (rw2 f i j c (fun y => a y + b y)) (rw2 f i j c a) (rw2 f i j c b) hj (fun y _ => by unfold rw2; rw [if_neg hji, if_pos rfl, if_neg hji, if_pos rfl, if_neg hji, if_pos rfl, Int.mul_one]) (fun x y _ _ hne => by unfold rw2; rw [if_neg hne, if_neg hne, if_neg hne]; exact ⟨rfl, rfl⟩)
    rw [this, Int.mul_one]
  have h0 := z (fun y => a y + b y)
  rw [l1, l2, l2, z, z] at h0
  omega
theorem rw2_self (f : Fn2) (i j : Nat) : rw2 f i j (f i) (f j) = f := by
  funext x y
  unfold rw2
  split
  · rename_i h; rw [h]
  · split
    · rename_i h; rw [h]
    · rfl
theorem rw2_swap (f : Fn2) {i j : Nat} : rw2 f i j (f j) (f i) = swF f i j := by
  funext x y
  unfold rw2 swF
  split
  · rfl
  · split
    · rfl
    · rfl
theorem Alt.adj (H : Alt n F) {i : Nat} (hi : i + 1 < n) (f : Fn2) : F (swF f i (i + 1)) = -F f := by
  have := H.turn (i := i) (j := i + 1) (by omega) hi (by omega) (fun f h => H.alt i f hi h) f (f i) (f (i + 1))
  rw [rw2_self, rw2_swap] at this
  exact this
/-- Zero where two rows are equal. -/
theorem Alt.same_lt (H : Alt n F) : ∀ (d i : Nat) (f : Fn2), i + d + 1 < n → (∀ y, y < n → f i y = f (i + d + 1) y) → F f = 0
  | 0, i, f, hi, h => H.alt i f hi h
  | d + 1, i, f, hi, h => by
    have h1 := H.adj (i := i + d + 1) (by omega) f
    have h2 : F (swF f (i + d + 1) (i + d + 1 + 1)) = 0 := H.same_lt d i _ (by omega) fun y hy => by
      have e1 : swF f (i + d + 1) (i + d + 1 + 1) i y = f i y := by unfold swF; rw [if_neg (by omega), if_neg (by omega)]
      have e2 : swF f (i + d + 1) (i + d + 1 + 1) (i + d + 1) y = f (i + d + 1 + 1) y := by unfold swF; rw [if_pos rfl]
      rw [e1, e2]
      exact h y hy
    rw [h2] at h1
    omega
theorem Alt.same (H : Alt n F) {i j : Nat} (hi : i < n) (hj : j < n) (hij : i ≠ j) (f : Fn2) (h : ∀ y, y < n → f i y = f j y) : F f = 0 := by
  rcases Nat.lt_or_ge i j with hlt | hge
  · exact H.same_lt (j - i - 1) i f (by omega) (by rw [show i + (j - i - 1) + 1 = j by omega]; exact h)
  · exact H.same_lt (i - j - 1) j f (by omega) (by rw [show j + (i - j - 1) + 1 = i by omega]; exact fun y hy => (h y hy).symm)
theorem Alt.swap (H : Alt n F) {i j : Nat} (hi : i < n) (hj : j < n) (hij : i ≠ j) (f : Fn2) : F (swF f i j) = -F f := by
  have := H.turn hi hj hij (fun f h => H.same hi hj hij f h) f (f i) (f j)
  rw [rw2_self, rw2_swap] at this
  exact this
/-- A multiple of a row added to another one. -/
theorem Alt.add (H : Alt n F) {i j : Nat} {t : Int} {f g : Fn2} (hi : i < n) (hj : j < n) (hij : i ≠ j) (h1 : ∀ y, y < n → g i y = f i y + f j y * t) (h2 : ∀ x y, x < n → y < n → x ≠ i → g x y = f x y) : F g = F f := by
  have h3 := H.lin i t g f (fun x y => if x = i then f j y else f x y) hi (fun y hy => by
    show g i y = f i y + (if i = i then f j y else f i y) * t
    rw [if_pos rfl]
    exact h1 y hy) (fun x y hx hy hne => ⟨h2 x y hx hy hne, by show g x y = if x = i then f j y else f x y; rw [if_neg hne]; exact h2 x y hx hy hne⟩)
  have h4 : F (fun x y => if x = i then f j y else f x y) = 0 := H.same hi hj hij _ fun y hy => by
    show (if i = i then f j y else f i y) = if j = i then f j y else f j y
    rw [if_pos rfl, if_neg (fun e => hij e.symm)]
  rw [h3, h4, Int.zero_mul, Int.add_zero]
theorem Alt.zero (H : Alt n F) {i : Nat} {f : Fn2} (hi : i < n) (h : ∀ y, y < n → f i y = 0) : F f = 0 := by
  have h3 := H.lin i 1 f f f hi (fun y hy => by rw [h y hy]; rfl) (fun x y hx hy hne => ⟨rfl, rfl⟩)
  omega
theorem Alt.scale (H : Alt n F) {i : Nat} {t : Int} {f g : Fn2} (hi : i < n) (h1 : ∀ y, y < n → g i y = f i y * t) (h2 : ∀ x y, x < n → y < n → x ≠ i → g x y = f x y) : F g = F f * t := by
  have h3 := H.lin i t g (fun x y => if x = i then 0 else f x y) f hi (fun y hy => by
    show g i y = (if i = i then 0 else f i y) + f i y * t
    rw [if_pos rfl, h1 y hy, Int.zero_add]) (fun x y hx hy hne => ⟨by show g x y = if x = i then 0 else f x y; rw [if_neg hne]; exact h2 x y hx hy hne, h2 x y hx hy hne⟩)
  have h4 : F (fun x y => if x = i then 0 else f x y) = 0 := H.zero hi fun y hy => by
    show (if i = i then (0 : Int) else f i y) = 0
    rw [if_pos rfl]
  rw [h3, h4, Int.zero_add]
end
/-- A matrix with zeros below the diagonal: the product of the diagonal. -/
theorem Dt_id : ∀ n, Dt n idF = 1
  | 0 => rfl
  | n + 1 => by
    rw [Dt_succ, sumTo_one (i := 0) (n + 1) (by omega) (fun k hk hne => ?_)]
    · have e : Dt n (mnr idF 0) = Dt n idF := Dt_congr n fun a b ha hb => by
        show idF (a + 1) (sk 0 b) = idF a b
        unfold idF sk
        rw [if_neg (Nat.not_lt_zero _)]
        by_cases h : a = b
        · rw [if_pos h, if_pos (by omega)]
        · rw [if_neg h, if_neg (by omega)]
      rw [e, Dt_id n]
      rfl
    · have : idF 0 k = 0 := by unfold idF; rw [if_neg (fun e => hne e.symm)]
      rw [this]
      grind
end Go.Proofs.Ytlggfmfelakadaa

/-
  DERIVED. The Smith form, step by step, as functions of row and column: no program in sight.
-/
namespace Go.Proofs.Ytlggfmfelakadaa
set_option linter.unusedVariables false
def tp (f : Fn2) : Fn2 := fun a b => f b a
theorem tp_tp (f : Fn2) : tp (tp f) = f := rfl
theorem tp_ok {f : Fn2} {R C : Nat} (h : OKF R C f) : OKF C R (tp f) := fun i j hi hj => h j i hj hi
theorem tp_nb {f : Fn2} (h : NBF f) : NBF (tp f) := fun i j => h j i
/-- A matrix, the account of what is done to its rows, that of its columns. -/
structure SS where
  f : Fn2
  g : Fn2
  h : Fn2
def SS.row (s : SS) : HS := ⟨s.f, s.g⟩
def SS.col (s : SS) : HS := ⟨tp s.f, tp s.h⟩
def SS.wr (s : SS) (q : HS) : SS := ⟨q.f, q.g, s.h⟩
def SS.wc (s : SS) (q : HS) : SS := ⟨tp q.f, s.g, tp q.g⟩
structure SS.OK (R C : Nat) (s : SS) : Prop where
  f : OKF R C s.f
  g : OKF R R s.g
  h : OKF C C s.h
structure SS.NBS (s : SS) : Prop where
  f : NBF s.f
  g : NBF s.g
  h : NBF s.h
structure SGD (R C : Nat) (s : SS) : Prop where
  ok : s.OK R C
  nb : s.NBS
def SS.ok (R C : Nat) (s : SS) : Bool := (tb R C s.f).all noBad && (tb R R s.g).all noBad && (tb C C s.h).all noBad
section
variable {R C : Nat} {s : SS} {q : HS}
theorem SS.ok_iff (h : s.NBS) : s.ok R C = true ↔ s.OK R C := by
  unfold SS.ok
  rw [Bool.and_eq_true, Bool.and_eq_true, tb_all h.f, tb_all h.g, tb_all h.h]
  exact ⟨fun h => ⟨h.1.1, h.1.2, h.2⟩, fun h => ⟨⟨h.f, h.g⟩, h.h⟩⟩
theorem SS.ok_no (h : s.NBS) (h2 : ¬ s.OK R C) : s.ok R C = false := by
  rw [← Bool.not_eq_true, SS.ok_iff h]; exact h2
theorem SS.NBS.row (h : s.NBS) : s.row.NBS := ⟨h.f, h.g⟩
theorem SS.NBS.col (h : s.NBS) : s.col.NBS := ⟨tp_nb h.f, tp_nb h.h⟩
theorem SS.NBS.wr (h : s.NBS) (hq : q.NBS) : (s.wr q).NBS := ⟨hq.f, hq.g, h.h⟩
theorem SS.NBS.wc (h : s.NBS) (hq : q.NBS) : (s.wc q).NBS := ⟨tp_nb hq.f, h.g, tp_nb hq.g⟩
theorem SS.OK.row (h : s.OK R C) : s.row.OK R C := ⟨h.f, h.g⟩
theorem SS.OK.col (h : s.OK R C) : s.col.OK C R := ⟨tp_ok h.f, tp_ok h.h⟩
theorem SS.OK.wr (h : s.OK R C) (hq : q.OK R C) : (s.wr q).OK R C := ⟨hq.f, hq.g, h.h⟩
theorem SS.OK.wc (h : s.OK R C) (hq : q.OK C R) : (s.wc q).OK R C := ⟨tp_ok hq.f, h.g, tp_ok hq.g⟩
theorem SS.OK.ofRow (h : (s.wr q).OK R C) : q.OK R C := ⟨h.f, h.g⟩
theorem SS.OK.ofCol (h : (s.wc q).OK R C) : q.OK C R := ⟨tp_ok h.f, tp_ok h.h⟩
theorem SGD.row (h : SGD R C s) : GD R C s.row := ⟨h.ok.row, h.nb.row⟩
theorem SGD.col (h : SGD R C s) : GD C R s.col := ⟨h.ok.col, h.nb.col⟩
theorem SGD.wr (h : SGD R C s) (hq : GD R C q) : SGD R C (s.wr q) := ⟨h.ok.wr hq.ok, h.nb.wr hq.nb⟩
theorem SGD.wc (h : SGD R C s) (hq : GD C R q) : SGD R C (s.wc q) := ⟨h.ok.wc hq.ok, h.nb.wc hq.nb⟩
end
-- the least absolute value that is not 0, from (t, t) on
def lsI (f : Fn2) (i t : Nat) (st : Int × Int) : Nat → Int × Int
  | 0 => st
  | n + 1 => if f i (t + n) ≠ 0 ∧ ((lsI f i t st n).1 < 0 ∨ (f i (t + n)).natAbs < (f (lsI f i t st n).1.toNat (lsI f i t st n).2.toNat).natAbs) then (((i : Nat) : Int), ((t + n : Nat) : Int)) else lsI f i t st n
def lsO (f : Fn2) (t D : Nat) : Nat → Int × Int
  | 0 => (-1, -1)
  | m + 1 => lsI f (t + m) t (lsO f t D m) D
def ls2 (R C : Nat) (f : Fn2) (t : Nat) : Int × Int := lsO f t (C - t) (R - t)
theorem lsI_succ (f : Fn2) (i t : Nat) (st : Int × Int) (n : Nat) : lsI f i t st (n + 1) = if f i (t + n) ≠ 0 ∧ ((lsI f i t st n).1 < 0 ∨ (f i (t + n)).natAbs < (f (lsI f i t st n).1.toNat (lsI f i t st n).2.toNat).natAbs) then (((i : Nat) : Int), ((t + n : Nat) : Int)) else lsI f i t st n := rfl
/-- What a search knows of the places that it has seen. -/
def LSP (f : Fn2) (t : Nat) (V : Nat → Nat → Prop) (st : Int × Int) : Prop :=
  (st = (-1, -1) ∧ ∀ i j, V i j → f i j = 0) ∨ ∃ p q : Nat, st = ((p : Int), (q : Int)) ∧ V p q ∧ f p q ≠ 0 ∧ (∀ i j, V i j → f i j ≠ 0 → (f p q).natAbs ≤ (f i j).natAbs) ∧ (V t t → f t t ≠ 0 → ¬ (p = t ∧ q = t) → (f p q).natAbs < (f t t).natAbs)
theorem LSP.step {f : Fn2} {t : Nat} {V V' : Nat → Nat → Prop} {st : Int × Int} {i j : Nat} (h : LSP f t V st) (hV : ∀ a b, V' a b ↔ V a b ∨ (a = i ∧ b = j)) (h0 : i = t → j = t → ∀ a b, ¬ V a b) :
    LSP f t V' (if f i j ≠ 0 ∧ (st.1 < 0 ∨ (f i j).natAbs < (f st.1.toNat st.2.toNat).natAbs) then (((i : Nat) : Int), ((j : Nat) : Int)) else st) := by
  rcases h with ⟨rfl, h1⟩ | ⟨p, q, rfl, h1, h2, h3, h4⟩
  · by_cases hz : f i j = 0
    · rw [if_neg (by simp [hz])]
      refine .inl ⟨rfl, fun a b hab => ?_⟩
      rcases (hV a b).1 hab with h | ⟨rfl, rfl⟩
      · exact h1 a b h
      · exact hz
    · rw [if_pos ⟨hz, .inl (by decide)⟩]
      refine .inr ⟨i, j, rfl, (hV i j).2 (.inr ⟨rfl, rfl⟩), hz, fun a b hab hne => ?_, fun ht htz hne => ?_⟩
      · rcases (hV a b).1 hab with h | ⟨rfl, rfl⟩
        · exact absurd (h1 a b h) hne
        · exact Nat.le_refl _
      · rcases (hV t t).1 ht with h | ⟨h5, h6⟩
        · exact absurd (h1 t t h) htz
        · exact absurd ⟨h5.symm, h6.symm⟩ hne
  · simp only [Int.toNat_natCast]
    by_cases hc : f i j ≠ 0 ∧ ((p : Int) < 0 ∨ (f i j).natAbs < (f p q).natAbs)
    · rw [if_pos hc]
      have hlt : (f i j).natAbs < (f p q).natAbs := hc.2.resolve_left (by omega)
      refine .inr ⟨i, j, rfl, (hV i j).2 (.inr ⟨rfl, rfl⟩), hc.1, fun a b hab hne => ?_, fun ht htz hne => ?_⟩
      · rcases (hV a b).1 hab with h | ⟨rfl, rfl⟩
        · exact Nat.le_trans (Nat.le_of_lt hlt) (h3 a b h hne)
        · exact Nat.le_refl _
      · rcases (hV t t).1 ht with h | ⟨h5, h6⟩
        · exact Nat.lt_of_lt_of_le hlt (h3 t t h htz)
        · exact absurd ⟨h5.symm, h6.symm⟩ hne
    · rw [if_neg hc]
      refine .inr ⟨p, q, rfl, (hV p q).2 (.inl h1), h2, fun a b hab hne => ?_, fun ht htz hne => ?_⟩
      · rcases (hV a b).1 hab with h | ⟨rfl, rfl⟩
        · exact h3 a b h hne
        · exact Nat.le_of_not_lt fun hlt => hc ⟨hne, .inr hlt⟩
      · rcases (hV t t).1 ht with h | ⟨h5, h6⟩
        · exact h4 h htz hne
        · exact absurd h1 (h0 h5.symm h6.symm p q)
theorem LSP.as {f : Fn2} {t : Nat} {V V' : Nat → Nat → Prop} {st : Int × Int} (h : LSP f t V st) (hV : ∀ a b, V' a b ↔ V a b) : LSP f t V' st := by
  have e : V' = V := funext fun a => funext fun b => propext (hV a b)
  rw [e]; exact h
theorem lsI_P {f : Fn2} {t D i : Nat} {st : Int × Int} (hi : t ≤ i) (h : LSP f t (fun a b => t ≤ a ∧ a < i ∧ t ≤ b ∧ b < t + D) st) :
    ∀ n, n ≤ D → LSP f t (fun a b => t ≤ a ∧ t ≤ b ∧ b < t + D ∧ (a < i ∨ a = i ∧ b < t + n)) (lsI f i t st n)
  | 0, _ => h.as fun a b => by omega
  | n + 1, hn => by
    rw [lsI_succ]
    refine LSP.step (lsI_P hi h n (by omega)) (fun a b => by omega) (fun h1 h2 a b => by omega)
theorem lsO_P (f : Fn2) (t D : Nat) : ∀ m, LSP f t (fun a b => t ≤ a ∧ a < t + m ∧ t ≤ b ∧ b < t + D) (lsO f t D m)
  | 0 => .inl ⟨rfl, fun i j h => by omega⟩
  | m + 1 => (lsI_P (by omega) (lsO_P f t D m) D (Nat.le_refl _)).as fun a b => by omega
theorem ls2_P (R C : Nat) (f : Fn2) (t : Nat) : LSP f t (fun a b => t ≤ a ∧ a < R ∧ t ≤ b ∧ b < C) (ls2 R C f t) :=
  (lsO_P f t (C - t) (R - t)).as fun a b => by omega
/-- The first of the search. -/
theorem ls2_cases (R C : Nat) (f : Fn2) (t : Nat) : (ls2 R C f t = (-1, -1) ∧ ∀ i j, t ≤ i → i < R → t ≤ j → j < C → f i j = 0) ∨
    ∃ p q : Nat, ls2 R C f t = ((p : Int), (q : Int)) ∧ (t ≤ p ∧ p < R ∧ t ≤ q ∧ q < C) ∧ f p q ≠ 0 ∧ (∀ i j, t ≤ i → i < R → t ≤ j → j < C → f i j ≠ 0 → (f p q).natAbs ≤ (f i j).natAbs) ∧ (t < R → t < C → f t t ≠ 0 → ¬ (p = t ∧ q = t) → (f p q).natAbs < (f t t).natAbs) := by
  rcases ls2_P R C f t with ⟨h1, h2⟩ | ⟨p, q, h1, h2, h3, h4, h5⟩
  · exact .inl ⟨h1, fun i j a b c d => h2 i j ⟨a, b, c, d⟩⟩
  · exact .inr ⟨p, q, h1, h2, h3, fun i j a b c d => h4 i j ⟨a, b, c, d⟩, fun a b => h5 ⟨Nat.le_refl _, a, Nat.le_refl _, b⟩⟩
theorem ls2_some {R C : Nat} {f : Fn2} {t i j : Nat} (h1 : t ≤ i) (h2 : i < R) (h3 : t ≤ j) (h4 : j < C) (hne : f i j ≠ 0) :
    ∃ p q : Nat, ls2 R C f t = ((p : Int), (q : Int)) ∧ (t ≤ p ∧ p < R ∧ t ≤ q ∧ q < C) ∧ f p q ≠ 0 ∧ (f p q).natAbs ≤ (f i j).natAbs := by
  rcases ls2_cases R C f t with ⟨_, h⟩ | ⟨p, q, a, b, c, d, e⟩
  · exact absurd (h i j h1 h2 h3 h4) hne
  · exact ⟨p, q, a, b, c, d i j h1 h2 h3 h4 hne⟩
-- a round
def sfA1 (t r : Nat) (s : SS) : SS := if r = t then s else s.wr (s.row.swap r t)
def sfA2 (t c : Nat) (s : SS) : SS := if c = t then s else s.wc (s.col.swap c t)
def sfB (R t : Nat) (s : SS) : SS := s.wr (swS t t t s.row (R - t))
def sfC (C t : Nat) (s : SS) : SS := s.wc (swS t t t s.col (C - t))
def clnS (R C t : Nat) (f : Fn2) : Bool := !(oth R f t t t) && !(oth C (tp f) t t t)
def fdR (f : Fn2) (t C i : Nat) : Bool := (List.range (C - (t + 1))).any fun n => decide (f i (t + 1 + n) ≠ bad) && decide ((f i (t + 1 + n)).tmod (f t t) ≠ 0)
def fdS (f : Fn2) (t C : Nat) (i : Nat) : Nat → Option Nat
  | 0 => none
  | m + 1 => if fdR f t C i then some i else fdS f t C (i + 1) m
def fd (R C t : Nat) (f : Fn2) : Option Nat := fdS f t C (t + 1) (R - (t + 1))
def sfD (R C t : Nat) (s : SS) : SS × Bool := if clnS R C t s.f then (match fd R C t s.f with | some i => (s.wr (s.row.add t i 1), false) | none => (s, true)) else (s, false)
def sfA (R C t : Nat) (s : SS) : SS := sfA2 t (ls2 R C s.f t).2.toNat (sfA1 t (ls2 R C s.f t).1.toNat s)
def rnd (R C t : Nat) (s : SS) : SS × Bool := sfD R C t (sfC C t (sfB R t (sfA R C t s)))
theorem fdR_iff {f : Fn2} {t C i : Nat} : fdR f t C i = true ↔ ∃ j, t < j ∧ j < C ∧ f i j ≠ bad ∧ (f i j).tmod (f t t) ≠ 0 := by
  unfold fdR
  rw [List.any_eq_true]
  constructor
  · rintro ⟨n, hn, h⟩
    have hn' := List.mem_range.1 hn
    rw [Bool.and_eq_true, decide_eq_true_eq, decide_eq_true_eq] at h
    exact ⟨t + 1 + n, by omega, by omega, h.1, h.2⟩
  · rintro ⟨j, h1, h2, h3, h4⟩
    refine ⟨j - (t + 1), List.mem_range.2 (by omega), ?_⟩
    rw [show t + 1 + (j - (t + 1)) = j by omega, Bool.and_eq_true, decide_eq_true_eq, decide_eq_true_eq]
    exact ⟨h3, h4⟩
theorem fdR_no {f : Fn2} {t C i : Nat} (h : ∀ j, t < j → j < C → ¬ (f i j ≠ bad ∧ (f i j).tmod (f t t) ≠ 0)) : fdR f t C i = false := by
  refine Bool.eq_false_iff.2 fun hc => ?_
  obtain ⟨j, h1, h2, h3⟩ := fdR_iff.1 hc
  exact h j h1 h2 h3
theorem fdS_yes {f : Fn2} {t C i m : Nat} (h : fdR f t C i = true) : fdS f t C i (m + 1) = some i := by
  show (if _ then _ else _) = _
  rw [if_pos h]
theorem fdS_no {f : Fn2} {t C i m : Nat} (h : fdR f t C i = false) : fdS f t C i (m + 1) = fdS f t C (i + 1) m := by
  show (if _ then _ else _) = _
  rw [if_neg (by rw [h]; exact Bool.false_ne_true)]
theorem fdS_some {f : Fn2} {t C k : Nat} : ∀ m i, fdS f t C i m = some k → i ≤ k ∧ k < i + m ∧ fdR f t C k = true
  | 0, i, h => by cases h
  | m + 1, i, h => by
    rcases hr : fdR f t C i with _ | _
    · rw [fdS_no hr] at h
      obtain ⟨a, b, c⟩ := fdS_some m (i + 1) h
      exact ⟨by omega, by omega, c⟩
    · rw [fdS_yes hr] at h
      cases h
      exact ⟨Nat.le_refl _, by omega, hr⟩
theorem fd_some {R C t k : Nat} {f : Fn2} (h : fd R C t f = some k) : t < k ∧ k < R ∧ fdR f t C k = true := by
  obtain ⟨a, b, c⟩ := fdS_some _ _ h
  exact ⟨by omega, by omega, c⟩
section
variable {R C t : Nat} {s : SS}
theorem SGD.a1 {r : Nat} (h : SGD R C s) (hr : r < R) (ht : t < R) : SGD R C (sfA1 t r s) := by
  unfold sfA1
  split
  · exact h
  · exact h.wr (h.row.swap hr ht)
theorem SGD.a2 {c : Nat} (h : SGD R C s) (hc : c < C) (ht : t < C) : SGD R C (sfA2 t c s) := by
  unfold sfA2
  split
  · exact h
  · exact h.wc (h.col.swap hc ht)
theorem sfA_piv (r c : Nat) (s : SS) : (sfA2 t c (sfA1 t r s)).f t t = s.f r c := by
  have h1 : ∀ y, (sfA1 t r s).f t y = s.f r y := fun y => by
    unfold sfA1
    split
    · rename_i h; rw [h]
    · exact swF_t s.f r t y
  have h2 : (sfA2 t c (sfA1 t r s)).f t t = (sfA1 t r s).f t c := by
    unfold sfA2
    split
    · rename_i h; rw [h]
    · exact swF_t (tp (sfA1 t r s).f) c t t
  rw [h2, h1]
theorem sfA_same (s : SS) : sfA2 t t (sfA1 t t s) = s := by
  unfold sfA1 sfA2
  rw [if_pos rfl, if_pos rfl]
theorem sfB_nb (h : s.NBS) : (sfB R t s).NBS := h.wr (swS_nb h.row _)
theorem sfC_nb (h : s.NBS) : (sfC C t s).NBS := h.wc (swS_nb h.col _)
theorem sfD_nb (h : s.NBS) : (sfD R C t s).1.NBS := by
  unfold sfD
  split
  · split
    · exact h.wr (h.row.add _ _ _)
    · exact h
  · exact h
theorem sfB_back (h : s.NBS) (hk : (sfB R t s).OK R C) : s.OK R C := by
  have h1 := swS_back' (R := R) (C := C) h.row 0 (R - t) (by rw [Nat.zero_add]; exact hk.ofRow)
  exact ⟨h1.f, h1.g, hk.h⟩
theorem sfC_back (h : s.NBS) (hk : (sfC C t s).OK R C) : s.OK R C := by
  have h1 := swS_back' (R := C) (C := R) h.col 0 (C - t) (by rw [Nat.zero_add]; exact hk.ofCol)
  exact ⟨tp_ok h1.f, hk.g, tp_ok h1.g⟩
theorem sfD_back (h : s.NBS) (hk : (sfD R C t s).1.OK R C) : s.OK R C := by
  unfold sfD at hk
  split at hk
  · split at hk
    · have h1 := HS.OK.back h.row hk.ofRow
      exact ⟨h1.f, h1.g, hk.h⟩
    · exact hk
  · exact hk
theorem rnd_back (h : (sfA R C t s).NBS) (hk : (rnd R C t s).1.OK R C) : (sfB R t (sfA R C t s)).OK R C ∧ (sfC C t (sfB R t (sfA R C t s))).OK R C := by
  have h1 := sfD_back (sfC_nb (sfB_nb h)) hk
  exact ⟨sfC_back (sfB_nb h) h1, h1⟩
end
-- rounds till nothing is left
def lsV (R C t : Nat) (s : SS) : Nat := (s.f (ls2 R C s.f t).1.toNat (ls2 R C s.f t).2.toNat).natAbs
def flg (R C t : Nat) (s : SS) : Nat := if (s.f t t).natAbs = lsV R C t s ∧ fdR s.f t C t = true then 0 else 1
def sfMs (R C t : Nat) (s : SS) : Nat := 2 * lsV R C t s + flg R C t s
theorem flg_le (R C t : Nat) (s : SS) : flg R C t s ≤ 1 := by unfold flg; split <;> omega
theorem lsV_le {R C t i j : Nat} {s : SS} (h1 : t ≤ i) (h2 : i < R) (h3 : t ≤ j) (h4 : j < C) (hne : s.f i j ≠ 0) : lsV R C t s ≤ (s.f i j).natAbs := by
  obtain ⟨p, q, e, _, _, h⟩ := ls2_some h1 h2 h3 h4 hne
  unfold lsV
  rw [e]
  exact h
theorem tmodz_iff {a b : Int} : a.tmod b = 0 ↔ a % b = 0 := by
  rw [← Int.dvd_iff_tmod_eq_zero, ← Int.dvd_iff_emod_eq_zero]
theorem rnd_facts {R C t : Nat} {s1 : SS} (h : s1.NBS) (ht : t < R) (htC : t < C) (hP : s1.f t t ≠ 0) (hB : (sfB R t s1).OK R C) (hC : (sfC C t (sfB R t s1)).OK R C) :
    (sfC C t (sfB R t s1)).f t t = s1.f t t ∧ (∀ x, t < x → x < R → (sfC C t (sfB R t s1)).f x t = s1.f x t % s1.f t t) ∧ (∀ y, t < y → y < C → (sfC C t (sfB R t s1)).f t y = s1.f t y % s1.f t t) := by
  have b1 : ∀ y, (sfB R t s1).f t y = s1.f t y := fun y => swS_p (j := t) (p := t) (t := t) (s := s1.row) y (R - t)
  have b2 : ∀ x, t < x → x < R → (sfB R t s1).f x t = s1.f x t % s1.f t t := fun x h1 h2 => swS_col h.row htC ht hP (R - t) (by omega) hB.ofRow x (by omega) (by omega) (by omega)
  have c1 : ∀ x, (sfC C t (sfB R t s1)).f x t = (sfB R t s1).f x t := fun x => swS_p (j := t) (p := t) (t := t) (s := (sfB R t s1).col) x (C - t)
  have hP2 : (sfB R t s1).f t t ≠ 0 := by rw [b1]; exact hP
  have c2 : ∀ y, t < y → y < C → (sfC C t (sfB R t s1)).f t y = (sfB R t s1).f t y % (sfB R t s1).f t t := fun y h1 h2 => swS_col (sfB_nb h).col ht htC hP2 (C - t) (by omega) hC.ofCol y (by omega) (by omega) (by omega)
  refine ⟨by rw [c1, b1], fun x h1 h2 => by rw [c1, b2 x h1 h2], fun y h1 h2 => by rw [c2 y h1 h2, b1, b1]⟩
theorem emod_small {a b : Int} (hb : b ≠ 0) : (a % b).natAbs < b.natAbs := by
  have h5 := Int.emod_nonneg a hb
  have h6 := Int.emod_lt a hb
  omega
theorem clnS_no {R C t : Nat} {f : Fn2} (h : clnS R C t f = false) : (∃ x, t < x ∧ x < R ∧ f x t ≠ 0) ∨ ∃ y, t < y ∧ y < C ∧ f t y ≠ 0 := by
  unfold clnS at h
  rcases h1 : oth R f t t t with _ | _
  · rw [h1] at h
    have h2 : oth C (tp f) t t t = true := by simpa using h
    obtain ⟨i, a, b, c, d⟩ := oth_iff.1 h2
    exact .inr ⟨i, by omega, b, d⟩
  · obtain ⟨i, a, b, c, d⟩ := oth_iff.1 h1
    exact .inl ⟨i, by omega, b, d⟩
theorem clnS_yes {R C t : Nat} {f : Fn2} (h : clnS R C t f = true) : (∀ x, t < x → x < R → f x t = 0) ∧ ∀ y, t < y → y < C → f t y = 0 := by
  unfold clnS at h
  rw [Bool.and_eq_true, Bool.not_eq_true', Bool.not_eq_true'] at h
  refine ⟨fun x h1 h2 => ?_, fun y h1 h2 => ?_⟩
  · refine Decidable.byContradiction fun hne => ?_
    have := oth_iff.2 (show ∃ i, t ≤ i ∧ i < R ∧ i ≠ t ∧ f i t ≠ 0 from ⟨x, by omega, h2, by omega, hne⟩)
    rw [h.1] at this; cases this
  · refine Decidable.byContradiction fun hne => ?_
    have := oth_iff.2 (show ∃ i, t ≤ i ∧ i < C ∧ i ≠ t ∧ (tp f) i t ≠ 0 from ⟨y, by omega, h2, by omega, hne⟩)
    rw [h.2] at this; cases this
theorem rnd_lt {R C t p q : Nat} {s : SS} (h : SGD R C s) (ht : t < R) (htC : t < C) (e : ls2 R C s.f t = ((p : Int), (q : Int))) (hpR : p < R) (hqC : q < C) (hpq : s.f p q ≠ 0) (hfirst : s.f t t ≠ 0 → ¬ (p = t ∧ q = t) → (s.f p q).natAbs < (s.f t t).natAbs)
    (hk : (rnd R C t s).1.OK R C) (hd : (rnd R C t s).2 = false) : sfMs R C t (rnd R C t s).1 < sfMs R C t s ∧ (rnd R C t s).1.f t t ≠ 0 := by
  have eA : sfA R C t s = sfA2 t q (sfA1 t p s) := by unfold sfA; rw [e]; rfl
  have hA : SGD R C (sfA R C t s) := by rw [eA]; exact (h.a1 hpR ht).a2 hqC htC
  have hpiv : (sfA R C t s).f t t = s.f p q := by rw [eA]; exact sfA_piv p q s
  obtain ⟨hB, hC⟩ := rnd_back hA.nb hk
  have hP : (sfA R C t s).f t t ≠ 0 := by rw [hpiv]; exact hpq
  obtain ⟨f1, f2, f3⟩ := rnd_facts hA.nb ht htC hP hB hC
  have hV : lsV R C t s = (s.f p q).natAbs := by unfold lsV; rw [e]; rfl
  have hnbC : (sfC C t (sfB R t (sfA R C t s))).NBS := sfC_nb (sfB_nb hA.nb)
  unfold rnd at hk hd ⊢
  generalize e2 : sfC C t (sfB R t (sfA R C t s)) = s2 at *
  rw [hpiv] at f1 f2 f3
  have fl2 := flg_le R C t s2
  unfold sfD at hk hd ⊢
  rcases hcl : clnS R C t s2.f with _ | _
  · rw [if_neg Bool.false_ne_true]
    refine ⟨?_, by show s2.f t t ≠ 0; rw [f1]; exact hpq⟩
    have hlt : lsV R C t s2 < (s.f p q).natAbs := by
      rcases clnS_no hcl with ⟨x, h1, h2, h3⟩ | ⟨y, h1, h2, h3⟩
      · have h4 := lsV_le (s := s2) (R := R) (C := C) (t := t) (by omega) h2 (Nat.le_refl _) htC h3
        have h5 := emod_small (a := (sfA R C t s).f x t) hpq
        rw [← f2 x h1 h2] at h5
        omega
      · have h4 := lsV_le (s := s2) (R := R) (C := C) (t := t) (Nat.le_refl _) ht (by omega) h2 h3
        have h5 := emod_small (a := (sfA R C t s).f t y) hpq
        rw [← f3 y h1 h2] at h5
        omega
    unfold sfMs
    show 2 * lsV R C t s2 + flg R C t s2 < _
    omega
  · rw [if_pos hcl] at hk hd
    rw [if_pos rfl]
    rcases hf : fd R C t s2.f with _ | i
    · rw [hf] at hd; cases hd
    · rw [hf] at hk
      obtain ⟨z1, z2⟩ := clnS_yes hcl
      obtain ⟨i1, i2, i3⟩ := fd_some hf
      obtain ⟨y0, y1, y2, y3, y4⟩ := fdR_iff.1 i3
      have hk2 : OKF R C (opA s2.f t i 1) := hk.f
      have hval : ∀ y, y < C → opA s2.f t i 1 t y = s2.f t y + s2.f i y := fun y hy => by
        obtain ⟨_, _, a, _⟩ := opA_num (hk2 t y ht hy)
        rw [a, Int.mul_one]
      have v1 : opA s2.f t i 1 t t = s.f p q := by rw [hval t htC, z1 i i1 i2, f1, Int.add_zero]
      have v2 : opA s2.f t i 1 t y0 = s2.f i y0 := by rw [hval y0 y2, z2 y0 y1 y2, Int.zero_add]
      have v3 : (opA s2.f t i 1 t y0).tmod (opA s2.f t i 1 t t) ≠ 0 := by rw [v1, v2, ← f1]; exact y4
      have hnz : opA s2.f t i 1 t t ≠ 0 := by rw [v1]; exact hpq
      refine ⟨?_, hnz⟩
      have h4 := lsV_le (s := s2.wr (s2.row.add t i 1)) (R := R) (C := C) (t := t) (Nat.le_refl _) ht (Nat.le_refl _) htC hnz
      have h5 : ((s2.wr (s2.row.add t i 1)).f t t).natAbs = (s.f p q).natAbs := by rw [← v1]; rfl
      have h6 := flg_le R C t (s2.wr (s2.row.add t i 1))
      show sfMs R C t (s2.wr (s2.row.add t i 1)) < _
      unfold sfMs
      rw [hV]
      by_cases hlt : lsV R C t (s2.wr (s2.row.add t i 1)) < (s.f p q).natAbs
      · omega
      · have hE : lsV R C t (s2.wr (s2.row.add t i 1)) = (s.f p q).natAbs := by omega
        have hf0 : flg R C t (s2.wr (s2.row.add t i 1)) = 0 := by
          unfold flg
          rw [if_pos ⟨by rw [hE, h5], fdR_iff.2 ⟨y0, y1, y2, (hk2 t y0 ht y2).ne, v3⟩⟩]
        have hf1 : flg R C t s = 1 := by
          unfold flg
          rw [if_neg]
          rintro ⟨g1, g2⟩
          rw [hV] at g1
          have htz : s.f t t ≠ 0 := by intro h0; rw [h0] at g1; simp at g1; omega
          have hpt : p = t ∧ q = t := Decidable.byContradiction fun hc => by have := hfirst htz hc; omega
          have eS : sfA R C t s = s := by rw [eA, hpt.1, hpt.2]; exact sfA_same s
          obtain ⟨y, k1, k2, k3, k4⟩ := fdR_iff.1 g2
          have := f3 y k1 k2
          rw [z2 y k1 k2, eS, hpt.1, hpt.2] at this
          exact k4 (tmodz_iff.2 this.symm)
        omega
/-- Rounds till nothing is left at (t, t). -/
def sfIn (R C t : Nat) (s : SS) : Option SS :=
  if (rnd R C t s).1.ok R C then
    if (rnd R C t s).2 then some (rnd R C t s).1
    else if h : sfMs R C t (rnd R C t s).1 < sfMs R C t s then sfIn R C t (rnd R C t s).1 else none
  else none
termination_by sfMs R C t s
theorem sfIn_bad {R C t : Nat} {s : SS} (h : (rnd R C t s).1.ok R C = false) : sfIn R C t s = none := by
  rw [sfIn, if_neg (by rw [h]; exact Bool.false_ne_true)]
theorem sfIn_done {R C t : Nat} {s : SS} (h : (rnd R C t s).1.ok R C = true) (h2 : (rnd R C t s).2 = true) : sfIn R C t s = some (rnd R C t s).1 := by
  rw [sfIn, if_pos h, if_pos h2]
theorem sfIn_next {R C t : Nat} {s : SS} (h : (rnd R C t s).1.ok R C = true) (h2 : (rnd R C t s).2 = false) (h3 : sfMs R C t (rnd R C t s).1 < sfMs R C t s) : sfIn R C t s = sfIn R C t (rnd R C t s).1 := by
  conv => lhs; rw [sfIn]
  rw [if_pos h, if_neg (by rw [h2]; exact Bool.false_ne_true), dif_pos h3]
def sfN (t : Nat) (s : SS) : SS := if s.f t t < 0 then s.wr (s.row.neg t) else s
theorem SGD.n {R C t : Nat} {s : SS} (h : SGD R C s) (ht : t < R) : SGD R C (sfN t s) := by
  unfold sfN
  split
  · exact h.wr (h.row.neg ht)
  · exact h
def sfOut (R C : Nat) : Nat → Nat → SS → Option SS
  | 0, _, s => some s
  | m + 1, t, s => if (ls2 R C s.f t).1 < 0 then some s else (sfIn R C t s).bind fun s' => sfOut R C m (t + 1) (sfN t s')
def sfGo (R C m t : Nat) (o : Option SS) : Option SS := o.bind fun s' => sfOut R C m (t + 1) (sfN t s')
theorem sfOut_zero (R C t : Nat) (s : SS) : sfOut R C 0 t s = some s := rfl
theorem sfOut_stop {R C m t : Nat} {s : SS} (h : (ls2 R C s.f t).1 < 0) : sfOut R C (m + 1) t s = some s := by
  show (if _ then _ else _) = _
  rw [if_pos h]
theorem sfOut_go {R C m t : Nat} {s : SS} (h : ¬ (ls2 R C s.f t).1 < 0) : sfOut R C (m + 1) t s = sfGo R C m t (sfIn R C t s) := by
  show (if _ then _ else _) = _
  rw [if_neg h]
  rfl
def sfRun (R C : Nat) (f : Fn2) : Option SS := sfOut R C (min R C) 0 ⟨f, idF, idF⟩
def sfX (r c : Int) (xs : List Int) : Option SS := if isMat r c xs then sfRun r.toNat c.toNat (fun i j => cel xs c i j) else none
theorem sfX_no {r c : Int} {xs : List Int} (h : isMat r c xs = false) : sfX r c xs = none := by unfold sfX; rw [h]; rfl
theorem sfX_yes {R C : Nat} {xs : List Int} (h : isMat R C xs = true) : sfX R C xs = sfOut R C (min R C) 0 ⟨fun i j => cel xs C i j, idF, idF⟩ := by unfold sfX; rw [h]; rfl
end Go.Proofs.Ytlggfmfelakadaa

/-
  DERIVED. A part of a row anew; a matrix of zeros. No program in sight.
-/
namespace Go.Proofs.Ytlggfmfelakadaa
set_option linter.unusedVariables false
theorem splL_get {xs ys : List Int} {off q : Nat} (h : off + ys.length ≤ xs.length) : (splL xs off ys).getD q 0 = if off ≤ q ∧ q < off + ys.length then ys.getD (q - off) 0 else xs.getD q 0 := by
  by_cases h1 : off ≤ q ∧ q < off + ys.length
  · rw [if_pos h1]
    have := splL_getD (xs := xs) (ys := ys) (off := off) (k := q - off) h (by omega)
    rw [show off + (q - off) = q by omega] at this
    exact this
  · rw [if_neg h1]
    have htl : (xs.take off).length = off := by rw [List.length_take]; omega
    unfold splL
    simp only [List.getD]
    congr 1
    by_cases h2 : q < off
    · rw [List.append_assoc, List.getElem?_append_left (by omega), List.getElem?_take_of_lt h2]
    · rw [List.getElem?_append_right (by rw [List.length_append, htl]; omega), List.getElem?_drop, List.length_append, htl]
      congr 1
      omega
/-- Row i anew from place o on. -/
def setW (f : Nat → Nat → Int) (i o : Nat) (ys : List Int) : Nat → Nat → Int := fun a c => if a = i ∧ o ≤ c ∧ c < o + ys.length then ys.getD (c - o) 0 else f a c
theorem spl_tbo {R C i o : Nat} {f : Nat → Nat → Int} {ys : List Int} (hi : i < R) (hy : o + ys.length ≤ C) : splL (tb R C f) (i * C + o) ys = tb R C (setW f i o ys) := by
  have hl : i * C + C ≤ R * C := by
    have h3 := Nat.mul_le_mul_right C (show i + 1 ≤ R by omega); rw [Nat.add_mul, Nat.one_mul] at h3; exact h3
  have hf : i * C + o + ys.length ≤ (tb R C f).length := by rw [tb_len]; omega
  have hlen : (splL (tb R C f) (i * C + o) ys).length = R * C := by rw [splL_len hf, tb_len]
  rw [tb_of hlen]
  apply tb_ext
  intro a c ha hc
  rw [cel_nat, splL_get hf]
  unfold setW
  rcases Nat.lt_trichotomy a i with h | h | h
  · have h3 := Nat.mul_le_mul_right C (show a + 1 ≤ i by omega)
    rw [Nat.add_mul, Nat.one_mul] at h3
    rw [if_neg (by omega), if_neg (by omega), tb_at ha hc]
  · subst h
    by_cases h4 : o ≤ c ∧ c < o + ys.length
    · rw [if_pos (by omega), if_pos ⟨rfl, h4⟩]
      congr 1
      omega
    · rw [if_neg (by omega), if_neg (by omega), tb_at ha hc]
  · have h3 := Nat.mul_le_mul_right C (show i + 1 ≤ a by omega)
    rw [Nat.add_mul, Nat.one_mul] at h3
    rw [if_neg (by omega), if_neg (by omega), tb_at ha hc]
theorem tb_zeros (R C : Nat) : tb R C (fun _ _ => 0) = List.replicate (R * C) 0 := by
  unfold tb tab
  apply List.ext_getElem?
  intro i
  by_cases h : i < R * C <;> simp [h]
end Go.Proofs.Ytlggfmfelakadaa

/-
  DERIVED. Sums of rows; two matrices whose rows span the same. No program in sight.
-/
namespace Go.Proofs.Ytlggfmfelakadaa
set_option linter.unusedVariables false
/-- v is a sum of rows. -/
def Sp (R C : Nat) (f : Fn2) (v : Nat → Int) : Prop := ∃ c : Nat → Int, ∀ y, y < C → v y = sumTo (fun k => c k * f k y) R
theorem Sp.row {R C : Nat} {f : Fn2} {i : Nat} (hi : i < R) : Sp R C f (f i) := ⟨idF i, fun y hy => by
  rw [sumTo_one (i := i) R hi (fun k hk hne => by unfold idF; rw [if_neg (fun e => hne e.symm), Int.zero_mul])]
  unfold idF; rw [if_pos rfl, Int.one_mul]⟩
theorem Sp.add {R C : Nat} {f : Fn2} {u v z : Nat → Int} {t : Int} (h : Sp R C f u) (h2 : Sp R C f v) (e : ∀ y, y < C → z y = u y + v y * t) : Sp R C f z := by
  obtain ⟨c, hc⟩ := h
  obtain ⟨d, hd⟩ := h2
  refine ⟨fun k => c k + d k * t, fun y hy => ?_⟩
  rw [e y hy, hc y hy, hd y hy, ← sumTo_mul, ← sumTo_add]
  exact sumTo_congr R fun k _ => by grind
theorem Sp.neg {R C : Nat} {f : Fn2} {u z : Nat → Int} (h : Sp R C f u) (e : ∀ y, y < C → z y = -u y) : Sp R C f z := by
  obtain ⟨c, hc⟩ := h
  refine ⟨fun k => -c k, fun y hy => ?_⟩
  rw [e y hy, hc y hy, ← sumTo_neg]
  exact sumTo_congr R fun k _ => by grind
theorem Sp.as {R C : Nat} {f : Fn2} {u z : Nat → Int} (h : Sp R C f u) (e : ∀ y, y < C → z y = u y) : Sp R C f z := by
  obtain ⟨c, hc⟩ := h
  exact ⟨c, fun y hy => by rw [e y hy, hc y hy]⟩
theorem Sp.trans {R R' C : Nat} {f g : Fn2} {v : Nat → Int} (h : Sp R C f v) (k : ∀ i, i < R → Sp R' C g (f i)) : Sp R' C g v := by
  obtain ⟨c, hc⟩ := h
  have hd : ∀ i, ∃ d : Nat → Int, i < R → ∀ y, y < C → f i y = sumTo (fun l => d l * g l y) R' := fun i => by
    by_cases hi : i < R
    · obtain ⟨d, hd⟩ := k i hi
      exact ⟨d, fun _ => hd⟩
    · exact ⟨fun _ => 0, fun h => absurd h hi⟩
  let d : Fn2 := fun i => Classical.choose (hd i)
  have hdd : ∀ i, i < R → ∀ y, y < C → f i y = sumTo (fun l => d i l * g l y) R' := fun i => Classical.choose_spec (hd i)
  refine ⟨fun l => sumTo (fun i => c i * d i l) R, fun y hy => ?_⟩
  rw [hc y hy]
  have e1 : sumTo (fun k => c k * f k y) R = sumTo (fun k => sumTo (fun l => c k * (d k l * g l y)) R') R := sumTo_congr R fun k hk => by
    rw [hdd k hk y hy, sumTo_mul']
  rw [e1, sumTo_swap]
  refine sumTo_congr R' fun l hl => ?_
  rw [← sumTo_mul]
  exact sumTo_congr R fun k hk => by grind
theorem Sp.mm {R n C : Nat} {a f : Fn2} {i : Nat} (hi : i < n) : Sp R C f (mm R a f i) := ⟨a i, fun y _ => rfl⟩
/-- Rows of both span the same. -/
def SPN (R C : Nat) (m f : Fn2) : Prop := (∀ i, i < R → Sp R C m (f i)) ∧ ∀ i, i < R → Sp R C f (m i)
theorem SPN.add {R C i j : Nat} {t : Int} {m f f' : Fn2} (h : SPN R C m f) (hi : i < R) (hj : j < R) (hij : i ≠ j) (h1 : ∀ y, y < C → f' i y = f i y + f j y * t) (h2 : ∀ x y, x < R → y < C → x ≠ i → f' x y = f x y) : SPN R C m f' := by
  have hr : ∀ x, x < R → Sp R C f' (f x) := fun x hx => by
    by_cases e : x = i
    · subst e
      exact Sp.add (t := -t) (Sp.row hi) (Sp.row (i := j) hj) fun y hy => by rw [h1 y hy, h2 j y hj hy (fun e => hij e.symm)]; grind
    · exact (Sp.row hx).as fun y hy => (h2 x y hx hy e).symm
  refine ⟨fun x hx => ?_, fun x hx => (h.2 x hx).trans hr⟩
  by_cases e : x = i
  · subst e
    exact Sp.add (h.1 x hx) (h.1 j hj) h1
  · exact (h.1 x hx).as fun y hy => h2 x y hx hy e
theorem SPN.neg {R C i : Nat} {m f f' : Fn2} (h : SPN R C m f) (hi : i < R) (h1 : ∀ y, y < C → f' i y = -f i y) (h2 : ∀ x y, x < R → y < C → x ≠ i → f' x y = f x y) : SPN R C m f' := by
  have hr : ∀ x, x < R → Sp R C f' (f x) := fun x hx => by
    by_cases e : x = i
    · subst e
      exact Sp.neg (Sp.row hx) fun y hy => by rw [h1 y hy]; omega
    · exact (Sp.row hx).as fun y hy => (h2 x y hx hy e).symm
  refine ⟨fun x hx => ?_, fun x hx => (h.2 x hx).trans hr⟩
  by_cases e : x = i
  · subst e
    exact Sp.neg (h.1 x hx) h1
  · exact (h.1 x hx).as fun y hy => h2 x y hx hy e
theorem SPN.swap {R C i j : Nat} {m f : Fn2} (h : SPN R C m f) (hi : i < R) (hj : j < R) : SPN R C m (swF f i j) := by
  have e1 : ∀ x, ∃ z, (x < R → z < R) ∧ swF f i j x = f z := fun x => ⟨if x = i then j else if x = j then i else x, fun hx => (by (split; exact hj; split; exact hi; exact hx)), rfl⟩
  have e2 : ∀ x, ∃ z, (x < R → z < R) ∧ f x = swF f i j z := fun x => by
    refine ⟨if x = i then j else if x = j then i else x, fun hx => (by (split; exact hj; split; exact hi; exact hx)), ?_⟩
    funext y
    unfold swF
    congr 1
    by_cases a : x = i
    · subst a
      rw [if_pos rfl]
      by_cases b : j = x
      · rw [if_pos b, b]
      · rw [if_neg b, if_pos rfl]
    · rw [if_neg a]
      by_cases b : x = j
      · subst b
        rw [if_pos rfl, if_pos rfl]
      · rw [if_neg b, if_neg a, if_neg b]
  refine ⟨fun x hx => ?_, fun x hx => (h.2 x hx).trans fun k hk => ?_⟩
  · obtain ⟨z, hz, e⟩ := e1 x
    rw [e]; exact h.1 z (hz hx)
  · obtain ⟨z, hz, e⟩ := e2 k
    rw [e]; exact Sp.row (hz hk)
theorem SPN.refl (R C : Nat) (m : Fn2) : SPN R C m m := ⟨fun i hi => Sp.row hi, fun i hi => Sp.row hi⟩
theorem SPN.symm {R C : Nat} {m f : Fn2} (h : SPN R C m f) : SPN R C f m := ⟨h.2, h.1⟩
theorem SPN.trans {R C : Nat} {m f g : Fn2} (h : SPN R C m f) (k : SPN R C f g) : SPN R C m g := ⟨fun i hi => (k.1 i hi).trans h.1, fun i hi => (h.2 i hi).trans k.2⟩
/-- A unimodular matrix times another one: the same rows are spanned. -/
theorem SPN.left {n C : Nat} {u m : Fn2} (h : SPN n n idF u) : SPN n C m (mm n u m) := by
  refine ⟨fun i hi => Sp.mm hi, fun i hi => ?_⟩
  obtain ⟨c, hc⟩ := h.2 i hi
  refine ⟨c, fun y hy => ?_⟩
  have e1 : m i y = sumTo (fun l => idF i l * m l y) n := by
    rw [sumTo_one (i := i) n hi (fun k hk hne => by unfold idF; rw [if_neg (fun e => hne e.symm), Int.zero_mul])]
    unfold idF; rw [if_pos rfl, Int.one_mul]
  rw [e1]
  have e2 : sumTo (fun l => idF i l * m l y) n = sumTo (fun l => sumTo (fun k => c k * (u k l * m l y)) n) n := sumTo_congr n fun l hl => by
    rw [hc l hl, ← sumTo_mul]
    exact sumTo_congr n fun k _ => by grind
  rw [e2, sumTo_swap]
  exact sumTo_congr n fun k hk => by rw [sumTo_mul']; rfl
end Go.Proofs.Ytlggfmfelakadaa

/-
  DERIVED. More unknowns than equations have a solution that is not all zeros; how many rows can be independent. No program in sight.
-/
namespace Go.Proofs.Ytlggfmfelakadaa
set_option linter.unusedVariables false
/-- The place that sk leaves out is put back. -/
def unsk (c : Nat) (v : Int) (z : Nat → Int) (j : Nat) : Int := if j < c then z j else if j = c then v else z (j - 1)
theorem unsk_sk (c : Nat) (v : Int) (z : Nat → Int) (k : Nat) : unsk c v z (sk c k) = z k := by
  unfold unsk sk
  by_cases h : k < c
  · rw [if_pos h, if_pos h]
  · rw [if_neg h, if_neg (by omega), if_neg (by omega), Nat.add_sub_cancel]
theorem unsk_at (c : Nat) (v : Int) (z : Nat → Int) : unsk c v z c = v := by
  unfold unsk
  rw [if_neg (Nat.lt_irrefl _), if_pos rfl]
/-- A sum with one place set apart. -/
theorem sumTo_out {g : Nat → Int} {c n : Nat} (hc : c < n + 1) : sumTo g (n + 1) = g c + sumTo (fun k => g (sk c k)) n := by
  rw [sumTo_skip n hc]
  have h1 : sumTo g (n + 1) = sumTo (fun b => (if b = c then g c else 0) + (if b = c then 0 else g b)) (n + 1) := sumTo_congr (n + 1) fun k _ => by
    by_cases h : k = c
    · rw [if_pos h, if_pos h, h, Int.add_zero]
    · rw [if_neg h, if_neg h, Int.zero_add]
  rw [h1, sumTo_add, sumTo_one (i := c) (n + 1) hc (fun k _ hne => if_neg hne), if_pos rfl]
/-- More unknowns than equations. -/
theorem sys_zero : ∀ (m : Nat) (f : Fn2), ∃ z : Nat → Int, (∃ k, k < m + 1 ∧ z k ≠ 0) ∧ ∀ i, i < m → mv (m + 1) f z i = 0
  | 0, f => ⟨fun _ => 1, ⟨0, by omega, by decide⟩, fun i hi => absurd hi (Nat.not_lt_zero _)⟩
  | m + 1, f => by
    by_cases hp : ∃ c, c < m + 2 ∧ f 0 c ≠ 0
    · obtain ⟨c, hc, hne⟩ := hp
      obtain ⟨z, ⟨k, hk, hkz⟩, hz⟩ := sys_zero m fun i j => f 0 c * f (i + 1) (sk c j) - f (i + 1) c * f 0 (sk c j)
      refine ⟨unsk c (-sumTo (fun k => f 0 (sk c k) * z k) (m + 1)) fun k => f 0 c * z k, ⟨sk c k, sk_lt hk, ?_⟩, fun i hi => ?_⟩
      · rw [unsk_sk]
        exact Int.mul_ne_zero hne hkz
      · unfold mv
        rw [sumTo_out (n := m + 1) hc, unsk_at]
        have e1 : sumTo (fun k => f i (sk c k) * unsk c (-sumTo (fun k => f 0 (sk c k) * z k) (m + 1)) (fun k => f 0 c * z k) (sk c k)) (m + 1) = sumTo (fun k => f 0 c * (f i (sk c k) * z k)) (m + 1) := sumTo_congr (m + 1) fun k _ => by
          rw [unsk_sk]; grind
        rw [e1, sumTo_mul']
        rcases Nat.eq_zero_or_pos i with h0 | h0
        · subst h0
          grind
        · obtain ⟨i', rfl⟩ : ∃ i', i = i' + 1 := ⟨i - 1, by omega⟩
          have h2 := hz i' (by omega)
          unfold mv at h2
          have e2 : sumTo (fun k => (f 0 c * f (i' + 1) (sk c k) - f (i' + 1) c * f 0 (sk c k)) * z k) (m + 1) = f 0 c * sumTo (fun k => f (i' + 1) (sk c k) * z k) (m + 1) - f (i' + 1) c * sumTo (fun k => f 0 (sk c k) * z k) (m + 1) := by
            rw [← sumTo_mul', ← sumTo_mul', ← sumTo_sub]
            exact sumTo_congr (m + 1) fun k _ => by grind
          rw [e2] at h2
          grind
    · have h0 : ∀ c, c < m + 2 → f 0 c = 0 := fun c hc => Decidable.byContradiction fun hne => hp ⟨c, hc, hne⟩
      obtain ⟨z, ⟨k, hk, hkz⟩, hz⟩ := sys_zero m fun i j => f (i + 1) j
      refine ⟨fun j => if j < m + 1 then z j else 0, ⟨k, by omega, by show (if _ then _ else _) ≠ _; rw [if_pos hk]; exact hkz⟩, fun i hi => ?_⟩
      show sumTo (fun k => f i k * (if k < m + 1 then z k else 0)) (m + 1 + 1) = 0
      rw [sumTo_succ, if_neg (by omega), Int.mul_zero, Int.add_zero]
      have e1 : sumTo (fun k => f i k * (if k < m + 1 then z k else 0)) (m + 1) = sumTo (fun k => f i k * z k) (m + 1) := sumTo_congr (m + 1) fun k hk => by rw [if_pos hk]
      rw [e1]
      rcases Nat.eq_zero_or_pos i with hi0 | hi0
      · subst hi0
        exact sumTo_null (m + 1) fun k hk => by rw [h0 k (by omega), Int.zero_mul]
      · obtain ⟨i', rfl⟩ : ∃ i', i = i' + 1 := ⟨i - 1, by omega⟩
        exact hz i' (by omega)
/-- The first n rows of C cells are independent. -/
def Ind (n C : Nat) (v : Fn2) : Prop := ∀ z : Nat → Int, (∀ y, y < C → sumTo (fun k => z k * v k y) n = 0) → ∀ k, k < n → z k = 0
/-- Each of the first n rows of v, some times, is a sum of the first m rows of u. -/
def Span (n m C : Nat) (v u : Fn2) : Prop := ∀ i, i < n → ∃ (d : Int) (c : Nat → Int), d ≠ 0 ∧ ∀ y, y < C → d * v i y = sumTo (fun k => c k * u k y) m
theorem Ind.take {n m C : Nat} {v : Fn2} (h : Ind n C v) (hm : m ≤ n) : Ind m C v := fun z hz k hk => by
  have hs : ∀ y (q : Nat), m ≤ q → sumTo (fun k => (if k < m then z k else 0) * v k y) q = sumTo (fun k => z k * v k y) m := fun y q => by
    induction q with
    | zero => intro hq; obtain rfl : m = 0 := by omega
              rfl
    | succ q ih =>
      intro hq
      by_cases e : m = q + 1
      · subst e
        exact sumTo_congr (q + 1) fun k hk => by rw [if_pos hk]
      · rw [sumTo_succ, ih (by omega), if_neg (by omega), Int.zero_mul, Int.add_zero]
  have := h (fun k => if k < m then z k else 0) (fun y hy => by rw [hs y n hm]; exact hz y hy) k (by omega)
  simpa [hk] using this
/-- There are no more independent rows than rows that they are sums of. -/
theorem Ind.le {n m C : Nat} {v u : Fn2} (hi : Ind n C v) (hs : Span n m C v u) : n ≤ m := by
  refine Nat.le_of_not_lt fun hlt => ?_
  have hi' := hi.take (show m + 1 ≤ n by omega)
  have hch : ∀ i, ∃ (d : Int) (c : Nat → Int), i < m + 1 → d ≠ 0 ∧ ∀ y, y < C → d * v i y = sumTo (fun k => c k * u k y) m := fun i => by
    by_cases h : i < m + 1
    · obtain ⟨d, c, h1, h2⟩ := hs i (by omega)
      exact ⟨d, c, fun _ => ⟨h1, h2⟩⟩
    · exact ⟨0, fun _ => 0, fun h2 => absurd h2 h⟩
  obtain ⟨d, hd⟩ := Classical.axiomOfChoice hch
  obtain ⟨c, hc⟩ := Classical.axiomOfChoice hd
  obtain ⟨z, ⟨k, hk, hkz⟩, hz⟩ := sys_zero m fun k i => c i k
  have h0 := hi' (fun i => z i * d i) (fun y hy => by
    have e1 : sumTo (fun i => z i * d i * v i y) (m + 1) = sumTo (fun i => sumTo (fun k => z i * c i k * u k y) m) (m + 1) := sumTo_congr (m + 1) fun i hi => by
      rw [Int.mul_assoc, (hc i hi).2 y hy, ← sumTo_mul']
      exact sumTo_congr m fun k _ => by rw [Int.mul_assoc]
    rw [e1, sumTo_swap]
    refine sumTo_null m fun k hk => ?_
    have e2 : sumTo (fun i => z i * c i k * u k y) (m + 1) = sumTo (fun i => c i k * z i) (m + 1) * u k y := by
      rw [← sumTo_mul]
      exact sumTo_congr (m + 1) fun i _ => by grind
    rw [e2]
    have := hz k hk
    unfold mv at this
    rw [this, Int.zero_mul]) k hk
  exact (Int.mul_ne_zero hkz (hc k hk).1) h0
end Go.Proofs.Ytlggfmfelakadaa

/-
  DERIVED. Elimination with primitive rows, step by step: no program in sight.
-/
namespace Go.Proofs.Ytlggfmfelakadaa
set_option linter.unusedVariables false
def cbV (f : Nat → Nat → Int) (t j i k : Nat) : Int := (f t j).tdiv (Int.gcd (f i j) (f t j) : Nat) * f i k - (f i j).tdiv (Int.gcd (f i j) (f t j) : Nat) * f t k
def cbK (f : Nat → Nat → Int) (t j i k : Nat) : Nat → Nat → Int := fun a c => if a = i ∧ c < k then cbV f t j i c else f a c
theorem cbK_zero (f : Nat → Nat → Int) (t j i : Nat) : cbK f t j i 0 = f := by funext a c; simp [cbK]
theorem cbK_at (f : Nat → Nat → Int) (t j i k c : Nat) (h : k ≤ c) : cbK f t j i k i c = f i c := by unfold cbK; rw [if_neg (by omega)]
theorem cbK_t (f : Nat → Nat → Int) (t j i k c : Nat) (h : i ≠ t) : cbK f t j i k t c = f t c := by unfold cbK; rw [if_neg (by omega)]
theorem cbK_step (f : Nat → Nat → Int) (t j i k : Nat) : upd (cbK f t j i k) i k (cbV f t j i k) = cbK f t j i (k + 1) := by
  funext a c
  unfold upd cbK
  grind
def okQ (C : Nat) (f : Nat → Nat → Int) (t j i : Nat) : Bool := (List.range C).all fun k => isNum (cbV f t j i k)
def stQ (C : Nat) (f : Nat → Nat → Int) (t j i : Nat) : Nat → Nat → Int := prF C (cbK f t j i C) i
def rowsQ (C t j : Nat) : Nat → Nat → (Nat → Nat → Int) → Option (Nat → Nat → Int)
  | 0, _, f => some f
  | n + 1, i, f => if i = t ∨ f i j = 0 then rowsQ C t j n (i + 1) f else if okQ C f t j i = true then rowsQ C t j n (i + 1) (stQ C f t j i) else none
theorem rowsQ_skip {C t j R i : Nat} {f : Nat → Nat → Int} (hi : i < R) (h : i = t ∨ f i j = 0) : rowsQ C t j (R - i) i f = rowsQ C t j (R - (i + 1)) (i + 1) f := by
  rw [show R - i = (R - (i + 1)) + 1 by omega]
  conv => lhs; unfold rowsQ
  rw [if_pos h]
theorem rowsQ_do {C t j R i : Nat} {f : Nat → Nat → Int} (hi : i < R) (h : i ≠ t) (h0 : f i j ≠ 0) (hk : okQ C f t j i = true) : rowsQ C t j (R - i) i f = rowsQ C t j (R - (i + 1)) (i + 1) (stQ C f t j i) := by
  rw [show R - i = (R - (i + 1)) + 1 by omega]
  conv => lhs; unfold rowsQ
  rw [if_neg (by rintro (e | e); exact h e; exact h0 e), if_pos hk]
theorem rowsQ_bad {C t j R i : Nat} {f : Nat → Nat → Int} (hi : i < R) (h : i ≠ t) (h0 : f i j ≠ 0) (hk : okQ C f t j i = false) : rowsQ C t j (R - i) i f = none := by
  rw [show R - i = (R - (i + 1)) + 1 by omega]
  unfold rowsQ
  rw [if_neg (by rintro (e | e); exact h e; exact h0 e), if_neg (by rw [hk]; simp)]
theorem rowsQ_end (C t j R : Nat) (f : Nat → Nat → Int) : rowsQ C t j (R - R) R f = some f := by rw [Nat.sub_self]; rfl
structure QSt where
  f : Nat → Nat → Int
  ps : List Int
def colsQ (R C : Nat) : Nat → Nat → QSt → Option QSt
  | 0, _, s => some s
  | n + 1, j, s =>
    if R ≤ fnd s.f j (R - s.ps.length) s.ps.length then colsQ R C n (j + 1) s else
    match rowsQ C s.ps.length j (R - 0) 0 (swF s.f (fnd s.f j (R - s.ps.length) s.ps.length) s.ps.length) with
    | none => none
    | some f' => colsQ R C n (j + 1) ⟨f', s.ps ++ [(j : Int)]⟩
theorem colsQ_no {R C j : Nat} {f : Nat → Nat → Int} {ps : List Int} (hj : j < C) (hP : fnd f j (R - ps.length) ps.length = R) : colsQ R C (C - j) j ⟨f, ps⟩ = colsQ R C (C - (j + 1)) (j + 1) ⟨f, ps⟩ := by
  rw [show C - j = (C - (j + 1)) + 1 by omega]
  conv => lhs; unfold colsQ
  simp only [hP]
  rw [if_pos (Nat.le_refl _)]
theorem colsQ_none {R C j k : Nat} {f : Nat → Nat → Int} {ps : List Int} (hj : j < C) (hP : fnd f j (R - ps.length) ps.length = k) (hk : k < R) (hr : rowsQ C ps.length j (R - 0) 0 (swF f k ps.length) = none) : colsQ R C (C - j) j ⟨f, ps⟩ = none := by
  rw [show C - j = (C - (j + 1)) + 1 by omega]
  unfold colsQ
  simp only [hP]
  rw [if_neg (by omega), hr]
theorem colsQ_some {R C j k : Nat} {f f' : Nat → Nat → Int} {ps : List Int} (hj : j < C) (hP : fnd f j (R - ps.length) ps.length = k) (hk : k < R) (hr : rowsQ C ps.length j (R - 0) 0 (swF f k ps.length) = some f') : colsQ R C (C - j) j ⟨f, ps⟩ = colsQ R C (C - (j + 1)) (j + 1) ⟨f', ps ++ [(j : Int)]⟩ := by
  rw [show C - j = (C - (j + 1)) + 1 by omega]
  conv => lhs; unfold colsQ
  simp only [hP]
  rw [if_neg (by omega), hr]
theorem colsQ_end (R C : Nat) (s : QSt) : colsQ R C (C - C) C s = some s := by rw [Nat.sub_self]; rfl
theorem colsQ_full {R C : Nat} {s : QSt} (h : R ≤ s.ps.length) : ∀ n j, colsQ R C n j s = some s
  | 0, _ => rfl
  | n + 1, j => by
    unfold colsQ
    have := fnd_le s.f j (R - s.ps.length) s.ps.length
    rw [if_pos (by omega)]
    exact colsQ_full h n (j + 1)
/-- What holds of the rows between the steps: numbers, and primitive. -/
structure QOk (R C : Nat) (f : Nat → Nat → Int) : Prop where
  bd : ∀ i c, i < R → c < C → -400000000 ≤ f i c ∧ f i c ≤ 400000000
  pr : ∀ i, i < R → primL (rw_ C f i) = rw_ C f i
theorem rw_bd {C i : Nat} {f : Nat → Nat → Int} (h : ∀ c, c < C → -400000000 ≤ f i c ∧ f i c ≤ 400000000) (k : Nat) : ((rw_ C f i).getD k 0).natAbs ≤ 400000000 := by
  by_cases hk : k < C
  · rw [rw_at hk]; have := h k hk; omega
  · simp [List.getD, List.getElem?_eq_none (show (rw_ C f i).length ≤ k by rw [rw_len]; omega)]
theorem QOk.sw {R C k t : Nat} {f : Nat → Nat → Int} (h : QOk R C f) (hk : k < R) (ht : t < R) : QOk R C (swF f k t) := by
  have hx : ∀ i, i < R → (if i = k then t else if i = t then k else i) < R := fun i hi => by split; exact ht; split; exact hk; exact hi
  refine ⟨fun i c hi hc => h.bd _ c (hx i hi) hc, fun i hi => ?_⟩
  have e : rw_ C (swF f k t) i = rw_ C f (if i = k then t else if i = t then k else i) := rw_ext fun c hc => rfl
  rw [e]
  exact h.pr _ (hx i hi)
theorem QOk.all {R C : Nat} {f : Nat → Nat → Int} (h : ∀ i c, i < R → c < C → -400000000 ≤ f i c ∧ f i c ≤ 400000000) : QOk R C (prK C f R) := by
  refine ⟨fun i c hi hc => ?_, fun i hi => ?_⟩
  · have h1 := primL_bd (rw_bd (fun c hc => h i c hi hc)) c
    have e : prK C f R i c = (primL (rw_ C f i)).getD c 0 := by simp [prK, hi]
    rw [e]; omega
  · rw [rw_prK hi, primL_idem]
theorem QOk.st {R C t j i : Nat} {f : Nat → Nat → Int} (h : QOk R C f) (hi : i < R) (hk : okQ C f t j i = true) : QOk R C (stQ C f t j i) := by
  have hrow : ∀ c, c < C → -400000000 ≤ cbK f t j i C i c ∧ cbK f t j i C i c ≤ 400000000 := fun c hc => by
    have h1 : isNum (cbV f t j i c) = true := List.all_eq_true.1 hk c (List.mem_range.2 hc)
    have e : cbK f t j i C i c = cbV f t j i c := by unfold cbK; rw [if_pos ⟨rfl, hc⟩]
    rw [e]; exact (isNum_iff _).1 h1
  have hoth : ∀ a c, a ≠ i → cbK f t j i C a c = f a c := fun a c ha => by unfold cbK; rw [if_neg (fun e => ha e.1)]
  refine ⟨fun a c ha hc => ?_, fun a ha => ?_⟩
  · unfold stQ prF setR
    by_cases hai : a = i
    · rw [if_pos hai]
      have := primL_bd (rw_bd hrow) c
      omega
    · rw [if_neg hai, hoth a c hai]; exact h.bd a c ha hc
  · unfold stQ prF
    by_cases hai : a = i
    · subst hai
      rw [rw_setR (by rw [primL_len, rw_len]), primL_idem]
    · rw [rw_setR_ne hai, show rw_ C (cbK f t j i C) a = rw_ C f a from rw_ext fun c hc => hoth a c hai]
      exact h.pr a ha
/-- A row that is primitive stays as it is. -/
theorem prF_same {R C i : Nat} {f : Nat → Nat → Int} (h : primL (rw_ C f i) = rw_ C f i) : tb R C (prF C f i) = tb R C f := tb_ext fun a c ha hc => by
  unfold prF setR
  by_cases hai : a = i
  · rw [if_pos hai, h, rw_at hc, hai]
  · rw [if_neg hai]
/-- The whole. -/
def echQ (R C : Nat) (f : Nat → Nat → Int) : Option QSt := colsQ R C (C - 0) 0 ⟨prK C f R, []⟩
end Go.Proofs.Ytlggfmfelakadaa

/-
  DERIVED. What SmithForm of both answers: three matrices and a flag.
-/
namespace Go.Proofs.Ytlggfmfelakadaa
open Go.RowKit
set_option linter.unusedVariables false
def sfDO (r c : Int) : Option SS → Mx
  | some s => ⟨r, c, tb r.toNat c.toNat s.f⟩
  | none => .none
def sfUO (r : Int) : Option SS → Mx
  | some s => ⟨r, r, tb r.toNat r.toNat s.g⟩
  | none => .none
def sfVO (c : Int) : Option SS → Mx
  | some s => ⟨c, c, tb c.toNat c.toNat s.h⟩
  | none => .none
/-- The call returned three matrices, their cells their own, and the flag. -/
def M3R (m m' m'' : Mx) (b : Bool) (w : World) (e : Ending) (w' : World) : Prop :=
  ∃ A n cap A2 n2 cap2 A3 n3 cap3, e = .returned (.tuple #[.agg #[.int .i64 m.r, .int .i64 m.c, .slice A n cap], .agg #[.int .i64 m'.r, .int .i64 m'.c, .slice A2 n2 cap2], .agg #[.int .i64 m''.r, .int .i64 m''.c, .slice A3 n3 cap3], .bool b]) ∧
    OR w' w.heap.size (.slice A n cap) m.xs ∧ OR w' w.heap.size (.slice A2 n2 cap2) m'.xs ∧ OR w' w.heap.size (.slice A3 n3 cap3) m''.xs ∧ Apart (.slice A n cap) (.slice A2 n2 cap2) ∧ Apart (.slice A n cap) (.slice A3 n3 cap3) ∧ Apart (.slice A2 n2 cap2) (.slice A3 n3 cap3) ∧ Below w.heap.size w w'
theorem apart_nil {v : Value} : Apart (.slice none 0 0) v := by
  intro g h1
  simp [Value.ownBlock] at h1
theorem M3R.none_ {r c : Int} {X : Option SS} {w w' : World} (hX : X = none) (hb : Below w.heap.size w w') :
    M3R (sfDO r c X) (sfUO r X) (sfVO c X) X.isSome w (.returned (.tuple #[.agg #[.int .i64 0, .int .i64 0, .slice none 0 0], .agg #[.int .i64 0, .int .i64 0, .slice none 0 0], .agg #[.int .i64 0, .int .i64 0, .slice none 0 0], .bool false])) w' := by
  subst hX
  exact ⟨none, 0, 0, none, 0, 0, none, 0, 0, rfl, OR.nil_ _ _, OR.nil_ _ _, OR.nil_ _ _, apart_nil, apart_nil, apart_nil, hb⟩
theorem M3R.some_ {R C : Nat} {s : SS} {X : Option SS} {w w' : World} {A A2 A3 : Option Addr} {n cap n2 cap2 n3 cap3 : Nat} (hX : X = some s) (h1 : OR w' w.heap.size (.slice A n cap) (tb R C s.f)) (h2 : OR w' w.heap.size (.slice A2 n2 cap2) (tb R R s.g)) (h3 : OR w' w.heap.size (.slice A3 n3 cap3) (tb C C s.h))
    (ha : Apart (.slice A n cap) (.slice A2 n2 cap2)) (ha2 : Apart (.slice A n cap) (.slice A3 n3 cap3)) (ha3 : Apart (.slice A2 n2 cap2) (.slice A3 n3 cap3)) (hb : Below w.heap.size w w') :
    M3R (sfDO R C X) (sfUO R X) (sfVO C X) X.isSome w (.returned (.tuple #[.agg #[.int .i64 R, .int .i64 C, .slice A n cap], .agg #[.int .i64 R, .int .i64 R, .slice A2 n2 cap2], .agg #[.int .i64 C, .int .i64 C, .slice A3 n3 cap3], .bool true])) w' := by
  subst hX
  exact ⟨A, n, cap, A2, n2, cap2, A3, n3, cap3, rfl, h1, h2, h3, ha, ha2, ha3, hb⟩
theorem ret_M3 {fn : Func} {R : Ending → World → Prop} {a : Act} {w : World} {t t' t'' s : Tmp} {b n cap b' n' cap' b'' n'' cap'' : Nat} {r c r' c' r'' c'' : Int} {A A' A'' : Option Addr} (hr : fn.results = #[.cell t 26, .cell t' 26, .cell t'' 26, .tmp s])
    (ht : a.tmps.getD t undef = .pointer (some ⟨b, 0, none⟩)) (ht' : a.tmps.getD t' undef = .pointer (some ⟨b', 0, none⟩)) (ht'' : a.tmps.getD t'' undef = .pointer (some ⟨b'', 0, none⟩)) (h : BM w b r c A n cap) (h' : BM w b' r' c' A' n' cap') (h'' : BM w b'' r'' c'' A'' n'' cap'') (hd : a.defers = [])
    (hR : R (.returned (.tuple #[.agg #[.int .i64 r, .int .i64 c, .slice A n cap], .agg #[.int .i64 r', .int .i64 c', .slice A' n' cap'], .agg #[.int .i64 r'', .int .i64 c'', .slice A'' n'' cap''], a.tmps.getD s undef])) w) : bodyPost Try.prog fn R .ret a w :=
  bodyPost_ret (v := .tuple #[.agg #[.int .i64 r, .int .i64 c, .slice A n cap], .agg #[.int .i64 r', .int .i64 c', .slice A' n' cap'], .agg #[.int .i64 r'', .int .i64 c'', .slice A'' n'' cap''], a.tmps.getD s undef]) (by
    obtain ⟨r0, r1, r2, rf, rl⟩ := h.mx
    obtain ⟨s0, s1, s2, sf, sl⟩ := h'.mx
    obtain ⟨t0, t1, t2, tf, tl⟩ := h''.mx
    simp only [Array.getD_eq_getD_getElem?] at ht ht' ht''
    simp [results, hr, ht, ht', ht'', go_sem, r0, r1, r2, s0, s1, s2, t0, t1, t2]) hd hR
/-- The call's own variables: its argument and its three results. -/
structure HV3 (w wr : World) (r c : Int) (A : Option Addr) (n cap : Nat) : Prop where
  m : BM wr w.heap.size r c A n cap
  r1 : BM wr (w.heap.size + 1) 0 0 none 0 0
  r2 : BM wr (w.heap.size + 1 + 1) 0 0 none 0 0
  r3 : BM wr (w.heap.size + 1 + 1 + 1) 0 0 none 0 0
  b : Below w.heap.size w wr
section
variable {w wr w' : World} {r c : Int} {A : Option Addr} {n cap : Nat}
theorem HV3.lt (h : HV3 w wr r c A n cap) : w.heap.size + 1 + 1 + 1 < wr.heap.size := h.r3.lt
theorem HV3.below {D : Nat} (h : HV3 w wr r c A n cap) (hD : Below D wr w') (hs : w.heap.size + 1 + 1 + 1 + 1 ≤ D) : HV3 w w' r c A n cap :=
  ⟨h.m.below hD (by omega), h.r1.below hD (by omega), h.r2.below hD (by omega), h.r3.below hD (by omega), h.b.trans (hD.mono (by omega))⟩
theorem HV3.drew (h : HV3 w wr r c A n cap) : HV3 w wr.drew r c A n cap := ⟨h.m.drew, h.r1.drew, h.r2.drew, h.r3.drew, h.b.drew⟩
theorem HV3.b_ {w wr w' : World} {r c : Int} {A : Option Addr} {n cap D : Nat} (h : HV3 w wr r c A n cap) (hD : Below D wr w' := by assumption) (hs : w.heap.size + 1 + 1 + 1 + 1 ≤ D := by first | omega | (simp; done) | (simp; omega)) : HV3 w w' r c A n cap := HV3.below h hD hs
theorem HV3.drewN (h : HV3 w wr r c A n cap) (q : Nat) : HV3 w (wr.drewN q) r c A n cap := ⟨h.m.drewN q, h.r1.drewN q, h.r2.drewN q, h.r3.drewN q, below_drewN h.b q⟩
theorem HV3.alloc (h : HV3 w wr r c A n cap) (o : Obj) : HV3 w (wr.alloc o) r c A n cap :=
  have hl := h.lt
  ⟨h.m.alloc o, h.r1.alloc o, h.r2.alloc o, h.r3.alloc o, Below.alloc h.b (by omega) o⟩
end
/-- A Smith form that came to be has numbers only. -/
theorem rnd_gd {R C t p q : Nat} {s : SS} (h : SGD R C s) (e : ls2 R C s.f t = ((p : Int), (q : Int))) (hp : p < R) (hq : q < C) (ht : t < R) (htC : t < C) (hk : (rnd R C t s).1.OK R C) : SGD R C (rnd R C t s).1 := by
  refine ⟨hk, ?_⟩
  have hA : SGD R C (sfA R C t s) := by
    unfold sfA
    rw [e]
    exact (h.a1 hp ht).a2 hq htC
  exact sfD_nb (sfC_nb (sfB_nb hA.nb))
theorem sfIn_gd {R C t : Nat} (ht : t < R) (htC : t < C) : ∀ (k : Nat) (s : SS), sfMs R C t s ≤ k → SGD R C s → ¬ (ls2 R C s.f t).1 < 0 → ∀ s', sfIn R C t s = some s' → SGD R C s' := by
  intro k
  induction k with
  | zero =>
    intro s hk hg hn s' he
    rcases ls2_cases R C s.f t with ⟨e, _⟩ | ⟨p, q, e, ⟨a1, a2, a3, a4⟩, h3, h4, h5⟩
    · rw [e] at hn; exact absurd (by decide) hn
    · have hV : lsV R C t s = (s.f p q).natAbs := by unfold lsV; rw [e]; rfl
      unfold sfMs at hk
      omega
  | succ k ih =>
    intro s hk hg hn s' he
    rcases ls2_cases R C s.f t with ⟨e, _⟩ | ⟨p, q, e, ⟨a1, a2, a3, a4⟩, h3, h4, h5⟩
    · rw [e] at hn; exact absurd (by decide) hn
    · rw [sfIn] at he
      have hA : SGD R C (sfA R C t s) := by
        unfold sfA
        rw [e]
        exact (hg.a1 a2 ht).a2 a4 htC
      have hnb : (rnd R C t s).1.NBS := sfD_nb (sfC_nb (sfB_nb hA.nb))
      split at he
      · rename_i hok
        have hk' := (SS.ok_iff hnb).1 hok
        split at he
        · cases he
          exact rnd_gd hg e a2 a4 ht htC hk'
        · rename_i hd
          split at he
          · rename_i hlt
            obtain ⟨_, hne⟩ := rnd_lt hg ht htC e a2 a4 h3 (h5 ht htC) hk' (by simpa using hd)
            refine ih _ (by omega) (rnd_gd hg e a2 a4 ht htC hk') ?_ s' he
            obtain ⟨p2, q2, e2, _⟩ := ls2_some (R := R) (C := C) (Nat.le_refl t) ht (Nat.le_refl t) htC hne
            rw [e2]
            dsimp only
            omega
          · cases he
      · cases he
theorem sfOut_gd {R C : Nat} : ∀ (m t : Nat) (s s' : SS), t + m ≤ R → t + m ≤ C → SGD R C s → sfOut R C m t s = some s' → SGD R C s'
  | 0, t, s, s', _, _, hg, he => by cases he; exact hg
  | m + 1, t, s, s', h1, h2, hg, he => by
    by_cases hn : (ls2 R C s.f t).1 < 0
    · rw [sfOut_stop hn] at he; cases he; exact hg
    · rw [sfOut_go hn] at he
      unfold sfGo at he
      rcases hi : sfIn R C t s with _ | s2
      · rw [hi] at he; cases he
      · rw [hi] at he
        exact sfOut_gd m (t + 1) (sfN t s2) s' (by omega) (by omega) ((sfIn_gd (by omega) (by omega) _ s (Nat.le_refl _) hg hn s2 hi).n (by omega)) he
theorem idF_ok (R C : Nat) : OKF R C idF := by
  intro i j _ _
  unfold idF Num
  split <;> omega
theorem idF_nb : NBF idF := by
  intro i j
  refine .inr ?_
  unfold idF
  split <;> omega
theorem sfX_gd {R C : Nat} {xs : List Int} {s : SS} (h : sfX R C xs = some s) : isMat R C xs = true ∧ R ≤ 24 ∧ C ≤ 24 ∧ SGD R C s := by
  rcases hm : isMat (R : Int) (C : Int) xs with _ | _
  · rw [sfX_no hm] at h; cases h
  · rw [sfX_yes hm] at h
    have M := isMat_iff.1 hm
    have hs := start_gd (R := R) (C := C) M.num
    refine ⟨rfl, by have := M.r1; omega, by have := M.c1; omega, sfOut_gd _ _ _ _ (by omega) (by omega) ⟨⟨hs.ok.f, hs.ok.g, idF_ok C C⟩, ⟨hs.nb.f, hs.nb.g, idF_nb⟩⟩ h⟩
end Go.Proofs.Ytlggfmfelakadaa

/-
  DERIVED. The echelon form with primitive rows: its shape, what its rows span, that two of one space are equal. No program in sight.
-/
namespace Go.Proofs.Ytlggfmfelakadaa
set_option linter.unusedVariables false
/-- Some multiple of v is a sum of rows. -/
def QS (R C : Nat) (f : Fn2) (v : Nat → Int) : Prop := ∃ (d : Int) (c : Nat → Int), d ≠ 0 ∧ ∀ y, y < C → d * v y = sumTo (fun k => c k * f k y) R
section
variable {R S C r s : Nat} {p q : Nat → Nat} {f g : Fn2} {u v z : Nat → Int}
theorem QS.row {i : Nat} (hi : i < R) : QS R C f (f i) := ⟨1, idF i, by decide, fun y hy => by
  rw [sumTo_one (i := i) R hi (fun k hk hne => by unfold idF; rw [if_neg (fun e => hne e.symm), Int.zero_mul])]
  unfold idF; rw [if_pos rfl]⟩
/-- a u + b v, divided by d. -/
theorem QS.lin (h : QS R C f u) (h2 : QS R C f v) {a b d : Int} (hd : d ≠ 0) (e : ∀ y, y < C → d * z y = a * u y + b * v y) : QS R C f z := by
  obtain ⟨d1, c1, h1, hc1⟩ := h
  obtain ⟨d2, c2, h2, hc2⟩ := h2
  refine ⟨d1 * d2 * d, fun k => a * d2 * c1 k + b * d1 * c2 k, Int.mul_ne_zero (Int.mul_ne_zero h1 h2) hd, fun y hy => ?_⟩
  have e1 : sumTo (fun k => (a * d2 * c1 k + b * d1 * c2 k) * f k y) R = a * d2 * sumTo (fun k => c1 k * f k y) R + b * d1 * sumTo (fun k => c2 k * f k y) R := by
    rw [← sumTo_mul', ← sumTo_mul', ← sumTo_add]
    exact sumTo_congr R fun k _ => by grind
  rw [e1, ← hc1 y hy, ← hc2 y hy, show d1 * d2 * d * z y = d1 * d2 * (d * z y) by grind, e y hy]
  grind
theorem QS.zero (h : ∀ y, y < C → v y = 0) : QS R C f v := ⟨1, fun _ => 0, by decide, fun y hy => by
  rw [h y hy, sumTo_null R fun k _ => Int.zero_mul _]; rfl⟩
theorem QS.as {d : Int} (h : QS R C f u) (hd : d ≠ 0) (e : ∀ y, y < C → d * z y = u y) : QS R C f z :=
  h.lin h (a := 1) (b := 0) hd fun y hy => by rw [e y hy]; omega
theorem QS.sum {c : Nat → Int} {g : Fn2} : ∀ n, (∀ k, k < n → QS R C f (g k)) → QS R C f (fun y => sumTo (fun k => c k * g k y) n)
  | 0, _ => QS.zero fun _ _ => rfl
  | n + 1, h => (QS.sum (c := c) n fun k hk => h k (by omega)).lin (h n (by omega)) (a := 1) (b := c n) (d := 1) (by decide) fun y _ => by rw [sumTo_succ]; omega
theorem QS.trans (h : QS S C g v) (k : ∀ i, i < S → QS R C f (g i)) : QS R C f v := by
  obtain ⟨d, c, hd, hc⟩ := h
  exact (QS.sum (c := c) S k).as hd hc
/-- The rows of f and of g span one space. -/
def QSP (R S C : Nat) (f g : Fn2) : Prop := (∀ i, i < R → QS S C g (f i)) ∧ ∀ i, i < S → QS R C f (g i)
theorem QSP.refl (R C : Nat) (f : Fn2) : QSP R R C f f := ⟨fun i hi => QS.row hi, fun i hi => QS.row hi⟩
theorem QSP.symm (h : QSP R S C f g) : QSP S R C g f := ⟨h.2, h.1⟩
theorem QSP.trans {T : Nat} {h : Fn2} (a : QSP R S C f g) (b : QSP S T C g h) : QSP R T C f h := ⟨fun i hi => (a.1 i hi).trans b.1, fun i hi => (b.2 i hi).trans a.2⟩
theorem QSP.swap {i j : Nat} (hi : i < R) (hj : j < R) : QSP R R C f (swF f i j) := by
  have hx : ∀ x, x < R → (if x = i then j else if x = j then i else x) < R := fun x hx => by split; exact hj; split; exact hi; exact hx
  refine ⟨fun x hx' => ?_, fun x hx' => QS.row (f := f) (hx x hx')⟩
  have e : f x = swF f i j (if x = i then j else if x = j then i else x) := by
    funext y
    unfold swF
    grind
  rw [e]
  exact QS.row (hx x hx')
/-- Row i was turned into a multiple of itself and of row t, divided. -/
structure CMB (C : Nat) (f f' : Fn2) (i t : Nat) (d a b : Int) : Prop where
  d0 : d ≠ 0
  a0 : a ≠ 0
  at_ : ∀ c, c < C → d * f' i c = a * f i c + b * f t c
  other : ∀ x, x ≠ i → f' x = f x
theorem CMB.span {f' : Fn2} {i t : Nat} {d a b : Int} (h : CMB C f f' i t d a b) (hi : i < R) (ht : t < R) (hit : i ≠ t) : QSP R R C f f' := by
  have hT : QS R C f' (f t) := by rw [← h.other t (fun e => hit e.symm)]; exact QS.row ht
  refine ⟨fun x hx => ?_, fun x hx => ?_⟩
  · by_cases e : x = i
    · subst e
      exact (QS.row (f := f') hx).lin hT (a := d) (b := -b) h.a0 fun y hy => by rw [h.at_ y hy]; grind
    · rw [← h.other x e]; exact QS.row hx
  · by_cases e : x = i
    · subst e
      exact (QS.row (f := f) hx).lin (QS.row ht) h.d0 fun y hy => h.at_ y hy
    · rw [h.other x e]; exact QS.row hx
/-- Echelon form with the pivots p 0 .. p (r - 1), as far as C columns. -/
structure EF (R C r : Nat) (p : Nat → Nat) (f : Fn2) : Prop where
  le : r ≤ R
  lt : ∀ i, i < r → p i < C
  mono : ∀ i k, i < k → k < r → p i < p k
  left : ∀ i y, i < r → y < p i → f i y = 0
  ne : ∀ i, i < r → f i (p i) ≠ 0
  oth : ∀ i k, i < r → k < R → k ≠ i → f k (p i) = 0
  zero : ∀ i y, r ≤ i → i < R → y < C → f i y = 0
theorem EF.congr (H : EF R C r p f) (e : EqM R C g f) : EF R C r p g where
  le := H.le
  lt := H.lt
  mono := H.mono
  left := fun i y hi hy => by rw [e i y (Nat.lt_of_lt_of_le hi H.le) (Nat.lt_trans hy (H.lt i hi))]; exact H.left i y hi hy
  ne := fun i hi => by rw [e i (p i) (Nat.lt_of_lt_of_le hi H.le) (H.lt i hi)]; exact H.ne i hi
  oth := fun i k hi hk hne => by rw [e k (p i) hk (H.lt i hi)]; exact H.oth i k hi hk hne
  zero := fun i y h1 h2 h3 => by rw [e i y h2 h3]; exact H.zero i y h1 h2 h3
theorem EF.piv (H : EF R C r p f) (e : ∀ i, i < r → q i = p i) : EF R C r q f where
  le := H.le
  lt := fun i hi => by rw [e i hi]; exact H.lt i hi
  mono := fun i k hik hk => by rw [e i (by omega), e k hk]; exact H.mono i k hik hk
  left := fun i y hi hy => H.left i y hi (by rw [← e i hi]; exact hy)
  ne := fun i hi => by rw [e i hi]; exact H.ne i hi
  oth := fun i k hi hk hne => by rw [e i hi]; exact H.oth i k hi hk hne
  zero := H.zero
/-- The value at a pivot of a sum of rows. -/
theorem EF.at_ (H : EF R C r p f) {c : Nat → Int} {i : Nat} (hi : i < r) : sumTo (fun k => c k * f k (p i)) R = c i * f i (p i) :=
  sumTo_one R (Nat.lt_of_lt_of_le hi H.le) fun k hk hne => by rw [H.oth i k hi hk hne, Int.mul_zero]
/-- Where a vector of the space is 0 at a pivot, the coefficient is 0. -/
theorem EF.coef (H : EF R C r p f) {c : Nat → Int} {d : Int} (hv : ∀ y, y < C → d * v y = sumTo (fun k => c k * f k y) R) {i : Nat} (hi : i < r) (h0 : v (p i) = 0) : c i = 0 := by
  have := hv _ (H.lt i hi)
  rw [H.at_ hi, h0, Int.mul_zero] at this
  rcases Int.mul_eq_zero.1 this.symm with h | h
  · exact h
  · exact absurd h (H.ne i hi)
theorem EF.ind (H : EF R C r p f) : Ind r C f := fun z hz k hk => by
  have h1 := hz _ (H.lt k hk)
  rw [sumTo_one r hk (fun i hi hne => by rw [H.oth k i hk (Nat.lt_of_lt_of_le hi H.le) hne, Int.mul_zero])] at h1
  rcases Int.mul_eq_zero.1 h1 with h | h
  · exact h
  · exact absurd h (H.ne k hk)
theorem EF.next (H : EF R C r p f) (K : EF S C s q g) (hf : ∀ i, i < R → QS S C g (f i)) {i : Nat} (hi : i < r) (hs : i ≤ s) (hpq : ∀ k, k < i → p k = q k) : i < s ∧ q i ≤ p i := by
  have hiR := Nat.lt_of_lt_of_le hi H.le
  obtain ⟨d, c, hd, hc⟩ := hf i hiR
  have h0 : ∀ k, k < i → c k = 0 := fun k hk => K.coef hc (show k < s by omega) (by rw [← hpq k hk]; exact H.oth k i (by omega) hiR (by omega))
  have hz : ∀ y, y < C → (∀ k, k < S → i ≤ k → g k y = 0) → f i y = 0 := fun y hy h => by
    have e := hc y hy
    rw [sumTo_null S fun k hk => by
      rcases Nat.lt_or_ge k i with h1 | h1
      · rw [h0 k h1, Int.zero_mul]
      · rw [h k hk h1, Int.mul_zero]] at e
    rcases Int.mul_eq_zero.1 e with h1 | h1
    · exact absurd h1 hd
    · exact h1
  have his : i < s := by
    refine Nat.lt_of_not_le fun h => H.ne i hi (hz _ (H.lt i hi) fun k hk hik => K.zero k _ (by omega) hk (H.lt i hi))
  refine ⟨his, Nat.le_of_not_lt fun h => H.ne i hi (hz _ (H.lt i hi) fun k hk hik => ?_)⟩
  rcases Nat.lt_or_ge k s with h1 | h1
  · refine K.left k _ h1 ?_
    rcases Nat.lt_or_ge i k with h2 | h2
    · exact Nat.lt_trans h (K.mono i k h2 h1)
    · obtain rfl : k = i := by omega
      exact h
  · exact K.zero k _ h1 hk (H.lt i hi)
theorem EF.pivs (H : EF R C r p f) (K : EF S C s q g) (h : QSP R S C f g) : ∀ i, i ≤ r → i ≤ s ∧ ∀ k, k < i → p k = q k
  | 0, _ => ⟨Nat.zero_le _, fun k hk => absurd hk (Nat.not_lt_zero _)⟩
  | i + 1, hi => by
    obtain ⟨h1, h2⟩ := EF.pivs H K h i (by omega)
    obtain ⟨h3, h4⟩ := H.next K h.1 (show i < r by omega) h1 h2
    obtain ⟨-, h5⟩ := K.next H h.2 h3 (by omega) (fun k hk => (h2 k hk).symm)
    refine ⟨h3, fun k hk => ?_⟩
    rcases Nat.lt_or_ge k i with h6 | h6
    · exact h2 k h6
    · obtain rfl : k = i := by omega
      omega
/-- Two echelon forms of one space: as many rows, the same pivots, each row a multiple. -/
theorem EF.uniq (H : EF R C r p f) (K : EF S C s q g) (h : QSP R S C f g) : r = s ∧ (∀ k, k < r → p k = q k) ∧ ∀ i, i < r → ∃ d c : Int, d ≠ 0 ∧ c ≠ 0 ∧ ∀ y, y < C → d * f i y = c * g i y := by
  obtain ⟨h1, h2⟩ := H.pivs K h r (Nat.le_refl _)
  obtain ⟨h3, -⟩ := K.pivs H h.symm s (Nat.le_refl _)
  refine ⟨by omega, h2, fun i hi => ?_⟩
  have hiR := Nat.lt_of_lt_of_le hi H.le
  obtain ⟨d, c, hd, hc⟩ := h.1 i hiR
  have h0 : ∀ k, k < s → k ≠ i → c k = 0 := fun k hk hne => K.coef hc hk (by rw [← h2 k (by omega)]; exact H.oth k i (by omega) hiR (fun e => hne e.symm))
  have hv : ∀ y, y < C → d * f i y = c i * g i y := fun y hy => by
    rw [hc y hy]
    refine sumTo_one S (Nat.lt_of_lt_of_le (show i < s by omega) K.le) fun k hk hne => ?_
    rcases Nat.lt_or_ge k s with h4 | h4
    · rw [h0 k h4 hne, Int.zero_mul]
    · rw [K.zero k y h4 hk hy, Int.mul_zero]
  refine ⟨d, c i, hd, fun e => ?_, hv⟩
  have := hv _ (H.lt i hi)
  rw [e, Int.zero_mul] at this
  rcases Int.mul_eq_zero.1 this with h4 | h4
  · exact hd h4
  · exact H.ne i hi h4
end
/-- What divides all multiples divides the multiple of the divisor. -/
theorem gcdF_mul (c d : Int) (l : List Int) : ∀ a : Nat, d ∣ c * a → (∀ x ∈ l, d ∣ c * x) → d ∣ c * (l.foldl (fun (g : Nat) (x : Int) => Int.gcd g x) a : Nat) := by
  induction l with
  | nil => intro a h _; simpa using h
  | cons y l ih =>
    intro a h h2
    refine ih _ ?_ (fun x hx => h2 x (List.mem_cons_of_mem _ hx))
    have h3 : d ∣ (Int.gcd (c * a) (c * y) : Nat) := by
      have := Int.dvd_coe_gcd h (h2 y (List.mem_cons_self ..))
      exact this
    rw [Int.gcd_mul_left] at h3
    have h4 : ((c.natAbs * Int.gcd a y : Nat) : Int) ∣ c * (Int.gcd a y : Nat) := by
      rw [Int.natCast_mul]
      exact Int.mul_dvd_mul (Int.natAbs_dvd.2 (Int.dvd_refl c)) (Int.dvd_refl _)
    exact Int.dvd_trans h3 h4
theorem gcdL_mul {c d : Int} {l : List Int} (h : ∀ x ∈ l, d ∣ c * x) : d ∣ c * (gcdL l : Nat) := gcdF_mul c d l 0 (by simp) h
/-- Two primitive rows that are multiples of each other are equal. -/
theorem prim_uniq {l m : List Int} {d c : Int} (hl : primL l = l) (hm : primL m = m) (hlen : l.length = m.length) (hd : d ≠ 0) (hc : c ≠ 0) (e : ∀ k, k < l.length → d * l.getD k 0 = c * m.getD k 0) : l = m := by
  have hext : (∀ k, k < l.length → l.getD k 0 = m.getD k 0) → l = m := fun h => by
    refine List.ext_getElem hlen fun k h1 h2 => ?_
    have := h k h1
    simpa [List.getD, h1, h2] using this
  have hz : ∀ k, k < l.length → (l.getD k 0 = 0 ↔ m.getD k 0 = 0) := fun k hk => by
    have := e k hk
    constructor
    · intro h; rw [h, Int.mul_zero] at this
      rcases Int.mul_eq_zero.1 this.symm with h1 | h1
      · exact absurd h1 hc
      · exact h1
    · intro h; rw [h, Int.mul_zero] at this
      rcases Int.mul_eq_zero.1 this with h1 | h1
      · exact absurd h1 hd
      · exact h1
  rcases (primL_eq_iff l).1 hl with h0 | ⟨h1, h2⟩
  · refine hext fun k hk => ?_
    have h3 := gcdL_zero.1 h0 _ (mem_getD hk)
    rw [h3]; exact ((hz k hk).1 h3).symm
  · have hlt : fcN l < l.length := fcN_lt_iff.2 (by omega)
    have hfc : fcN m = fcN l := fcN_eq (by omega) (fun j hj => (hz j (by omega)).1 (fcN_zero l j hj)) (fun _ h => fcN_ne l hlt ((hz _ hlt).2 h))
    have hml : gcdL m ≠ 0 := fcN_lt_iff.1 (by omega)
    obtain ⟨m1, m2⟩ := ((primL_eq_iff m).1 hm).resolve_left hml
    have k1 : c ∣ d * (gcdL l : Nat) := gcdL_mul fun x hx => by
      obtain ⟨k, hk, rfl⟩ := List.mem_iff_getElem.1 hx
      have := e k hk
      rw [show l.getD k 0 = l[k] by simp [List.getD, hk]] at this
      rw [this]; exact Int.dvd_mul_right _ _
    have k2 : d ∣ c * (gcdL m : Nat) := gcdL_mul fun x hx => by
      obtain ⟨k, hk, rfl⟩ := List.mem_iff_getElem.1 hx
      have := e k (by omega)
      rw [show m.getD k 0 = m[k] by simp [List.getD, hk]] at this
      rw [← this]; exact Int.dvd_mul_right _ _
    rw [h1] at k1
    rw [m1] at k2
    have k3 : c ∣ d := by simpa using k1
    have k4 : d ∣ c := by simpa using k2
    have k5 : d.natAbs = c.natAbs := Nat.dvd_antisymm (Int.natAbs_dvd_natAbs.2 k4) (Int.natAbs_dvd_natAbs.2 k3)
    have k6 := e _ hlt
    have k7 := fcN_ne l hlt
    rw [hfc] at m2
    rcases (show d = c ∨ d = -c by omega) with k8 | k8
    · subst k8
      exact hext fun k hk => Int.eq_of_mul_eq_mul_left hd (e k hk)
    · exfalso
      subst k8
      have k9 : c * (m.getD (fcN l) 0 + l.getD (fcN l) 0) = 0 := by rw [Int.mul_add]; rw [Int.neg_mul] at k6; omega
      rcases Int.mul_eq_zero.1 k9 with k10 | k10
      · exact hc k10
      · omega
end Go.Proofs.Ytlggfmfelakadaa

/-
  DERIVED. What EchelonOf computes is an echelon form of the same space; that of an echelon form is itself. No program in sight.
-/
namespace Go.Proofs.Ytlggfmfelakadaa
set_option linter.unusedVariables false
theorem primL_mul (l : List Int) : ∃ D : Int, D ≠ 0 ∧ ∀ k, k < l.length → D * (primL l).getD k 0 = l.getD k 0 := by
  unfold primL
  by_cases h0 : gcdL l = 0
  · rw [if_pos h0]; exact ⟨1, by decide, fun k _ => Int.one_mul _⟩
  · rw [if_neg h0]
    have hd := divL_abs l
    refine ⟨divL l, fun e => by rw [e] at hd; simp at hd; omega, fun k hk => ?_⟩
    have h1 : (l.map (·.tdiv (divL l))).getD k 0 = (l.getD k 0).tdiv (divL l) := by simp [List.getD, hk]
    rw [h1]
    exact Int.mul_tdiv_cancel' (divL_dvd (mem_getD hk))
section
variable {R C r t j : Nat} {p : Nat → Nat} {f g : Fn2}
theorem QSP.scale {f g : Fn2} (h : ∀ i, i < R → ∃ D : Int, D ≠ 0 ∧ ∀ y, y < C → D * g i y = f i y) : QSP R R C f g := by
  refine ⟨fun i hi => ?_, fun i hi => ?_⟩
  · obtain ⟨D, hD, e⟩ := h i hi
    exact (QS.row (f := g) hi).lin (QS.row hi) (a := D) (b := 0) (d := 1) (by decide) fun y hy => by rw [← e y hy]; omega
  · obtain ⟨D, hD, e⟩ := h i hi
    exact (QS.row (f := f) hi).as hD e
theorem prK_span : QSP R R C f (prK C f R) := QSP.scale fun i hi => by
  obtain ⟨D, hD, e⟩ := primL_mul (rw_ C f i)
  refine ⟨D, hD, fun y hy => ?_⟩
  have := e y (by rw [rw_len]; exact hy)
  rw [rw_at hy] at this
  rw [← this]
  unfold prK
  rw [if_pos hi]
theorem stQ_cmb {i : Nat} (hi0 : f i j ≠ 0) (ht0 : f t j ≠ 0) (hj : j < C) : (∃ d a b, CMB C f (stQ C f t j i) i t d a b) ∧ stQ C f t j i i j = 0 := by
  obtain ⟨D, hD, e⟩ := primL_mul (rw_ C (cbK f t j i C) i)
  have e' : ∀ c, c < C → D * stQ C f t j i i c = cbV f t j i c := fun c hc => by
    have := e c (by rw [rw_len]; exact hc)
    rw [rw_at hc] at this
    have e2 : cbK f t j i C i c = cbV f t j i c := by unfold cbK; rw [if_pos ⟨rfl, hc⟩]
    rw [e2] at this
    rw [← this]
    unfold stQ prF setR
    rw [if_pos rfl]
  obtain ⟨x, hx⟩ : ((Int.gcd (f i j) (f t j) : Nat) : Int) ∣ f i j := Int.gcd_dvd_left ..
  obtain ⟨y, hy⟩ : ((Int.gcd (f i j) (f t j) : Nat) : Int) ∣ f t j := Int.gcd_dvd_right ..
  have hg : ((Int.gcd (f i j) (f t j) : Nat) : Int) ≠ 0 := fun h => hi0 (by rw [hx, h, Int.zero_mul])
  have kx : (f i j).tdiv (Int.gcd (f i j) (f t j) : Nat) = x := by
    generalize hG : ((Int.gcd (f i j) (f t j) : Nat) : Int) = G at *
    rw [hx]; exact Int.mul_tdiv_cancel_left x hg
  have ky : (f t j).tdiv (Int.gcd (f i j) (f t j) : Nat) = y := by
    generalize hG : ((Int.gcd (f i j) (f t j) : Nat) : Int) = G at *
    rw [hy]; exact Int.mul_tdiv_cancel_left y hg
  have hv : ∀ c, cbV f t j i c = y * f i c - x * f t c := fun c => by unfold cbV; rw [kx, ky]
  refine ⟨⟨D, y, -x, hD, fun h => ht0 (by rw [hy, h, Int.mul_zero]), fun c hc => by rw [e' c hc, hv]; grind, fun a ha => ?_⟩, ?_⟩
  · funext c
    unfold stQ prF setR cbK
    rw [if_neg ha, if_neg (fun e => ha e.1)]
  · have h1 := e' j hj
    rw [hv] at h1
    generalize ((Int.gcd (f i j) (f t j) : Nat) : Int) = G at *
    have h2 : y * f i j - x * f t j = 0 := by rw [hx, hy]; grind
    rw [h2] at h1
    rcases Int.mul_eq_zero.1 h1 with h3 | h3
    · exact absurd h3 hD
    · exact h3
/-- A step of the elimination keeps what is there. -/
theorem EF.cmb {f' : Fn2} {i : Nat} {d a b : Int} (H : EF R j r p f) (K : CMB C f f' i t d a b) (hj : j ≤ C) (ht : t < R) (hrt : r ≤ t) (hi : i < R) : EF R j r p f' := by
  have hz : ∀ x y, y < j → (f' x y = 0 ↔ f x y = 0) := fun x y hy => by
    by_cases e : x = i
    · subst e
      have h1 := K.at_ y (by omega)
      rw [H.zero t y hrt ht hy, Int.mul_zero, Int.add_zero] at h1
      constructor
      · intro h
        rw [h, Int.mul_zero] at h1
        rcases Int.mul_eq_zero.1 h1.symm with h2 | h2
        · exact absurd h2 K.a0
        · exact h2
      · intro h
        rw [h, Int.mul_zero] at h1
        rcases Int.mul_eq_zero.1 h1 with h2 | h2
        · exact absurd h2 K.d0
        · exact h2
    · rw [K.other x e]
  exact ⟨H.le, H.lt, H.mono, fun x y hx hy => (hz x y (Nat.lt_trans hy (H.lt x hx))).2 (H.left x y hx hy), fun x hx h => H.ne x hx ((hz x _ (H.lt x hx)).1 h), fun x k hx hk hne => (hz k _ (H.lt x hx)).2 (H.oth x k hx hk hne), fun x y h1 h2 h3 => (hz x y h3).2 (H.zero x y h1 h2 h3)⟩
/-- What holds inside the sweep of a column. -/
structure SwQ (R C j t : Nat) (p : Nat → Nat) (f0 : Fn2) (i : Nat) (f : Fn2) : Prop where
  ef : EF R j t p f
  sp : QSP R R C f0 f
  ok : QOk R C f
  nz : f t j ≠ 0
  done : ∀ x, x < i → x < R → x ≠ t → f x j = 0
theorem SwQ.run {f0 : Fn2} (hj : j < C) (ht : t < R) : ∀ (n i : Nat) (f f' : Fn2), i + n = R → SwQ R C j t p f0 i f → rowsQ C t j n i f = some f' → SwQ R C j t p f0 R f'
  | 0, i, f, f', hi, H, h => by
    unfold rowsQ at h
    injection h with h
    subst h
    obtain rfl : i = R := by omega
    exact H
  | n + 1, i, f, f', hi, H, h => by
    unfold rowsQ at h
    split at h
    · rename_i hc
      refine SwQ.run hj ht n (i + 1) f f' (by omega) ⟨H.ef, H.sp, H.ok, H.nz, fun x hx hxR hxt => ?_⟩ h
      rcases Nat.lt_or_ge x i with h1 | h1
      · exact H.done x h1 hxR hxt
      · obtain rfl : x = i := by omega
        rcases hc with hc | hc
        · exact absurd hc hxt
        · exact hc
    · rename_i hc
      split at h
      · rename_i hk
        have hit : i ≠ t := fun e => hc (.inl e)
        have hi0 : f i j ≠ 0 := fun e => hc (.inr e)
        obtain ⟨⟨d, a, b, K⟩, hz⟩ := stQ_cmb (C := C) hi0 H.nz hj
        refine SwQ.run hj ht n (i + 1) _ f' (by omega) ⟨H.ef.cmb K (by omega) ht (Nat.le_refl _) (by omega), H.sp.trans (K.span (by omega) ht hit), H.ok.st (by omega) hk, ?_, fun x hx hxR hxt => ?_⟩ h
        · rw [K.other t (fun e => hit e.symm)]; exact H.nz
        · rcases Nat.lt_or_ge x i with h1 | h1
          · rw [K.other x (by omega)]; exact H.done x h1 hxR hxt
          · obtain rfl : x = i := by omega
            exact hz
      · cases h
theorem fnd_zero (f : Nat → Nat → Int) (j : Nat) : ∀ n k i, k ≤ i → i < fnd f j n k → f i j = 0
  | 0, k, i, h1, h2 => by unfold fnd at h2; omega
  | n + 1, k, i, h1, h2 => by
    unfold fnd at h2
    split at h2
    · rename_i h0
      by_cases e : i = k
      · rw [e]; exact h0
      · exact fnd_zero f j n (k + 1) i (by omega) h2
    · omega
theorem fnd_none (f : Nat → Nat → Int) (j : Nat) : ∀ n k, (∀ i, k ≤ i → i < k + n → f i j = 0) → fnd f j n k = k + n
  | 0, k, _ => rfl
  | n + 1, k, h => by
    unfold fnd
    rw [if_pos (h k (Nat.le_refl _) (by omega)), fnd_none f j n (k + 1) (fun i h1 h2 => h i (by omega) (by omega))]
    omega
/-- The pivots as a function. -/
def pf (ps : List Int) (i : Nat) : Nat := (ps.getD i 0).toNat
theorem pf_snoc {ps : List Int} {i : Nat} (h : i < ps.length) (j : Nat) : pf (ps ++ [(j : Int)]) i = pf ps i := by unfold pf; simp [List.getD, List.getElem?_append_left h]
theorem pf_last (ps : List Int) (j : Nat) : pf (ps ++ [(j : Int)]) ps.length = j := by unfold pf; simp [List.getD]
theorem EF.sw (H : EF R j t p f) {k : Nat} (hk : k < R) (htk : t ≤ k) (htR : t < R) : EF R j t p (swF f k t) := by
  have h1 : ∀ i, i < t → swF f k t i = f i := fun i hi => by
    funext y; unfold swF; rw [if_neg (by omega), if_neg (by omega)]
  have h2 : ∀ i, t ≤ i → i < R → ∃ i', t ≤ i' ∧ i' < R ∧ swF f k t i = f i' := fun i ha hb => by
    refine ⟨if i = k then t else if i = t then k else i, ?_, ?_, rfl⟩ <;> grind
  refine ⟨H.le, H.lt, H.mono, fun i y hi hy => by rw [h1 i hi]; exact H.left i y hi hy, fun i hi => by rw [h1 i hi]; exact H.ne i hi, fun i x hi hx hne => ?_, fun i y ha hb hy => ?_⟩
  · rcases Nat.lt_or_ge x t with h | h
    · rw [h1 x h]; exact H.oth i x hi hx hne
    · obtain ⟨x', ha, hb, e⟩ := h2 x h hx
      rw [e]; exact H.oth i x' hi hb (by omega)
  · obtain ⟨x', h3, h4, e⟩ := h2 i ha hb
    rw [e]; exact H.zero x' y h3 h4 hy
/-- A column done, with a pivot in it. -/
theorem EF.more (H : EF R j t p f) (ht : t < R) (hnz : f t j ≠ 0) (hz : ∀ x, x < R → x ≠ t → f x j = 0) {q : Nat → Nat} (hq : ∀ i, i < t → q i = p i) (hqt : q t = j) : EF R (j + 1) (t + 1) q f := by
  have hc : ∀ i, i < t + 1 → i < t ∨ i = t := fun i h => by omega
  refine ⟨by omega, fun i hi => ?_, fun i k hik hk => ?_, fun i y hi hy => ?_, fun i hi => ?_, fun i k hi hk hne => ?_, fun i y h1 h2 h3 => ?_⟩
  · rcases hc i hi with h | rfl
    · rw [hq i h]; have := H.lt i h; omega
    · omega
  · rcases hc k hk with h | rfl
    · rw [hq i (by omega), hq k h]; exact H.mono i k hik h
    · rw [hqt, hq i hik]; exact H.lt i hik
  · rcases hc i hi with h | rfl
    · rw [hq i h] at hy; exact H.left i y h hy
    · rw [hqt] at hy; exact H.zero i y (Nat.le_refl _) ht hy
  · rcases hc i hi with h | rfl
    · rw [hq i h]; exact H.ne i h
    · rw [hqt]; exact hnz
  · rcases hc i hi with h | rfl
    · rw [hq i h]; exact H.oth i k h hk hne
    · rw [hqt]; exact hz k hk hne
  · by_cases e : y = j
    · subst e; exact hz i h2 (by omega)
    · exact H.zero i y (by omega) h2 (by omega)
theorem EF.skip (H : EF R j t p f) (hz : ∀ x, t ≤ x → x < R → f x j = 0) : EF R (j + 1) t p f :=
  ⟨H.le, fun i hi => by have := H.lt i hi; omega, H.mono, H.left, H.ne, H.oth, fun i y h1 h2 h3 => by
    by_cases e : y = j
    · subst e; exact hz i h1 h2
    · exact H.zero i y h1 h2 (by omega)⟩
theorem colsQ_ef : ∀ (n j : Nat) (s s' : QSt), j + n = C → EF R j s.ps.length (pf s.ps) s.f → QOk R C s.f → (∀ x ∈ s.ps, 0 ≤ x) → colsQ R C n j s = some s' → EF R C s'.ps.length (pf s'.ps) s'.f ∧ QOk R C s'.f ∧ QSP R R C s.f s'.f ∧ ∀ x ∈ s'.ps, 0 ≤ x
  | 0, j, s, s', hj, H, K, N, h => by
    unfold colsQ at h
    injection h with h
    subst h
    obtain rfl : j = C := by omega
    exact ⟨H, K, QSP.refl _ _ _, N⟩
  | n + 1, j, s, s', hj, H, K, N, h => by
    unfold colsQ at h
    have hle := fnd_le s.f j (R - s.ps.length) s.ps.length
    have hH := H.le
    split at h
    · rename_i hk
      exact colsQ_ef n (j + 1) s s' (by omega) (H.skip fun x h1 h2 => fnd_zero s.f j (R - s.ps.length) s.ps.length x h1 (by omega)) K N h
    · rename_i hk
      generalize hF : fnd s.f j (R - s.ps.length) s.ps.length = k at *
      have hne : s.f k j ≠ 0 := by rw [← hF]; exact fnd_ne s.f j _ _ (by rw [hF]; omega)
      have htR : s.ps.length < R := by omega
      split at h
      · cases h
      · rename_i f' hr
        have W : SwQ R C j s.ps.length (pf s.ps) (swF s.f k s.ps.length) 0 (swF s.f k s.ps.length) := ⟨H.sw (by omega) hle.1 htR, QSP.refl _ _ _, K.sw (by omega) htR, by rw [swF_t]; exact hne, fun x hx => absurd hx (Nat.not_lt_zero _)⟩
        have W' := SwQ.run (by omega) htR (R - 0) 0 _ f' (by omega) W hr
        obtain ⟨a1, a2, a3, a4⟩ := colsQ_ef n (j + 1) ⟨f', s.ps ++ [(j : Int)]⟩ s' (by omega) (by
          simp only [List.length_append, List.length_cons, List.length_nil]
          exact W'.ef.more htR W'.nz (fun x hx hxt => W'.done x hx hx hxt) (fun i hi => pf_snoc hi j) (pf_last _ j)) W'.ok (by
          intro x hx
          rcases List.mem_append.1 hx with hx | hx
          · exact N x hx
          · simp at hx; omega) h
        exact ⟨a1, a2, ((QSP.swap (by omega) htR).trans W'.sp).trans a3, a4⟩
/-- What EchelonOf computes. -/
theorem echQ_ef {s : QSt} (hb : ∀ i c, i < R → c < C → -400000000 ≤ f i c ∧ f i c ≤ 400000000) (h : echQ R C f = some s) : EF R C s.ps.length (pf s.ps) s.f ∧ QOk R C s.f ∧ QSP R R C f s.f ∧ ∀ x ∈ s.ps, 0 ≤ x := by
  obtain ⟨a1, a2, a3, a4⟩ := colsQ_ef (C - 0) 0 ⟨prK C f R, []⟩ s (by omega) ⟨Nat.zero_le _, fun i hi => absurd hi (Nat.not_lt_zero _), fun i k _ hk => absurd hk (Nat.not_lt_zero _), fun i y hi => absurd hi (Nat.not_lt_zero _), fun i hi => absurd hi (Nat.not_lt_zero _), fun i k hi => absurd hi (Nat.not_lt_zero _), fun i y _ _ hy => absurd hy (Nat.not_lt_zero _)⟩ (QOk.all hb) (fun x hx => by cases hx) h
  exact ⟨a1, a2, prK_span.trans a3, a4⟩
theorem rowsQ_none : ∀ n i (f : Fn2), (∀ x, i ≤ x → x < i + n → x = t ∨ f x j = 0) → rowsQ C t j n i f = some f
  | 0, i, f, _ => rfl
  | n + 1, i, f, h => by
    unfold rowsQ
    rw [if_pos (h i (Nat.le_refl _) (by omega))]
    exact rowsQ_none n (i + 1) f fun x h1 h2 => h x (by omega) (by omega)
theorem colsQ_again (H : EF R C r p g) : ∀ (n j : Nat) (ps : List Int), j + n = C → ps.length ≤ r → (∀ i, i < ps.length → p i < j) → (∀ i, ps.length ≤ i → i < r → j ≤ p i) → ∃ ps', colsQ R C n j ⟨g, ps⟩ = some ⟨g, ps ++ ps'⟩ ∧ ps.length + ps'.length = r ∧ ∀ i, i < ps'.length → ps'.getD i 0 = (p (ps.length + i) : Int)
  | 0, j, ps, hj, h1, h2, h3 => by
    refine ⟨[], by rw [List.append_nil]; rfl, ?_, fun i hi => absurd hi (Nat.not_lt_zero _)⟩
    refine Nat.le_antisymm (by simpa using h1) (Nat.le_of_not_lt fun h => ?_)
    simp at h
    have := h3 ps.length (Nat.le_refl _) h
    have := H.lt _ h
    omega
  | n + 1, j, ps, hj, h1, h2, h3 => by
    have hrR := H.le
    unfold colsQ
    by_cases hc : ps.length < r ∧ p ps.length = j
    · obtain ⟨hc1, hc2⟩ := hc
      have hne := H.ne _ hc1
      rw [hc2] at hne
      simp only [fnd_here (show ps.length < R by omega) hne]
      rw [if_neg (by omega), swF_same, rowsQ_none (R - 0) 0 g (fun x _ hx => by
        by_cases e : x = ps.length
        · exact .inl e
        · right; rw [← hc2]; exact H.oth _ x hc1 (by omega) e)]
      obtain ⟨ps', e1, e2, e3⟩ := colsQ_again H n (j + 1) (ps ++ [(j : Int)]) (by omega) (by simp; omega) (fun i hi => by
        simp at hi
        by_cases e : i = ps.length
        · rw [e]; omega
        · have := h2 i (by omega); omega) (fun i ha hb => by
        simp at ha
        have := H.mono ps.length i (by omega) hb; omega)
      refine ⟨(j : Int) :: ps', ?_, by simp at e2 ⊢; omega, fun i hi => ?_⟩
      · simp only; rw [e1]; simp
      · cases i with
        | zero => simp [hc2]
        | succ i =>
          have := e3 i (by simpa using hi)
          simp at this ⊢
          rw [this]
          congr 2
          omega
    · have hz : ∀ x, ps.length ≤ x → x < ps.length + (R - ps.length) → g x j = 0 := fun x ha hb => by
        rcases Nat.lt_or_ge x r with h | h
        · have q1 := h3 x ha h
          by_cases e : p x = j
          · exfalso
            by_cases e2 : x = ps.length
            · subst e2; exact hc ⟨h, e⟩
            · have := H.mono ps.length x (by omega) h
              have := h3 ps.length (Nat.le_refl _) (by omega)
              omega
          · exact H.left x j h (by omega)
        · exact H.zero x j h (by omega) (by omega)
      simp only [fnd_none g j _ _ hz]
      rw [if_pos (by omega)]
      refine colsQ_again H n (j + 1) ps (by omega) h1 (fun i hi => by have := h2 i hi; omega) (fun i ha hb => ?_)
      have q1 := h3 i ha hb
      by_cases e : p i = j
      · exfalso
        by_cases e2 : i = ps.length
        · subst e2; exact hc ⟨hb, e⟩
        · have := H.mono ps.length i (by omega) hb
          have := h3 ps.length (Nat.le_refl _) (by omega)
          omega
      · omega
end
theorem getD_ext {l m : List Int} (hlen : l.length = m.length) (h : ∀ k, k < l.length → l.getD k 0 = m.getD k 0) : l = m := by
  refine List.ext_getElem hlen fun k h1 h2 => ?_
  have := h k h1
  simpa [List.getD, h1, h2] using this
/-- The echelon form of an echelon form is itself. -/
theorem echQ_again {R C : Nat} {g : Fn2} {s : QSt} (H : EF R C s.ps.length (pf s.ps) s.f) (K : QOk R C s.f) (N : ∀ x ∈ s.ps, 0 ≤ x) (e : EqM R C g s.f) : ∃ s', echQ R C g = some s' ∧ s'.ps = s.ps ∧ EqM R C s'.f s.f := by
  have hE : EqM R C (prK C g R) s.f := fun i c hi hc => by
    unfold prK
    rw [if_pos hi, show rw_ C g i = rw_ C s.f i from rw_ext fun y hy => e i y hi hy, K.pr i hi, rw_at hc]
  obtain ⟨ps', e1, e2, e3⟩ := colsQ_again (H.congr hE) (C - 0) 0 [] (by omega) (Nat.zero_le _) (fun i hi => absurd hi (Nat.not_lt_zero _)) (fun i _ _ => Nat.zero_le _)
  refine ⟨_, e1, ?_, hE⟩
  simp only [List.nil_append, List.length_nil, Nat.zero_add] at e2 e3 ⊢
  refine getD_ext e2 fun k hk => ?_
  rw [e3 k hk]
  unfold pf
  have := N _ (mem_getD (show k < s.ps.length by omega))
  omega
/-- Two echelon forms of one space are equal. -/
theorem ech_uniq {R S C : Nat} {s s2 : QSt} (H : EF R C s.ps.length (pf s.ps) s.f) (K : QOk R C s.f) (N : ∀ x ∈ s.ps, 0 ≤ x) (H2 : EF S C s2.ps.length (pf s2.ps) s2.f) (K2 : QOk S C s2.f) (N2 : ∀ x ∈ s2.ps, 0 ≤ x) (h : QSP R S C s.f s2.f) : s.ps = s2.ps ∧ ∀ i y, i < s.ps.length → y < C → s.f i y = s2.f i y := by
  obtain ⟨u1, u2, u3⟩ := H.uniq H2 h
  refine ⟨getD_ext u1 fun k hk => ?_, fun i y hi hy => ?_⟩
  · have h1 := N _ (mem_getD hk)
    have h2 := N2 _ (mem_getD (show k < s2.ps.length by omega))
    have h3 := u2 k hk
    unfold pf at h3
    omega
  · obtain ⟨d, c, hd, hc, hv⟩ := u3 i hi
    have h1 := H.le
    have h2 := H2.le
    have := prim_uniq (K.pr i (by omega)) (K2.pr i (by omega)) (by rw [rw_len, rw_len]) hd hc (fun k hk => by
      rw [rw_len] at hk
      rw [rw_at hk, rw_at hk]; exact hv k hk)
    rw [← rw_at (f := s.f) (i := i) hy, this, rw_at hy]
theorem rowL_tbQ {R C i : Nat} {f : Fn2} (hi : i < R) : (rowL (tb R C f) C i).length = C := rowL_len (by rw [tb_len]; have := Nat.mul_le_mul_right C (show i + 1 ≤ R by omega); rw [Nat.add_mul, Nat.one_mul] at this; exact this)
theorem QOk.mat {R C : Nat} {f : Fn2} (h : QOk R C f) (hR : R ≤ 24) (hC : C ≤ 24) : isMat R C (tb R C f) = true :=
  isMat_iff.2 ⟨by omega, by omega, by omega, by omega, by rw [tb_len]; simp, by
    rw [List.all_eq_true]
    exact tb_mem fun i j hi hj => (isNum_iff _).2 (h.bd i j hi hj)⟩
/-- The shape is what IsEchelon asks. -/
theorem EF.echelon {R C r : Nat} {p : Nat → Nat} {f : Fn2} (H : EF R C r p f) (K : QOk R C f) (hR : R ≤ 24) (hC : C ≤ 24) : echB R C (tb R C f) = true := by
  have hpv : ∀ i, i < r → pv (tb R C f) C i = p i := fun i hi => by
    have hiR : i < R := Nat.lt_of_lt_of_le hi H.le
    have hpC := H.lt i hi
    refine fcN_eq (by rw [rowL_tbQ hiR]; omega) (fun j hj => ?_) (fun _ => ?_)
    · rw [rowL_getD (by omega), cel_tb hiR (by omega)]
      exact H.left i j hi hj
    · rw [rowL_getD hpC, cel_tb hiR hpC]
      exact H.ne i hi
  have hpz : ∀ i, r ≤ i → i < R → pv (tb R C f) C i = C := fun i h1 h2 => by
    refine fcN_eq (by rw [rowL_tbQ h2]; omega) (fun j hj => ?_) (fun h => by rw [rowL_tbQ h2] at h; omega)
    rw [rowL_getD hj, cel_tb h2 hj]
    exact H.zero i j h1 h2 hj
  have hrow : ∀ i, i < R → rowL (tb R C f) C i = rw_ C f i := fun i hi => getD_ext (by rw [rowL_tbQ hi, rw_len]) fun k hk => by
    rw [rowL_tbQ hi] at hk
    rw [rowL_getD hk, cel_tb hi hk, rw_at hk]
  have hM := K.mat hR hC
  unfold echB
  rw [hM, Bool.true_and, List.all_eq_true]
  intro i hi
  have hi' : i < R := by simpa using hi
  simp only [Int.toNat_natCast]
  unfold erow
  rcases Nat.lt_or_ge i r with hir | hir
  · have hpC := H.lt i hir
    have hpr := K.pr i hi'
    rw [← hrow i hi'] at hpr
    obtain ⟨g1, g2⟩ := (prim_row (rowL_tbQ hi') (by rw [hpv i hir]; exact hpC)).1 hpr
    rw [hpv i hir] at g2 ⊢
    rw [if_pos hpC]
    have hlast : lastP (tb R C f) C i < p i := by
      cases i with
      | zero => rw [lastP_zero]; omega
      | succ i =>
        rw [lastP_succ, hpv i (by omega)]
        have := H.mono i (i + 1) (by omega) hir; omega
    simp only [Bool.and_eq_true, decide_eq_true_eq]
    refine ⟨⟨⟨hlast, g2⟩, g1⟩, ?_⟩
    rw [List.all_eq_true]
    intro k hk
    have hk' := List.mem_range.1 hk
    unfold ezc
    rw [hpv i hir, cel_tb hk' hpC]
    by_cases e : k = i
    · simp [e]
    · simp [e, H.oth i k hir hk' e]
  · rw [hpz i hir hi', if_neg (Nat.lt_irrefl _)]
end Go.Proofs.Ytlggfmfelakadaa

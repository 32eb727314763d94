/-
  DERIVED. Several small texts in one: PlSm, PlMi, PlDio, PlDi2.
-/
import Derived.Test.YtlggfmfelakadaaGreatDoorc5
import Derived.Test.YtlggfmfelakadaaGreatDoorc4
import Derived.Test.YtlggfmfelakadaaGreatDoorc3
/-
  DERIVED. In the Smith form each number of the diagonal is no less than 0 and divides the next one: no program in sight.
-/
namespace Go.Proofs.YtlggfmfelakadaaGreatDoor
set_option linter.unusedVariables false
/-- The first t numbers of the diagonal. -/
def Chn (R C t : Nat) (s : SS) : Prop := (∀ a, a < t → 0 ≤ s.f a a) ∧ ∀ a x y, a < t → a ≤ x → x < R → a ≤ y → y < C → s.f a a ∣ s.f x y
theorem Chn.stays (R C t : Nat) (htR : t ≤ R) (htC : t ≤ C) : Stays R C t (Chn R C t) where
  radd := fun s i j q hi hj ti tj hij hg hk hP => by
    have kf : OKF R C (opA s.f i j q) := hk.f
    have e : ∀ a, a < t → opA s.f i j q a a = s.f a a := fun a ha => opA_other (by omega)
    refine ⟨fun a ha => by show 0 ≤ opA s.f i j q a a; rw [e a ha]; exact hP.1 a ha, fun a x y ha hx hxR hy hyC => ?_⟩
    show opA s.f i j q a a ∣ opA s.f i j q x y
    rw [e a ha]
    by_cases hxi : x = i
    · subst hxi
      rw [opA_val kf hxR hyC]
      exact Int.dvd_add (hP.2 a x y ha hx hxR hy hyC) (Int.dvd_trans (hP.2 a j y ha (by omega) hj hy hyC) ⟨q, rfl⟩)
    · rw [opA_other hxi]; exact hP.2 a x y ha hx hxR hy hyC
  rswap := fun s i j hi hj ti tj hij hg hP => by
    have e : ∀ a, a < t → swF s.f i j a a = s.f a a := fun a ha => by unfold swF; rw [if_neg (by omega), if_neg (by omega)]
    refine ⟨fun a ha => by show 0 ≤ swF s.f i j a a; rw [e a ha]; exact hP.1 a ha, fun a x y ha hx hxR hy hyC => ?_⟩
    show swF s.f i j a a ∣ swF s.f i j x y
    rw [e a ha]
    unfold swF
    split
    · exact hP.2 a j y ha (by omega) hj hy hyC
    · split
      · exact hP.2 a i y ha (by omega) hi hy hyC
      · exact hP.2 a x y ha hx hxR hy hyC
  rneg := fun s i hi ti hg hP => by
    have e : ∀ a, a < t → opM s.f i a a = s.f a a := fun a ha => by unfold opM; rw [if_neg (by omega)]
    refine ⟨fun a ha => by show 0 ≤ opM s.f i a a; rw [e a ha]; exact hP.1 a ha, fun a x y ha hx hxR hy hyC => ?_⟩
    show opM s.f i a a ∣ opM s.f i x y
    rw [e a ha]
    by_cases hxi : x = i
    · subst hxi
      rw [opM_at (hg.ok.f x y hxR hyC)]
      exact Int.dvd_neg.2 (hP.2 a x y ha hx hxR hy hyC)
    · unfold opM; rw [if_neg hxi]; exact hP.2 a x y ha hx hxR hy hyC
  cadd := fun s i j q hi hj ti tj hij hg hk hP => by
    have kf : OKF C R (opA (tp s.f) i j q) := tp_ok hk.f
    have e : ∀ a, a < t → opA (tp s.f) i j q a a = s.f a a := fun a ha => opA_other (by omega)
    refine ⟨fun a ha => by show 0 ≤ opA (tp s.f) i j q a a; rw [e a ha]; exact hP.1 a ha, fun a x y ha hx hxR hy hyC => ?_⟩
    show opA (tp s.f) i j q a a ∣ opA (tp s.f) i j q y x
    rw [e a ha]
    by_cases hyi : y = i
    · subst hyi
      rw [opA_val kf hyC hxR]
      exact Int.dvd_add (hP.2 a x y ha hx hxR hy hyC) (Int.dvd_trans (hP.2 a x j ha hx hxR (by omega) hj) ⟨q, rfl⟩)
    · rw [opA_other hyi]; exact hP.2 a x y ha hx hxR hy hyC
  cswap := fun s i j hi hj ti tj hij hg hP => by
    have e : ∀ a, a < t → swF (tp s.f) i j a a = s.f a a := fun a ha => by unfold swF; rw [if_neg (by omega), if_neg (by omega)]; rfl
    refine ⟨fun a ha => by show 0 ≤ swF (tp s.f) i j a a; rw [e a ha]; exact hP.1 a ha, fun a x y ha hx hxR hy hyC => ?_⟩
    show swF (tp s.f) i j a a ∣ swF (tp s.f) i j y x
    rw [e a ha]
    unfold swF
    split
    · exact hP.2 a x j ha hx hxR (by omega) hj
    · split
      · exact hP.2 a x i ha hx hxR (by omega) hi
      · exact hP.2 a x y ha hx hxR hy hyC
theorem Dn.dvd {R C t : Nat} {s : SS} (h : Dn R C t s) (hg : SGD R C s) {x y : Nat} (hx : t ≤ x) (hxR : x < R) (hy : t ≤ y) (hyC : y < C) : s.f t t ∣ s.f x y := by
  obtain ⟨h1, h2, h3⟩ := h
  obtain ⟨z1, z2⟩ := clnS_yes h1
  by_cases ex : x = t
  · subst ex
    by_cases ey : y = x
    · subst ey; exact Int.dvd_refl _
    · rw [z2 y (by omega) hyC]; exact Int.dvd_zero _
  · by_cases ey : y = t
    · subst ey; rw [z1 x (by omega) hxR]; exact Int.dvd_zero _
    · have hf : fdR s.f t C x = false := by
        refine Bool.eq_false_iff.2 fun hc => ?_
        have key : ∀ m i, i ≤ x → x < i + m → fdS s.f t C i m ≠ none := fun m => by
          induction m with
          | zero => intro i a b; omega
          | succ m ih =>
            intro i a b
            rcases hr : fdR s.f t C i with _ | _
            · rw [fdS_no hr]
              by_cases e : i = x
              · subst e; rw [hr] at hc; cases hc
              · exact ih (i + 1) (by omega) (by omega)
            · rw [fdS_yes hr]; simp
        exact key (R - (t + 1)) (t + 1) (by omega) (by omega) h2
      have hn : ¬ (s.f x y).tmod (s.f t t) ≠ 0 := fun hne => by
        have : fdR s.f t C x = true := fdR_iff.2 ⟨y, by omega, hyC, (hg.ok.f x y hxR hyC).ne, hne⟩
        rw [hf] at this; cases this
      exact Int.dvd_of_tmod_eq_zero (Decidable.of_not_not hn)
/-- What the Smith form's diagonal is. -/
def Dia (R C : Nat) (s : SS) : Prop := (∀ a, a < R → a < C → 0 ≤ s.f a a) ∧ ∀ a, a + 1 < R → a + 1 < C → s.f a a ∣ s.f (a + 1) (a + 1)
theorem sfOut_chn {R C : Nat} : ∀ (m t : Nat) (s s' : SS), t + m = min R C → SGD R C s → Chn R C t s → sfOut R C m t s = some s' → Dia R C s'
  | 0, t, s, s', hm, hg, hc, he => by
    cases he
    exact ⟨fun a h1 h2 => hc.1 a (by omega), fun a h1 h2 => hc.2 a (a + 1) (a + 1) (by omega) (by omega) h1 (by omega) h2⟩
  | m + 1, t, s, s', hm, hg, hc, he => by
    by_cases hn : (ls2 R C s.f t).1 < 0
    · rw [sfOut_stop hn] at he
      cases he
      rcases ls2_cases R C s.f t with ⟨_, h⟩ | ⟨p, q, e, _⟩
      · refine ⟨fun a h1 h2 => ?_, fun a h1 h2 => ?_⟩
        · by_cases hat : a < t
          · exact hc.1 a hat
          · rw [h a a (by omega) h1 (by omega) h2]; exact Int.le_refl _
        · by_cases hat : a < t
          · exact hc.2 a (a + 1) (a + 1) hat (by omega) h1 (by omega) h2
          · rw [h (a + 1) (a + 1) (by omega) h1 (by omega) h2]; exact Int.dvd_zero _
      · rw [e] at hn; dsimp only at hn; omega
    · rw [sfOut_go hn] at he
      unfold sfGo at he
      rcases hi : sfIn R C t s with _ | s2
      · rw [hi] at he; cases he
      · rw [hi] at he
        have ht : t < R ∧ t < C := by omega
        have g2 := sfIn_gd ht.1 ht.2 _ s (Nat.le_refl _) hg hn s2 hi
        have p2 := (Chn.stays R C t (by omega) (by omega)).in_ ht.1 ht.2 _ s (Nat.le_refl _) hg hc hn s2 hi
        have d2 := sfIn_dn ht.1 ht.2 _ s (Nat.le_refl _) hg hn s2 hi
        have o1 : ∀ (x y : Nat), x ≠ t → opM s2.f t x y = s2.f x y := fun x y hne => by unfold opM; rw [if_neg hne]
        have o2 : ∀ y, y < C → opM s2.f t t y = -s2.f t y := fun y hy => opM_at (g2.ok.f t y ht.1 hy)
        have pN : Chn R C (t + 1) (sfN t s2) := by
          unfold sfN
          split
          · rename_i hneg
            have dv : ∀ a x y, a < t + 1 → a ≤ x → x < R → a ≤ y → y < C → s2.f a a ∣ s2.f x y := fun a x y ha hx hxR hy hyC => by
              by_cases e : a = t
              · subst e; exact d2.dvd g2 hx hxR hy hyC
              · exact p2.2 a x y (by omega) hx hxR hy hyC
            refine ⟨fun a ha => ?_, fun a x y ha hx hxR hy hyC => ?_⟩
            · show 0 ≤ opM s2.f t a a
              by_cases e : a = t
              · subst e; rw [o2 a ht.2]; omega
              · rw [o1 a a e]; exact p2.1 a (by omega)
            · show opM s2.f t a a ∣ opM s2.f t x y
              have h5 := dv a x y ha hx hxR hy hyC
              have h6 : opM s2.f t a a ∣ s2.f x y := by
                by_cases e : a = t
                · subst e; rw [o2 a ht.2]; exact Int.neg_dvd.2 h5
                · rw [o1 a a e]; exact h5
              by_cases e : x = t
              · subst e; rw [o2 y hyC]; exact Int.dvd_neg.2 h6
              · rw [o1 x y e]; exact h6
          · rename_i hpos
            refine ⟨fun a ha => ?_, fun a x y ha hx hxR hy hyC => ?_⟩
            · by_cases e : a = t
              · subst e; omega
              · exact p2.1 a (by omega)
            · by_cases e : a = t
              · subst e; exact d2.dvd g2 hx hxR hy hyC
              · exact p2.2 a x y (by omega) hx hxR hy hyC
        exact sfOut_chn m (t + 1) (sfN t s2) s' (by omega) (g2.n ht.1) pN he
theorem sfX_dia {R C : Nat} {xs : List Int} {s : SS} (h : sfX R C xs = some s) : Dia R C s := by
  rcases hm : isMat (R : Int) (C : Int) xs with _ | _
  · rw [sfX_no hm] at h; cases h
  · rw [sfX_yes hm] at h
    have M := isMat_iff.1 hm
    have hs := start_gd (R := R) (C := C) M.num
    exact sfOut_chn _ _ _ _ (by omega) ⟨⟨hs.ok.f, hs.ok.g, idF_ok C C⟩, ⟨hs.nb.f, hs.nb.g, idF_nb⟩⟩ ⟨fun a h => by omega, fun a x y h => by omega⟩ h
end Go.Proofs.YtlggfmfelakadaaGreatDoor

/-
  DERIVED. What divides all minors stays under operations on rows and columns; of a chain on the diagonal it divides the product of the first ones. No program in sight.
-/
namespace Go.Proofs.YtlggfmfelakadaaGreatDoor
set_option linter.unusedVariables false
def sub_ (f : Fn2) (a b : Nat → Nat) : Fn2 := fun i j => f (a i) (b j)
/-- d divides all minors of k rows and columns, by the functional F. -/
def GDv (k : Nat) (F : Fn2 → Int) (R C : Nat) (f : Fn2) (d : Int) : Prop := ∀ a b : Nat → Nat, (∀ i, i < k → a i < R) → (∀ j, j < k → b j < C) → d ∣ F (sub_ f a b)
def rowS (g : Fn2) (x : Nat) (v : Nat → Int) : Fn2 := fun i y => if i = x then v y else g i y
section
variable {k R S C x : Nat} {F : Fn2 → Int} {f g : Fn2} {d : Int}
theorem Alt.sum (H : Alt k F) (hx : x < k) {c : Nat → Int} {v : Fn2} : ∀ n, (∀ q, q < n → d ∣ F (rowS g x (v q))) → d ∣ F (rowS g x (fun y => sumTo (fun q => c q * v q y) n))
  | 0, _ => by
    rw [H.zero hx (f := rowS g x fun y => sumTo (fun q => c q * v q y) 0) fun y _ => by unfold rowS; rw [if_pos rfl]; rfl]
    exact Int.dvd_zero _
  | n + 1, h => by
    have h1 := Alt.sum H hx (c := c) (v := v) n fun q hq => h q (by omega)
    have h2 := h n (by omega)
    have h3 := H.lin x (c n) (rowS g x (fun y => sumTo (fun q => c q * v q y) (n + 1))) (rowS g x (fun y => sumTo (fun q => c q * v q y) n)) (rowS g x (v n)) hx (fun y _ => by
      unfold rowS
      rw [if_pos rfl, if_pos rfl, if_pos rfl]
      show sumTo (fun q => c q * v q y) n + c n * v n y = sumTo (fun q => c q * v q y) n + v n y * c n
      rw [Int.mul_comm (c n)]) (fun z y _ _ hne => by unfold rowS; rw [if_neg hne, if_neg hne, if_neg hne]; exact ⟨rfl, rfl⟩)
    rw [h3]
    exact Int.dvd_add h1 (Int.dvd_trans h2 ⟨_, rfl⟩)
theorem GDv.rows (H : Alt k F) (hf : GDv k F R C f d) {b : Nat → Nat} (hb : ∀ j, j < k → b j < C) : ∀ n, n ≤ k → ∀ g : Fn2, (∀ i, i < n → ∃ c : Nat → Int, ∀ y, y < k → g i y = sumTo (fun q => c q * f q (b y)) R) → (∀ i, n ≤ i → i < k → ∃ q, q < R ∧ ∀ y, y < k → g i y = f q (b y)) → d ∣ F g
  | 0, _, g, _, h2 => by
    have hch : ∀ i, ∃ q, i < k → q < R ∧ ∀ y, y < k → g i y = f q (b y) := fun i => by
      by_cases hi : i < k
      · obtain ⟨q, hq⟩ := h2 i (Nat.zero_le _) hi
        exact ⟨q, fun _ => hq⟩
      · exact ⟨0, fun h => absurd h hi⟩
    obtain ⟨a, ha⟩ := Classical.axiomOfChoice hch
    rw [H.congr g (sub_ f a b) fun i y hi hy => (ha i hi).2 y hy]
    exact hf a b (fun i hi => (ha i hi).1) hb
  | n + 1, hn, g, h1, h2 => by
    obtain ⟨c, hc⟩ := h1 n (by omega)
    rw [H.congr g (rowS g n (fun y => sumTo (fun q => c q * f q (b y)) R)) fun i y hi hy => by
      unfold rowS
      by_cases e : i = n
      · subst e; rw [if_pos rfl]; exact hc y hy
      · rw [if_neg e]]
    refine H.sum (by omega) (v := fun q y => f q (b y)) R fun q hq => ?_
    refine GDv.rows H hf hb n (by omega) _ (fun i hi => ?_) (fun i hi hik => ?_)
    · obtain ⟨c', hc'⟩ := h1 i (by omega)
      exact ⟨c', fun y hy => by unfold rowS; rw [if_neg (by omega)]; exact hc' y hy⟩
    · by_cases e : i = n
      · subst e
        exact ⟨q, hq, fun y hy => by unfold rowS; rw [if_pos rfl]⟩
      · obtain ⟨q', hq', h'⟩ := h2 i (by omega) hik
        exact ⟨q', hq', fun y hy => by unfold rowS; rw [if_neg e]; exact h' y hy⟩
theorem GDv.sp (H : Alt k F) (hf : GDv k F R C f d) (h : ∀ i, i < S → Sp R C f (g i)) : GDv k F S C g d := fun a b ha hb =>
  GDv.rows H hf hb k (Nat.le_refl _) (sub_ g a b) (fun i hi => by
    obtain ⟨c, hc⟩ := h (a i) (ha i hi)
    exact ⟨c, fun y hy => hc (b y) (hb y hy)⟩) fun i h1 h2 => absurd h2 (by omega)
theorem GDv.spn (H : Alt k F) (h : SPN R C f g) : GDv k F R C f d ↔ GDv k F R C g d := ⟨fun k1 => k1.sp H h.1, fun k1 => k1.sp H h.2⟩
theorem GDv.congr (H : Alt k F) (e : EqM R C f g) : GDv k F R C f d ↔ GDv k F R C g d :=
  GDv.spn H ⟨fun i hi => (Sp.row hi).as fun y hy => (e i y hi hy).symm, fun i hi => (Sp.row hi).as fun y hy => e i y hi hy⟩
theorem GDv.tp_ : GDv k F R C f d ↔ GDv k (fun g => F (tp g)) C R (tp f) d := ⟨fun h a b ha hb => h b a hb ha, fun h a b ha hb => h b a hb ha⟩
end
/-- Alternating in the rows and in the columns. -/
structure Alt2 (k : Nat) (F : Fn2 → Int) : Prop where
  r : Alt k F
  c : Alt k (fun g => F (tp g))
theorem Alt2.dt (k : Nat) : Alt2 k (Dt k) := ⟨Dt_alt k, Dt_altC k⟩
theorem Alt2.tp {k : Nat} {F : Fn2 → Int} (h : Alt2 k F) : Alt2 k (fun g => F (tp g)) := ⟨h.c, h.r⟩
/-- What divides the minors of the Smith form divides those of the matrix. -/
theorem GDv.stays {k : Nat} {F : Fn2 → Int} (H : Alt2 k F) (R C t0 : Nat) (d : Int) (f0 : Fn2) : Stays R C t0 (fun s => GDv k F R C s.f d ↔ GDv k F R C f0 d) where
  radd := fun s i j t hi hj _ _ hij hg hk hP => by
    have kf : OKF R C (opA s.f i j t) := hk.f
    exact (GDv.spn H.r ((SPN.refl R C s.f).add (f' := opA s.f i j t) hi hj hij (fun y hy => opA_val kf hi hy) (fun x y _ _ hne => opA_other hne))).symm.trans hP
  rswap := fun s i j hi hj _ _ hij hg hP => (GDv.spn H.r ((SPN.refl R C s.f).swap hi hj)).symm.trans hP
  rneg := fun s i hi _ hg hP => (GDv.spn H.r ((SPN.refl R C s.f).neg (f' := opM s.f i) hi (fun y hy => opM_at (hg.ok.f i y hi hy)) (fun x y _ _ hne => by unfold opM; rw [if_neg hne]))).symm.trans hP
  cadd := fun s i j t hi hj _ _ hij hg hk hP => by
    have kf : OKF C R (opA (tp s.f) i j t) := tp_ok hk.f
    show GDv k F R C (tp (opA (tp s.f) i j t)) d ↔ _
    have h1 := GDv.spn (d := d) H.c ((SPN.refl C R (tp s.f)).add (f' := opA (tp s.f) i j t) hi hj hij (fun y hy => opA_val kf hi hy) (fun x y _ _ hne => opA_other hne))
    exact ((GDv.tp_ (f := tp (opA (tp s.f) i j t))).trans (h1.symm.trans (GDv.tp_ (f := s.f)).symm)).trans hP
  cswap := fun s i j hi hj _ _ hij hg hP => by
    show GDv k F R C (tp (swF (tp s.f) i j)) d ↔ _
    have h1 := GDv.spn (d := d) H.c ((SPN.refl C R (tp s.f)).swap hi hj)
    exact ((GDv.tp_ (f := tp (swF (tp s.f) i j))).trans (h1.symm.trans (GDv.tp_ (f := s.f)).symm)).trans hP
def prodTo (d : Nat → Int) : Nat → Int
  | 0 => 1
  | n + 1 => prodTo d n * d n
theorem prodTo_congr {d e : Nat → Int} : ∀ n, (∀ i, i < n → d i = e i) → prodTo d n = prodTo e n
  | 0, _ => rfl
  | n + 1, h => by
    show prodTo d n * d n = prodTo e n * e n
    rw [prodTo_congr n fun i hi => h i (by omega), h n (by omega)]
theorem prodTo_zero {d : Nat → Int} {i : Nat} (h0 : d i = 0) : ∀ n, i < n → prodTo d n = 0
  | 0, h => absurd h (Nat.not_lt_zero _)
  | n + 1, h => by
    show prodTo d n * d n = 0
    by_cases e : i = n
    · subst e; rw [h0, Int.mul_zero]
    · rw [prodTo_zero h0 n (by omega), Int.zero_mul]
theorem prodTo_nonneg {d : Nat → Int} (h : ∀ i, 0 ≤ d i) : ∀ n, 0 ≤ prodTo d n
  | 0 => by show (0 : Int) ≤ 1; decide
  | n + 1 => Int.mul_nonneg (prodTo_nonneg h n) (h n)
theorem prodTo_ne {d : Nat → Int} : ∀ n, (∀ i, i < n → d i ≠ 0) → prodTo d n ≠ 0
  | 0, _ => by show (1 : Int) ≠ 0; decide
  | n + 1, h => Int.mul_ne_zero (prodTo_ne n fun i hi => h i (by omega)) (h n (by omega))
theorem prodTo_swap {d : Nat → Int} {p m : Nat} (hp : p ≤ m) : prodTo d (m + 1) = prodTo (fun i => if i = p then d m else d i) m * d p := by
  by_cases e : p = m
  · subst e
    show prodTo d p * d p = _
    rw [prodTo_congr p fun i hi => (show d i = (if i = p then d p else d i) by rw [if_neg (by omega)])]
  · have h : ∀ n, n ≤ m → p < n → prodTo (fun i => if i = p then d m else d i) n * d p = prodTo d n * d m := fun n => by
      induction n with
      | zero => intro _ h; exact absurd h (Nat.not_lt_zero _)
      | succ n ih =>
        intro hn hpn
        show prodTo (fun i => if i = p then d m else d i) n * (if n = p then d m else d n) * d p = prodTo d n * d n * d m
        by_cases e2 : n = p
        · subst e2
          rw [if_pos rfl, prodTo_congr n fun i hi => (show (if i = n then d m else d i) = d i by rw [if_neg (by omega)])]
          grind
        · rw [if_neg e2]
          have := ih (by omega) (by omega)
          grind
    have := h m (Nat.le_refl _) (by omega)
    rw [this]; rfl
/-- The pigeon-hole: k different places are not all below k - 1. -/
theorem pigeon : ∀ (k : Nat) (a : Nat → Nat), (∀ i j, i < k + 1 → j < k + 1 → i ≠ j → a i ≠ a j) → ∃ i, i < k + 1 ∧ k ≤ a i
  | 0, a, _ => ⟨0, by omega, Nat.zero_le _⟩
  | k + 1, a, h => by
    apply Classical.byContradiction
    intro hno
    have hlt : ∀ i, i < k + 1 + 1 → a i < k + 1 := fun i hi => Nat.lt_of_not_le fun hh => hno ⟨i, hi, hh⟩
    -- take out the last: those that are above it step down
    obtain ⟨i, hi, hki⟩ := pigeon k (fun i => if a i > a (k + 1) then a i - 1 else a i) fun i j hi hj hij e => by
      have h1 := h i j (by omega) (by omega) hij
      have h2 := h i (k + 1) (by omega) (by omega) (by omega)
      have h3 := h j (k + 1) (by omega) (by omega) (by omega)
      split at e <;> split at e <;> omega
    have h1 := hlt i (by omega)
    have h2 := hlt (k + 1) (by omega)
    have h3 := h i (k + 1) (by omega) (by omega) (by omega)
    split at hki <;> omega
/-- In a chain the first k together divide any k. -/
theorem chain_dvd {d : Nat → Int} (hd : ∀ i j, i ≤ j → d i ∣ d j) : ∀ (k : Nat) (a : Nat → Nat), (∀ i j, i < k → j < k → i ≠ j → a i ≠ a j) → prodTo d k ∣ prodTo (fun i => d (a i)) k
  | 0, _, _ => Int.dvd_refl _
  | k + 1, a, h => by
    obtain ⟨p, hp, hkp⟩ := pigeon k a h
    rw [prodTo_swap (d := fun i => d (a i)) (show p ≤ k by omega)]
    have ih := chain_dvd hd k (fun i => if i = p then a k else a i) fun i j hi hj hij => by
      have h1 := h i j (by omega) (by omega) hij
      have h2 := h i k (by omega) (by omega) (by omega)
      have h3 := h j k (by omega) (by omega) (by omega)
      split <;> split <;> omega
    have e : prodTo (fun i => d (if i = p then a k else a i)) k = prodTo (fun i => if i = p then d (a k) else d (a i)) k := prodTo_congr k fun i _ => by split <;> rfl
    rw [e] at ih
    exact Int.mul_dvd_mul ih (hd k (a p) hkp)
/-- Each row times a number. -/
theorem Alt.scales {k : Nat} {F : Fn2 → Int} (H : Alt k F) {f g : Fn2} {c : Nat → Int} (h : ∀ i y, i < k → y < k → g i y = f i y * c i) : F g = F f * prodTo c k := by
  have hs : ∀ n, n ≤ k → F (fun i y => if i < n then f i y * c i else f i y) = F f * prodTo c n := fun n => by
    induction n with
    | zero =>
      intro _
      rw [H.congr _ f fun i y _ _ => by rw [if_neg (Nat.not_lt_zero _)]]
      show F f = F f * 1
      rw [Int.mul_one]
    | succ n ih =>
      intro hn
      rw [H.scale (i := n) (t := c n) (f := fun i y => if i < n then f i y * c i else f i y) (by omega) (fun y hy => by
        rw [if_pos (by omega), if_neg (Nat.lt_irrefl _)]) (fun x y hx hy hne => by
        by_cases e : x < n
        · rw [if_pos e, if_pos (by omega)]
        · rw [if_neg e, if_neg (by omega)]), ih (by omega)]
      show F f * prodTo c n * c n = F f * (prodTo c n * c n)
      rw [Int.mul_assoc]
  rw [← hs k (Nat.le_refl _)]
  exact H.congr _ _ fun i y hi hy => by rw [if_pos hi]; exact h i y hi hy
theorem Dt_diag (k : Nat) (d : Nat → Int) : Dt k (fun i j => if i = j then d i else 0) = prodTo d k := by
  rw [(Dt_alt k).scales (f := idF) (c := d) fun i y _ _ => by
    unfold idF
    by_cases e : i = y
    · rw [if_pos e, if_pos e, Int.one_mul]
    · rw [if_neg e, if_neg e, Int.zero_mul], Dt_id, Int.one_mul]
/-- The numbers on the diagonal of a Smith form. -/
structure DiaC (R C : Nat) (D : Fn2) : Prop where
  off : ∀ x y, x < R → y < C → x ≠ y → D x y = 0
  nn : ∀ a, 0 ≤ dgF R C D a
  dv : ∀ i j, i ≤ j → dgF R C D i ∣ dgF R C D j
theorem diaC {R C : Nat} {xs : List Int} {s : SS} (h : sfX R C xs = some s) : DiaC R C s.f := by
  obtain ⟨d1, d2⟩ := sfX_dia h
  refine ⟨sfX_diag h, fun a => ?_, fun i j hij => ?_⟩
  · by_cases e : a < R ∧ a < C
    · rw [dgF_in e.1 e.2]; exact d1 a e.1 e.2
    · rw [dgF_out e]; exact Int.le_refl _
  · have hst : ∀ n, dgF R C s.f i ∣ dgF R C s.f (i + n) := fun n => by
      induction n with
      | zero => exact Int.dvd_refl _
      | succ n ih =>
        by_cases e : i + (n + 1) < R ∧ i + (n + 1) < C
        · refine Int.dvd_trans ih ?_
          rw [dgF_in (by omega) (by omega), dgF_in e.1 e.2]
          exact d2 (i + n) (by omega) (by omega)
        · rw [dgF_out e]; exact Int.dvd_zero _
    have := hst (j - i)
    rwa [show i + (j - i) = j by omega] at this
theorem DiaC.tp {R C : Nat} {D : Fn2} (h : DiaC R C D) : DiaC C R (tp D) ∧ ∀ a, dgF C R (tp D) a = dgF R C D a := by
  have e : ∀ a, dgF C R (Go.Proofs.YtlggfmfelakadaaGreatDoor.tp D) a = dgF R C D a := fun a => by
    by_cases e : a < R ∧ a < C
    · rw [dgF_in e.2 e.1, dgF_in e.1 e.2]; rfl
    · rw [dgF_out (fun q => e ⟨q.2, q.1⟩), dgF_out e]
  exact ⟨⟨fun x y hx hy hne => h.off y x hy hx (fun q => hne q.symm), fun a => by rw [e]; exact h.nn a, fun i j hij => by rw [e, e]; exact h.dv i j hij⟩, e⟩
theorem DiaC.gdv {k R C : Nat} {D : Fn2} (h : DiaC R C D) (d : Int) : GDv k (Dt k) R C D d ↔ d ∣ prodTo (dgF R C D) k := by
  constructor
  · intro hg
    by_cases hk : k ≤ R ∧ k ≤ C
    · have := hg id id (fun i hi => Nat.lt_of_lt_of_le hi hk.1) (fun i hi => Nat.lt_of_lt_of_le hi hk.2)
      rwa [Dt_congr k (g := fun i j => if i = j then dgF R C D i else 0) fun i j hi hj => by
        show D i j = if i = j then dgF R C D i else 0
        by_cases e : i = j
        · subst e; rw [if_pos rfl, dgF_in (by omega) (by omega)]
        · rw [if_neg e]; exact h.off i j (by omega) (by omega) e, Dt_diag] at this
    · rw [prodTo_zero (i := min R C) (dgF_out (by omega)) k (by omega)]
      exact Int.dvd_zero _
  · intro hd a b ha hb
    by_cases hi : ∀ i j, i < k → j < k → i ≠ j → a i ≠ a j
    · have h1 := (Dt_alt k).scales (f := fun i j => if a i = b j then 1 else 0) (g := sub_ D a b) (c := fun i => dgF R C D (a i)) fun i y hik hyk => by
        show D (a i) (b y) = (if a i = b y then 1 else 0) * dgF R C D (a i)
        by_cases e : a i = b y
        · rw [if_pos e, Int.one_mul, dgF_in (ha i hik) (by rw [e]; exact hb y hyk), ← e]
        · rw [if_neg e, Int.zero_mul]; exact h.off _ _ (ha i hik) (hb y hyk) e
      rw [h1]
      exact Int.dvd_trans hd (Int.dvd_trans (chain_dvd h.dv k a hi) ⟨_, Int.mul_comm _ _⟩)
    · have : ∃ i j, i < k ∧ j < k ∧ i ≠ j ∧ a i = a j := by
        apply Classical.byContradiction
        intro hno
        exact hi fun i j h1 h2 h3 h4 => hno ⟨i, j, h1, h2, h3, h4⟩
      obtain ⟨i, j, h1, h2, h3, h4⟩ := this
      rw [(Dt_alt k).same h1 h2 h3 (sub_ D a b) fun y _ => by unfold sub_; rw [h4]]
      exact Int.dvd_zero _
/-- What divides all minors of a matrix divides the product of the first numbers of its Smith form; turned over, too. -/
theorem sf_gdv {k R C : Nat} {xs : List Int} {s : SS} (h : sfX R C xs = some s) (d : Int) : (GDv k (Dt k) R C (fun i j => cel xs C i j) d ↔ d ∣ prodTo (dgF R C s.f) k) ∧ (GDv k (fun g => Dt k (tp g)) R C (fun i j => cel xs C i j) d ↔ d ∣ prodTo (dgF R C s.f) k) := by
  have D := diaC h
  have h1 := Stays.all (fun t => GDv.stays (Alt2.dt k) R C t d (fun i j => cel xs C i j)) h Iff.rfl
  have h2 := Stays.all (fun t => GDv.stays (Alt2.dt k).tp R C t d (fun i j => cel xs C i j)) h Iff.rfl
  refine ⟨h1.symm.trans (D.gdv d), h2.symm.trans ?_⟩
  obtain ⟨D2, e⟩ := D.tp
  have h3 := D2.gdv (k := k) d
  rw [prodTo_congr (e := dgF R C s.f) k fun i _ => e i] at h3
  exact (GDv.tp_ (F := fun g => Dt k (tp g)) (f := s.f)).trans h3
/-- The lists of factors are equal where the products are. -/
theorem facK_eq {d e : Nat → Int} (hd : ∀ i, 0 ≤ d i) (he : ∀ i, 0 ≤ e i) (hdc : ∀ i j, i ≤ j → d i ∣ d j) (hec : ∀ i j, i ≤ j → e i ∣ e j) (h : ∀ k, prodTo d k = prodTo e k) : ∀ i, d i = e i := fun i => by
  by_cases h0 : prodTo d i = 0
  · -- a zero came before
    have hz : ∀ (q : Nat → Int), (∀ i j, i ≤ j → q i ∣ q j) → prodTo q i = 0 → q i = 0 := fun q hq hp => by
      have : ∃ j, j < i ∧ q j = 0 := by
        apply Classical.byContradiction
        intro hno
        exact prodTo_ne i (fun j hj e => hno ⟨j, hj, e⟩) hp
      obtain ⟨j, hj, e⟩ := this
      have := hq j i (by omega)
      rw [e] at this
      exact Int.zero_dvd.1 this
    rw [hz d hdc h0, hz e hec (by rw [← h]; exact h0)]
  · have h1 : prodTo d i * d i = prodTo e i * e i := h (i + 1)
    rw [← h i] at h1
    exact Int.eq_of_mul_eq_mul_left h0 h1
theorem dvd_same {a b : Int} (ha : 0 ≤ a) (hb : 0 ≤ b) (h : ∀ d, d ∣ a ↔ d ∣ b) : a = b := by
  have h1 := (h a).1 (Int.dvd_refl a)
  have h2 := (h b).2 (Int.dvd_refl b)
  have h3 : a.natAbs = b.natAbs := Nat.dvd_antisymm (Int.natAbs_dvd_natAbs.2 h1) (Int.natAbs_dvd_natAbs.2 h2)
  omega
end Go.Proofs.YtlggfmfelakadaaGreatDoor

/-
  DERIVED. Solutions and refutations in whole numbers: no program in sight.
-/
namespace Go.Proofs.YtlggfmfelakadaaGreatDoor
set_option linter.unusedVariables false
theorem tab_ext {n : Nat} {f g : Nat → Int} (h : ∀ k, k < n → f k = g k) : tab n f = tab n g := by
  unfold tab
  exact List.map_congr_left fun k hk => h k (List.mem_range.1 hk)
theorem tab_of {n : Nat} {xs : List Int} (h : xs.length = n) : tab n (fun k => xs.getD k 0) = xs := by
  apply List.ext_getElem?
  intro k
  by_cases hk : k < n
  · unfold tab
    simp [List.getElem?_range hk, List.getD, show k < xs.length by omega]
  · rw [List.getElem?_eq_none (by rw [tab_len]; omega), List.getElem?_eq_none (by omega)]
/-- A matrix times a column, as lists. -/
theorem mulL_col (f : Fn2) {R C : Nat} (z : List Int) : mulL (tb R C f) R C z 1 = tab R fun i => mv C f (fun k => z.getD k 0) i := by
  unfold mulL
  rw [Nat.mul_one]
  refine tab_ext fun q hq => ?_
  rw [Nat.div_one, Nat.mod_one]
  unfold prodAt mv
  refine sumTo_congr C fun k hk => ?_
  rw [cel_tb hq hk, cel_nat, Nat.mul_one, Nat.add_zero]
theorem mulL_cel {xs : List Int} {R C : Nat} (h : xs.length = R * C) (z : List Int) : mulL xs R C z 1 = tab R fun i => mv C (fun i j => cel xs C i j) (fun k => z.getD k 0) i := by
  conv => lhs; rw [tb_of h]
  exact mulL_col _ z
/-- The solution that SolveInteger finds is one. -/
theorem si_solves {R C : Nat} {xs bs x : List Int} (h : siR R C xs bs = (x, 0)) : bs.length = R ∧ x.length = C ∧ ∀ i, i < R → mv C (fun i j => cel xs C i j) (fun k => x.getD k 0) i = bs.getD i 0 := by
  unfold siR at h
  rcases hs : siS R C xs bs with _ | ⟨s, cs⟩
  · rw [hs] at h; cases h
  · rw [hs] at h
    simp only [Int.toNat_natCast] at h
    obtain ⟨k1, k2, k3, k4⟩ := siS_some hs
    rcases hf : fwF (dgF R C s.f) 0 cs with _ | q
    · rw [hf] at h
      dsimp only at h
      split at h
      · rename_i hm
        injection h with h1 _
        have hx : x = tab C fun i => mv C s.h (fun k => (siY R C s cs).getD k 0) i := by
          rw [← h1]
          unfold mulM
          rw [if_pos hm]
          show mulL (tb C C s.h) ((C : Int)).toNat ((C : Int)).toNat _ ((1 : Int)).toNat = _
          rw [Int.toNat_natCast]
          exact mulL_col _ _
        have hcs : cs = tab R fun i => mv R s.g (fun k => bs.getD k 0) i := by rw [k4]; exact mulL_col _ _
        have hcl : cs.length = R := by rw [hcs, tab_len]
        have hdv := fwF_none cs 0 hf
        refine ⟨k2, by rw [hx, tab_len], fun i hi => ?_⟩
        have hdiag := sfX_diag k1
        have key := sf_solves (sfX_umv k1) (b := fun k => bs.getD k 0) (y := fun k => (siY R C s cs).getD k 0) (fun i hi => ?_) i hi
        · rw [← key]
          refine mv_congr (fun _ _ => rfl) fun k hk => ?_
          rw [hx, tab_getD hk]
        · have hc : cs.getD i 0 = mv R s.g (fun k => bs.getD k 0) i := by rw [hcs, tab_getD hi]
          have hd := hdv i (by omega)
          rw [Nat.zero_add] at hd
          rw [← hc]
          by_cases hiC : i < C
          · have e1 : mv C s.f (fun k => (siY R C s cs).getD k 0) i = s.f i i * (siY R C s cs).getD i 0 :=
              sumTo_one (f := fun k => s.f i k * (siY R C s cs).getD k 0) C hiC (fun k hk hne => by
                show s.f i k * _ = 0
                rw [hdiag i k hi hk (fun e => hne e.symm), Int.zero_mul])
            rw [e1]
            unfold siY
            rw [tab_getD hiC]
            rw [dgF_in hi hiC] at hd ⊢
            exact Int.mul_tdiv_cancel' hd
          · rw [dgF_out (by omega)] at hd
            rw [Int.zero_dvd.1 hd]
            exact sumTo_null C fun k hk => by rw [hdiag i k hi hk (by omega), Int.zero_mul]
      · cases h
    · rw [hf] at h
      simp at h
end Go.Proofs.YtlggfmfelakadaaGreatDoor

/-
  DERIVED. SolveInteger and RefuteInteger together: no program in sight.
-/
namespace Go.Proofs.YtlggfmfelakadaaGreatDoor
set_option linter.unusedVariables false
theorem lowR_num {n d : Int} (hn : isNum n = true) (hd : isNum d = true) (h0 : d ≠ 0) : ratOk (lowR n d).1 (lowR n d).2 = true := by
  obtain ⟨n1, n2⟩ := (isNum_iff n).1 hn
  obtain ⟨d1, d2⟩ := (isNum_iff d).1 hd
  obtain ⟨g1, g2⟩ := gcd_pos2 (n := n) h0
  have key : ∀ n d : Int, 0 < d → d ≤ 400000000 → n.natAbs ≤ 400000000 → ratOk (lowR n d).1 (lowR n d).2 = true := fun n d hp hq hm => by
    obtain ⟨g1, g2⟩ := gcd_pos2 (n := n) (d := d) (by omega)
    have hr : ratOk (n.tdiv (Int.gcd n d : Nat)) (d.tdiv (Int.gcd n d : Nat)) = true := by
      rw [ratOk_iff]
      have e1 := tdiv_abs n (Int.gcd n d : Nat)
      have e2 := tdiv_abs d (Int.gcd n d : Nat)
      have dv : ((Int.gcd n d : Nat) : Int) ∣ d := Int.gcd_dvd_right ..
      have dn : ((Int.gcd n d : Nat) : Int) ∣ n := Int.gcd_dvd_left ..
      have e3 := Int.tdiv_mul_cancel dv
      have hpos : 0 < d.tdiv (Int.gcd n d : Nat) := by
        refine Int.not_le.1 fun hle => ?_
        have := Int.mul_nonneg (show 0 ≤ -(d.tdiv (Int.gcd n d : Nat)) by omega) (show (0 : Int) ≤ (Int.gcd n d : Nat) by omega)
        rw [Int.neg_mul, e3] at this
        omega
      refine ⟨⟨by omega, by omega⟩, ⟨by omega, by omega⟩, ?_⟩
      rw [Int.tdiv_eq_ediv_of_dvd dn, Int.tdiv_eq_ediv_of_dvd dv]
      exact Int.gcd_ediv_gcd_ediv_gcd (by omega)
    rw [lowR_pos hp, if_pos hr]
    exact hr
  rcases Int.lt_or_le 0 d with hp | hp
  · exact key n d hp d2 (by omega)
  · rw [lowR_flip (by omega)]
    exact key (-n) (-d) (by omega) (by omega) (by omega)
/-- Ratio k of the list. -/
theorem riL_at (R : Nat) (g : Fn2) (k : Nat) (n : Int) : ∀ m j, j < m → fl (riL R g k n m) j = lowR (g k j) n
  | 0, j, h => absurd h (Nat.not_lt_zero _)
  | m + 1, j, h => by
    have hl := riL_len R g k n m
    unfold fl
    show ((riL R g k n m ++ [(lowR (g k m) n).1, (lowR (g k m) n).2]).getD (j * 2) 0, (riL R g k n m ++ [(lowR (g k m) n).1, (lowR (g k m) n).2]).getD (j * 2 + 1) 0) = _
    by_cases e : j = m
    · subst e
      have a1 : ¬ j * 2 < (riL R g k n j).length := by omega
      have a2 : ¬ j * 2 + 1 < (riL R g k n j).length := by omega
      simp only [List.getD, List.getElem?_append, if_neg a1, if_neg a2]
      rw [hl, Nat.sub_self, show j * 2 + 1 - j * 2 = 1 by omega]
      rfl
    · have ih := riL_at R g k n m j (by omega)
      unfold fl at ih
      have a1 : j * 2 < (riL R g k n m).length := by omega
      have a2 : j * 2 + 1 < (riL R g k n m).length := by omega
      simp only [List.getD, List.getElem?_append, if_pos a1, if_pos a2]
      simpa [List.getD] using ih
theorem si_else {r c : Int} {xs bs : List Int} (h : (siR r c xs bs).2 ≠ 0) : (siR r c xs bs).1 = [] := by
  unfold siR at h ⊢
  split
  · rfl
  · rename_i s cs hs
    rw [hs] at h
    dsimp only at h ⊢
    split
    · rfl
    · rename_i hf
      rw [hf] at h
      dsimp only at h
      split
      · rename_i hm
        rw [if_pos hm] at h
        exact absurd rfl h
      · rfl
theorem ri_found {r c : Int} {xs bs : List Int} (h : (siR r c xs bs).2 = 0) : riR r c xs bs = (0, [], 1) := by
  unfold siR at h
  unfold riR
  rcases hs : siS r c xs bs with _ | ⟨s, cs⟩
  · rw [hs] at h; cases h
  · rw [hs] at h
    dsimp only at h ⊢
    rcases hf : fwF (dgF r.toNat c.toNat s.f) 0 cs with _ | k
    · rfl
    · rw [hf] at h; cases h
theorem ri_none {R C : Nat} {xs bs : List Int} (h : (siR R C xs bs).2 = 1) : riR R C xs bs = (0, [], 2) ∨ ((riR R C xs bs).1 = R ∧ (riR R C xs bs).2.2 = 0 ∧ (riR R C xs bs).2.1.length = R * 2 ∧ ∀ j, j < R → ratOk (fl (riR R C xs bs).2.1 j).1 (fl (riR R C xs bs).2.1 j).2 = true) := by
  unfold siR at h
  unfold riR
  rcases hs : siS R C xs bs with _ | ⟨s, cs⟩
  · rw [hs] at h; cases h
  · rw [hs] at h
    simp only [Int.toNat_natCast] at h ⊢
    rcases hf : fwF (dgF R C s.f) 0 cs with _ | k
    · rw [hf] at h
      dsimp only at h
      split at h <;> cases h
    · dsimp only
      by_cases hn : isNum (riN (dgF R C s.f k) (cs.getD k 0)) = true
      · rw [if_pos hn]
        right
        obtain ⟨k1, k2, k3, k4⟩ := siS_some hs
        obtain ⟨_, hR, hC, hg⟩ := sfX_gd k1
        obtain ⟨a, b, d⟩ := fwF_some cs 0 k hf
        rw [Nat.sub_zero] at d
        have hcl : cs.length = R := by rw [k4, mulL_len]; omega
        have h0 : riN (dgF R C s.f k) (cs.getD k 0) ≠ 0 := by
          unfold riN
          split
          · rename_i hz
            intro e
            rw [hz] at d
            exact d (by rw [show cs.getD k 0 = 0 by omega]; exact Int.dvd_zero _)
          · rename_i hz; exact hz
        refine ⟨rfl, rfl, riL_len _ _ _ _ _, fun j hj => ?_⟩
        dsimp only
        rw [riL_at _ _ _ _ _ _ hj]
        exact lowR_num (hg.ok.g k j (by omega) hj).isN hn h0
      · rw [if_neg hn]
        exact .inl rfl
/-- The product with the solution is the right side. -/
theorem si_prod {R C : Nat} {xs bs x : List Int} (h : siR R C xs bs = (x, 0)) (hm : mulB R C xs x.length 1 x = true) : mulM R C xs x.length 1 x = ⟨R, 1, bs⟩ := by
  obtain ⟨h1, h2, h3⟩ := si_solves h
  unfold mulM
  rw [if_pos hm]
  have M : isMat (R : Int) (C : Int) xs = true := by
    unfold mulB at hm
    simp only [Bool.and_eq_true] at hm
    exact hm.1.1.1
  have hl : xs.length = R * C := by
    have := (isMat_iff.1 M).len
    rw [← Int.natCast_mul] at this
    omega
  have e : mulL xs ((R : Int)).toNat ((C : Int)).toNat x ((1 : Int)).toNat = bs := by
    show mulL xs R C x 1 = bs
    rw [mulL_cel hl, tab_ext h3]
    exact tab_of h1
  rw [e]
end Go.Proofs.YtlggfmfelakadaaGreatDoor

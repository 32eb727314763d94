/-
  DERIVED. Solutions by lifting: what both programs compute. No program in sight.
-/
import Derived.Test.YtlggfmfelakadaaU7
import Derived.Test.YtlggfmfelakadaaU3
import Derived.Test.YtlggfmfelakadaaRatioFromu
namespace Go.Proofs.Ytlggfmfelakadaa
set_option linter.unusedVariables false
/-- Whether one more round is done. -/
def liC (p : Int) (k : Nat) : Bool := decide (p ^ k ≤ 200000000) && decide (p ^ k ≤ 400000000 / p)
def liG (p : Int) : Nat → Nat → Nat
  | 0, k => k
  | m + 1, k => if liC p k then liG p m (k + 1) else k
def liK (p : Int) : Nat := liG p 6 0
theorem liG_go {p : Int} {m k : Nat} (h : liC p k = true) : liG p (m + 1) k = liG p m (k + 1) := by
  show (if _ then _ else _) = _
  rw [if_pos h]
theorem liG_stop {p : Int} {m k : Nat} (h : liC p k = false) : liG p m k = k := by
  cases m with
  | zero => rfl
  | succ m => show (if _ then _ else _) = _; rw [if_neg (by rw [h]; exact Bool.false_ne_true)]
theorem pow_one_le {p : Int} (hp : 1 ≤ p) : ∀ k : Nat, 1 ≤ p ^ k
  | 0 => by rw [Int.pow_zero]; omega
  | k + 1 => by
    rw [Int.pow_succ]
    have h1 := pow_one_le hp k
    have := Int.mul_le_mul h1 hp (by omega) (by omega)
    omega
theorem liC_iff {p : Int} {k : Nat} (hp : 1 ≤ p) : liC p k = true ↔ p ^ k ≤ 200000000 ∧ p ^ (k + 1) ≤ 400000000 := by
  unfold liC
  rw [Bool.and_eq_true, decide_eq_true_eq, decide_eq_true_eq, Int.le_ediv_iff_mul_le (by omega), Int.pow_succ]
theorem liC_small {p : Int} {k : Nat} (hp : 101 ≤ p) (h : liC p k = true) : k ≤ 3 := by
  refine Nat.le_of_not_lt fun hk => ?_
  have h2 := ((liC_iff (by omega)).1 h).2
  obtain ⟨d, hd⟩ : ∃ d, k + 1 = 5 + d := ⟨k - 4, by omega⟩
  rw [hd, Int.pow_add] at h2
  have h3 := pow_one_le (p := p) (by omega) d
  have a1 : (101 : Int) * 101 ≤ p * p := Int.mul_le_mul hp hp (by omega) (by omega)
  have a2 : (101 : Int) * 101 * 101 ≤ p * p * p := Int.mul_le_mul a1 hp (by omega) (by omega)
  have a3 : (101 : Int) * 101 * 101 * 101 ≤ p * p * p * p := Int.mul_le_mul a2 hp (by omega) (by omega)
  have a4 : (101 : Int) * 101 * 101 * 101 * 101 ≤ p * p * p * p * p := Int.mul_le_mul a3 hp (by omega) (by omega)
  have e : p ^ 5 = p * p * p * p * p := by
    rw [show (5 : Nat) = 0 + 1 + 1 + 1 + 1 + 1 from rfl]
    simp only [Int.pow_succ, Int.pow_zero, Int.one_mul]
  rw [e] at h2
  have a5 := Int.mul_le_mul a4 h3 (by omega) (by omega)
  omega
/-- The remainders behind a round. -/
def liR (n : Nat) (f : Fn2) (rs ds : List Int) (p : Int) : List Int := tab n fun i => (rs.getD i 0 - sumTo (fun k => f i k * ds.getD k 0) n).tdiv p
/-- The numbers behind a round. -/
def liX (n : Nat) (xs ds : List Int) (pw : Int) : List Int := tab n fun i => xs.getD i 0 + ds.getD i 0 * pw
/-- Remainders and numbers behind k rounds. -/
def liS (n : Nat) (f g : Fn2) (p : Int) (bs : List Int) : Nat → List Int × List Int
  | 0 => (bs, List.replicate n 0)
  | k + 1 => (liR n f (liS n f g p bs k).1 (smL n n g (liS n f g p bs k).1 p) p, liX n (liS n f g p bs k).2 (smL n n g (liS n f g p bs k).1 p) (p ^ k))
theorem liR_len (n : Nat) (f : Fn2) (rs ds : List Int) (p : Int) : (liR n f rs ds p).length = n := tab_len _ _
theorem liX_len (n : Nat) (xs ds : List Int) (pw : Int) : (liX n xs ds pw).length = n := tab_len _ _
theorem liS_len {n : Nat} {f g : Fn2} {p : Int} {bs : List Int} (hb : bs.length = n) : ∀ k, (liS n f g p bs k).1.length = n ∧ (liS n f g p bs k).2.length = n
  | 0 => ⟨hb, by simp [liS]⟩
  | k + 1 => ⟨liR_len _ _ _ _ _, liX_len _ _ _ _⟩
theorem getD_tab_bd {n : Nat} {f : Nat → Int} {P : Int → Prop} (h0 : P 0) (h : ∀ k, k < n → P (f k)) (k : Nat) : P ((tab n f).getD k 0) := by
  by_cases hk : k < n
  · rw [tab_getD hk]; exact h k hk
  · have e : (tab n f).getD k 0 = 0 := by simp only [List.getD, List.getElem?_eq_none (show (tab n f).length ≤ k by rw [tab_len]; omega)]; rfl
    rw [e]; exact h0
theorem smL_bd {n L : Nat} {g : Fn2} {bs : List Int} {p : Int} (hp : 2 ≤ p) (k : Nat) : 0 ≤ (smL n L g bs p).getD k 0 ∧ (smL n L g bs p).getD k 0 < p :=
  getD_tab_bd (P := fun x => 0 ≤ x ∧ x < p) (by omega) (fun k _ => smS_bd hp k L) k
/-- A row of the matrix times digits, as far as number j. -/
theorem liD_bd {n : Nat} {f : Fn2} {ds : List Int} {i : Nat} (hn : n ≤ 6) (hf : OKF n n f) (hi : i < n) (hd : ∀ k, 0 ≤ ds.getD k 0 ∧ ds.getD k 0 < 200) {j : Nat} (hj : j ≤ n) : -480000000000 ≤ sumTo (fun k => f i k * ds.getD k 0) j ∧ sumTo (fun k => f i k * ds.getD k 0) j ≤ 480000000000 := by
  have := sumTo_bd (f := fun k => f i k * ds.getD k 0) (b := 80000000000) (by omega) j fun k hk => by
    obtain ⟨a1, a2⟩ := hf i k hi (by omega)
    obtain ⟨b1, b2⟩ := hd k
    have h1 : (f i k * ds.getD k 0).natAbs ≤ 400000000 * 200 := by
      rw [Int.natAbs_mul]
      exact Nat.mul_le_mul (by omega) (by omega)
    omega
  have hj6 : (j : Int) ≤ 6 := by omega
  omega
theorem liR_bd {n : Nat} {f : Fn2} {rs ds : List Int} {p : Int} (hp : 101 ≤ p) (hn : n ≤ 6) (hf : OKF n n f) (hd : ∀ k, 0 ≤ ds.getD k 0 ∧ ds.getD k 0 < 200) (hr : ∀ k, -500000000000 ≤ rs.getD k 0 ∧ rs.getD k 0 ≤ 500000000000) (k : Nat) : -500000000000 ≤ (liR n f rs ds p).getD k 0 ∧ (liR n f rs ds p).getD k 0 ≤ 500000000000 := by
  refine getD_tab_bd (P := fun x => -500000000000 ≤ x ∧ x ≤ 500000000000) (by omega) (fun i hi => ?_) k
  have h1 := liD_bd hn hf hi hd (Nat.le_refl n)
  have h2 := hr i
  generalize sumTo (fun k => f i k * ds.getD k 0) n = s at *
  generalize rs.getD i 0 = r at *
  have h3 : ((r - s).tdiv p).natAbs ≤ (r - s).natAbs / 101 := by
    rw [Int.natAbs_tdiv]
    exact Nat.div_le_div_left (by omega) (by omega)
  omega
theorem liX_bd {n : Nat} {xs ds : List Int} {p : Int} {k : Nat} (hp : 1 ≤ p) (hd : ∀ k, 0 ≤ ds.getD k 0 ∧ ds.getD k 0 < p) (hx : ∀ i, 0 ≤ xs.getD i 0 ∧ xs.getD i 0 < p ^ k) (i : Nat) : 0 ≤ (liX n xs ds (p ^ k)).getD i 0 ∧ (liX n xs ds (p ^ k)).getD i 0 < p ^ (k + 1) := by
  have h1 := pow_one_le hp k
  have h2 := pow_one_le hp (k + 1)
  refine getD_tab_bd (P := fun x => 0 ≤ x ∧ x < p ^ (k + 1)) (by omega) (fun i hi => ?_) i
  obtain ⟨a1, a2⟩ := hx i
  obtain ⟨b1, b2⟩ := hd i
  rw [Int.pow_succ]
  generalize p ^ k = q at *
  generalize xs.getD i 0 = x at *
  generalize ds.getD i 0 = d at *
  have h3 : 0 ≤ d * q := Int.mul_nonneg b1 (by omega)
  have h4 : d * q ≤ (p - 1) * q := Int.mul_le_mul_of_nonneg_right (by omega) (by omega)
  have h5 : (p - 1) * q = q * p - q := by grind
  omega
theorem liS_bd {n : Nat} {f g : Fn2} {p : Int} {bs : List Int} (hp : 101 ≤ p) (hp2 : p < 200) (hn : n ≤ 6) (hf : OKF n n f) (hb : ∀ k, Num (bs.getD k 0)) : ∀ k, (∀ i, -500000000000 ≤ (liS n f g p bs k).1.getD i 0 ∧ (liS n f g p bs k).1.getD i 0 ≤ 500000000000) ∧ ∀ i, 0 ≤ (liS n f g p bs k).2.getD i 0 ∧ (liS n f g p bs k).2.getD i 0 < p ^ k
  | 0 => by
    refine ⟨fun i => ?_, fun i => ?_⟩
    · obtain ⟨a, b⟩ := hb i
      show _ ≤ bs.getD i 0 ∧ bs.getD i 0 ≤ _
      omega
    · show 0 ≤ (List.replicate n (0 : Int)).getD i 0 ∧ (List.replicate n (0 : Int)).getD i 0 < p ^ 0
      have e : (List.replicate n (0 : Int)).getD i 0 = 0 := by
        simp only [List.getD, List.getElem?_replicate]
        split <;> rfl
      rw [e, Int.pow_zero]; omega
  | k + 1 => by
    obtain ⟨h1, h2⟩ := liS_bd hp hp2 hn hf hb k
    have hd := fun i => smL_bd (n := n) (L := n) (g := g) (bs := (liS n f g p bs k).1) (p := p) (by omega) i
    exact ⟨fun i => liR_bd hp hn hf (fun k => by have := hd k; omega) h1 i, fun i => liX_bd (by omega) hd h2 i⟩
/-- New as far as number i, old from there on. -/
def mxT (n : Nat) (new old : List Int) (i : Nat) : List Int := tab n fun j => if j < i then new.getD j 0 else old.getD j 0
theorem mxT_len (n : Nat) (new old : List Int) (i : Nat) : (mxT n new old i).length = n := tab_len _ _
theorem tab_all {n : Nat} {xs : List Int} (h : xs.length = n) : tab n (fun j => xs.getD j 0) = xs := by
  apply List.ext_getElem?
  intro i
  by_cases hi : i < n
  · simp [tab, List.getD, hi, show i < xs.length by omega]
  · rw [List.getElem?_eq_none (by rw [tab_len]; omega), List.getElem?_eq_none (by omega)]
theorem tab_same {n : Nat} {f g : Nat → Int} (h : ∀ k, k < n → f k = g k) : tab n f = tab n g := List.map_congr_left fun k hk => h k (List.mem_range.1 hk)
theorem mxT_zero {n : Nat} {new old : List Int} (h : old.length = n) : mxT n new old 0 = old :=
  (tab_same fun j _ => if_neg (Nat.not_lt_zero _)).trans (tab_all h)
theorem mxT_end {n : Nat} {new old : List Int} (h : new.length = n) : mxT n new old n = new :=
  (tab_same fun j hj => if_pos hj).trans (tab_all h)
theorem mxT_at {n : Nat} {new old : List Int} {i : Nat} (h : i < n) : (mxT n new old i).getD i 0 = old.getD i 0 := by
  unfold mxT; rw [tab_getD h, if_neg (Nat.lt_irrefl _)]
theorem tab_set {n i : Nat} {f g : Nat → Int} {v : Int} (hv : g i = v) (h : ∀ j, j < n → j ≠ i → g j = f j) : (tab n f).set i v = tab n g := by
  apply List.ext_getElem?
  intro j
  by_cases hj : j < n
  · by_cases hji : j = i
    · subst hji
      simp [tab, hj, hv]
    · rw [List.getElem?_set_ne (Ne.symm hji)]
      simp [tab, hj, h j hj hji]
  · rw [List.getElem?_eq_none (by rw [List.length_set, tab_len]; omega), List.getElem?_eq_none (by rw [tab_len]; omega)]
theorem mxT_set {n : Nat} {new old : List Int} {i : Nat} {v : Int} (hv : new.getD i 0 = v) : (mxT n new old i).set i v = mxT n new old (i + 1) := by
  unfold mxT
  refine tab_set (by rw [if_pos (Nat.lt_succ_self i)]; exact hv) fun j hj hne => ?_
  by_cases h : j < i
  · rw [if_pos h, if_pos (by omega)]
  · rw [if_neg h, if_neg (by omega)]
/-- The greatest bound that a modulus allows. -/
def liBd (pw : Int) : Nat → Nat
  | 0 => 0
  | b + 1 => if pw ≤ 2 * ((b + 1 : Nat) : Int) * ((b + 1 : Nat) : Int) then liBd pw b else b + 1
theorem liBd_le (pw : Int) : ∀ b, liBd pw b ≤ b
  | 0 => Nat.le_refl _
  | b + 1 => by
    show (if _ then _ else _) ≤ _
    split
    · have := liBd_le pw b; omega
    · exact Nat.le_refl _
theorem liBd_go {pw : Int} {b : Nat} (h : pw ≤ 2 * (b : Int) * (b : Int)) (h1 : 1 ≤ pw) : 1 ≤ b ∧ liBd pw b = liBd pw (b - 1) := by
  cases b with
  | zero => simp at h; omega
  | succ b =>
    refine ⟨by omega, ?_⟩
    show (if _ then _ else _) = _
    rw [if_pos h]; rfl
theorem liBd_stop {pw : Int} {b : Nat} (h : ¬ pw ≤ 2 * (b : Int) * (b : Int)) : liBd pw b = b := by
  cases b with
  | zero => rfl
  | succ b => show (if _ then _ else _) = _; rw [if_neg h]
/-- The first j ratios. -/
def liO (pw b : Int) (xs : List Int) : Nat → Option (List Int)
  | 0 => some []
  | j + 1 => (liO pw b xs j).bind fun qs => (rfRes (xs.getD j 0) pw b).bind fun q => some (qs ++ [q.1, q.2])
theorem liO_yes {pw b : Int} {xs qs : List Int} {j : Nat} {n d : Int} (h : liO pw b xs j = some qs) (hr : rfRes (xs.getD j 0) pw b = some (n, d)) : liO pw b xs (j + 1) = some (qs ++ [n, d]) := by
  show (liO pw b xs j).bind _ = _
  rw [h, Option.bind_some, hr]; rfl
theorem liO_no {pw b : Int} {xs qs : List Int} {j : Nat} (h : liO pw b xs j = some qs) (hr : rfRes (xs.getD j 0) pw b = none) : liO pw b xs (j + 1) = none := by
  show (liO pw b xs j).bind _ = _
  rw [h, Option.bind_some, hr]; rfl
theorem liO_none {pw b : Int} {xs : List Int} {j : Nat} (h : liO pw b xs j = none) : ∀ m, j ≤ m → liO pw b xs m = none := by
  intro m
  induction m with
  | zero => intro hj; obtain rfl : j = 0 := by omega
            exact h
  | succ m ih =>
    intro hj
    by_cases e : j = m + 1
    · subst e; exact h
    · show (liO pw b xs m).bind _ = _
      rw [ih (by omega)]; rfl
theorem liO_len {pw b : Int} {xs : List Int} : ∀ {j : Nat} {qs : List Int}, liO pw b xs j = some qs → qs.length = j * 2
  | 0, qs, h => by cases h; rfl
  | j + 1, qs, h => by
    rcases h1 : liO pw b xs j with _ | ps
    · rw [liO_none h1 (j + 1) (by omega)] at h; cases h
    · rcases h2 : rfRes (xs.getD j 0) pw b with _ | ⟨n, d⟩
      · rw [liO_no h1 h2] at h; cases h
      · rw [liO_yes h1 h2] at h
        cases h
        rw [List.length_append, liO_len h1]; simp; omega
/-- The first number of m from p on modulo which there is an inverse. -/
def liP (r c : Int) (xs : List Int) : Nat → Int → Option Int
  | 0, p => none
  | m + 1, p => if imB r c xs p then some p else liP r c xs m (p + 1)
theorem liP_yes {r c : Int} {xs : List Int} {m : Nat} {p : Int} (h : imB r c xs p = true) : liP r c xs (m + 1) p = some p := by
  show (if _ then _ else _) = _
  rw [if_pos h]
theorem liP_no {r c : Int} {xs : List Int} {m : Nat} {p : Int} (h : imB r c xs p = false) : liP r c xs (m + 1) p = liP r c xs m (p + 1) := by
  show (if _ then _ else _) = _
  rw [if_neg (by rw [h]; exact Bool.false_ne_true)]
/-- The ratios, if they solve. -/
def lsQ (r c : Int) (xs bs : List Int) (p : Int) : Option (List Int) :=
  (liO (p ^ liK p) (liBd (p ^ liK p) 10000) (liS r.toNat (fun i j => cel xs r.toNat i j) (fun i j => (imS r c xs p).f i (r.toNat + j)) p bs (liK p)).2 r.toNat).bind fun qs => if irB r c xs bs qs then some qs else none
def lsX (r c : Int) (xs bs : List Int) : Option (List Int) := if sysB r c xs bs then (liP r c xs 99 101).bind (lsQ r c xs bs) else none
def lsN (r : Int) (o : Option (List Int)) : Nat := if o.isSome then r.toNat else 0
theorem lsX_no {r c : Int} {xs bs : List Int} (h : sysB r c xs bs = false) : lsX r c xs bs = none := by
  unfold lsX; rw [if_neg (by rw [h]; exact Bool.false_ne_true)]
theorem lsX_none {r c : Int} {xs bs : List Int} (h : sysB r c xs bs = true) (hp : liP r c xs 99 101 = none) : lsX r c xs bs = none := by
  unfold lsX; rw [if_pos h, hp]; rfl
theorem lsX_some {r c : Int} {xs bs : List Int} {p : Int} (h : sysB r c xs bs = true) (hp : liP r c xs 99 101 = some p) : lsX r c xs bs = lsQ r c xs bs p := by
  unfold lsX; rw [if_pos h, hp]; rfl
theorem liP_some {r c : Int} {xs : List Int} {p : Int} : ∀ (m : Nat) (q : Int), liP r c xs m q = some p → imB r c xs p = true ∧ q ≤ p ∧ p < q + m
  | 0, q, h => by cases h
  | m + 1, q, h => by
    rcases hb : imB r c xs q with _ | _
    · rw [liP_no hb] at h
      obtain ⟨h1, h2, h3⟩ := liP_some m (q + 1) h
      exact ⟨h1, by omega, by omega⟩
    · rw [liP_yes hb] at h
      cases h
      exact ⟨hb, Int.le_refl _, by omega⟩
theorem im_200 (r c : Int) (xs : List Int) : imB r c xs 200 = false := by
  rcases h : imB r c xs 200 with _ | _
  · rfl
  · unfold imB imOk at h
    rw [Bool.and_eq_true, Bool.and_eq_true, Bool.and_eq_true] at h
    have K := redOk h.1.1.1
    have := K.pr
    exact absurd this (by decide)
theorem lsQ_len {r c : Int} {xs bs qs : List Int} {p : Int} (h : lsQ r c xs bs p = some qs) : qs.length = r.toNat * 2 := by
  unfold lsQ at h
  rcases ho : liO (p ^ liK p) (liBd (p ^ liK p) 10000) (liS r.toNat (fun i j => cel xs r.toNat i j) (fun i j => (imS r c xs p).f i (r.toNat + j)) p bs (liK p)).2 r.toNat with _ | q
  · rw [ho] at h; cases h
  · rw [ho, Option.bind_some] at h
    split at h
    · cases h; exact liO_len ho
    · cases h
theorem lsX_len {r c : Int} {xs bs : List Int} : ((lsX r c xs bs).getD []).length = lsN r (lsX r c xs bs) * 2 := by
  unfold lsN
  rcases hs : sysB r c xs bs with _ | _
  · rw [lsX_no hs]; rfl
  · rcases hp : liP r c xs 99 101 with _ | p
    · rw [lsX_none hs hp]; rfl
    · rw [lsX_some hs hp]
      rcases hq : lsQ r c xs bs p with _ | qs
      · rfl
      · simpa using lsQ_len hq
end Go.Proofs.Ytlggfmfelakadaa

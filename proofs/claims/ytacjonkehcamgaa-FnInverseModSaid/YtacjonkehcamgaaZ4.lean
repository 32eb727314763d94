/-
  DERIVED. Several small texts in one: PlainV, PlIm, PlainX, PlIm2.
-/
import Derived.Test.YtacjonkehcamgaaZS
import Derived.Test.YtacjonkehcamgaaZ1
import Derived.Test.YtacjonkehcamgaaRankIq
import Derived.Test.YtacjonkehcamgaaZ3
import Derived.Test.YtacjonkehcamgaaPlainR
/-
  DERIVED. The inverse over residues: the wide matrix, the part at the right. No program in sight.
-/
namespace Go.Proofs.Ytacjonkehcamgaa
set_option linter.unusedVariables false
/-- f and, at its right, ones in the diagonal. -/
def wideF (n : Nat) (f : Nat → Nat → Int) : Nat → Nat → Int := fun i c => if c < n then f i c else if c = n + i then 1 else 0
/-- The first m rows of it, zeros below. -/
def wK (n : Nat) (f : Nat → Nat → Int) (m : Nat) : Nat → Nat → Int := fun i c => if i < m then wideF n f i c else 0
/-- Row m, too, up to cell k of f. -/
def wR (n : Nat) (f : Nat → Nat → Int) (m k : Nat) : Nat → Nat → Int := fun i c => if i < m then wideF n f i c else if i = m ∧ c < k then f i c else 0
theorem wK_zero (n : Nat) (f : Nat → Nat → Int) : wK n f 0 = fun _ _ => 0 := by funext i c; simp [wK]
theorem wK_end {R C : Nat} (n : Nat) (f : Nat → Nat → Int) : tb R C (wK n f R) = tb R C (wideF n f) := tb_ext fun i c hi hc => by unfold wK; rw [if_pos hi]
theorem wR_zero (n : Nat) (f : Nat → Nat → Int) (m : Nat) : wR n f m 0 = wK n f m := by funext i c; unfold wR wK; grind
theorem wR_step {n : Nat} {f : Nat → Nat → Int} {m k : Nat} : upd (wR n f m k) m k (f m k) = wR n f m (k + 1) := by funext i c; unfold upd wR; grind
theorem wR_end {n : Nat} {f : Nat → Nat → Int} {m : Nat} : upd (wR n f m n) m (n + m) 1 = wK n f (m + 1) := by funext i c; unfold upd wR wK wideF; grind
theorem wR_row {n D m : Nat} {f : Nat → Nat → Int} (hm : m < n) (hD : n ≤ D) : splL (tb n D (wK n f m)) (m * D) (rowL (tb n n f) n m) = tb n D (wR n f m n) := by
  have hl : m * n + n ≤ n * n := by
    have h3 := Nat.mul_le_mul_right n (show m + 1 ≤ n by omega); rw [Nat.add_mul, Nat.one_mul] at h3; exact h3
  have hlen : (rowL (tb n n f) n m).length = n := rowL_len (by rw [tb_len]; exact hl)
  have := spl_tbo (R := n) (C := D) (i := m) (o := 0) (f := wK n f m) (ys := rowL (tb n n f) n m) hm (by omega)
  rw [Nat.add_zero] at this
  rw [this]
  apply tb_ext
  intro i c hi hc
  unfold setW wR
  by_cases h : i = m ∧ c < n
  · obtain ⟨rfl, h2⟩ := h
    rw [if_pos (by omega), if_neg (by omega), if_pos ⟨rfl, h2⟩, Nat.sub_zero, rowL_getD h2, cel_tb hi h2]
  · rw [if_neg (by omega)]
    unfold wK
    grind
/-- The first m rows of g, from column n on; zeros below. -/
def oK (n : Nat) (g : Nat → Nat → Int) (m : Nat) : Nat → Nat → Int := fun i c => if i < m then g i (n + c) else 0
def oR (n : Nat) (g : Nat → Nat → Int) (m k : Nat) : Nat → Nat → Int := fun i c => if i < m ∨ i = m ∧ c < k then g i (n + c) else 0
theorem oK_zero (n : Nat) (g : Nat → Nat → Int) : oK n g 0 = fun _ _ => 0 := by funext i c; simp [oK]
theorem oK_end {R C : Nat} (n : Nat) (g : Nat → Nat → Int) : tb R C (oK n g R) = tb R C (fun i c => g i (n + c)) := tb_ext fun i c hi hc => by unfold oK; rw [if_pos hi]
theorem oR_zero (n : Nat) (g : Nat → Nat → Int) (m : Nat) : oR n g m 0 = oK n g m := by funext i c; unfold oR oK; grind
theorem oR_step {n : Nat} {g : Nat → Nat → Int} {m k : Nat} : upd (oR n g m k) m k (g m (n + k)) = oR n g m (k + 1) := by funext i c; unfold upd oR; grind
theorem oR_end {R n : Nat} {g : Nat → Nat → Int} {m : Nat} : tb R n (oR n g m n) = tb R n (oK n g (m + 1)) := tb_ext fun i c hi hc => by unfold oR oK; grind
theorem oK_row {n D m : Nat} {g : Nat → Nat → Int} (hm : m < n) (hD : n + n ≤ D) : splL (tb n n (oK n g m)) (m * n) (winL (tb n D g) (m * D + n) n) = tb n n (oK n g (m + 1)) := by
  have hl : m * D + D ≤ n * D := by
    have h3 := Nat.mul_le_mul_right D (show m + 1 ≤ n by omega); rw [Nat.add_mul, Nat.one_mul] at h3; exact h3
  have hlen : (winL (tb n D g) (m * D + n) n).length = n := winL_len (by rw [tb_len]; omega)
  rw [spl_tb hm hlen]
  apply tb_ext
  intro i c hi hc
  unfold setR oK
  by_cases h : i = m
  · subst h
    rw [if_pos rfl, if_pos (by omega), winL_getD hc, Nat.add_assoc, tb_at hi (by omega)]
  · rw [if_neg h]
    grind
/-- Whether there is something to invert. -/
def imOk (r c : Int) (xs : List Int) (p : Int) : Bool := redB r c xs p && decide (r = c) && decide (r ≤ 12)
def imS (r c : Int) (xs : List Int) (p : Int) : ESt := runE r.toNat r.toNat p (wideF r.toNat (rmF c xs p))
def imB (r c : Int) (xs : List Int) (p : Int) : Bool := imOk r c xs p && decide (r ≤ (imS r c xs p).t)
def imM (r c : Int) (xs : List Int) (p : Int) : Mx := if imB r c xs p then ⟨r, r, tb r.toNat r.toNat (fun i j => (imS r c xs p).f i (r.toNat + j))⟩ else .none
theorem im_cases (r c : Int) (xs : List Int) (p : Int) : (redB r c xs p = false ∧ imB r c xs p = false) ∨ (redB r c xs p = true ∧ (r != c) = true ∧ imB r c xs p = false) ∨ (redB r c xs p = true ∧ r = c ∧ 12 < r ∧ imB r c xs p = false) ∨
    (redB r c xs p = true ∧ r = c ∧ r ≤ 12 ∧ imB r c xs p = decide (r ≤ (imS r c xs p).t)) := by
  unfold imB imOk
  rcases redB r c xs p with _ | _
  · left; simp
  · right
    by_cases h : r = c
    · right
      by_cases h2 : r ≤ 12
      · right; exact ⟨rfl, h, h2, by simp [h, show c ≤ 12 by omega]⟩
      · left; exact ⟨rfl, h, by omega, by simp [h, show ¬ c ≤ 12 by omega]⟩
    · left; simp [h]
theorem imM_no {r c : Int} {xs : List Int} {p : Int} (h : imB r c xs p = false) : imM r c xs p = .none := by unfold imM; rw [h]; rfl
theorem imM_yes {r c : Int} {xs : List Int} {p : Int} (h : imB r c xs p = true) : imM r c xs p = ⟨r, r, tb r.toNat r.toNat (fun i j => (imS r c xs p).f i (r.toNat + j))⟩ := by unfold imM; rw [h]; rfl
theorem imM_len (r c : Int) (xs : List Int) (p : Int) : (imM r c xs p).xs.length ≤ 1048576 := by
  rcases im_cases r c xs p with ⟨_, hi⟩ | ⟨_, _, hi⟩ | ⟨_, _, _, hi⟩ | ⟨hb, _, h12, hi⟩
  iterate 3
    · rw [imM_no hi]; exact Nat.zero_le _
  · rcases hv : imB r c xs p with _ | _
    · rw [imM_no hv]; exact Nat.zero_le _
    · rw [imM_yes hv]
      have h1 := (redOk hb).m.r0
      obtain ⟨R, rfl⟩ := nat_of h1
      have : R * R ≤ 12 * 12 := Nat.mul_le_mul (by omega) (by omega)
      simp only [Int.toNat_natCast, tb_len]
      omega
theorem wideF_bd {n : Nat} {f : Nat → Nat → Int} {p : Int} (hp : 2 ≤ p) (hf : ∀ i c : Nat, 0 ≤ f i c ∧ f i c < p) (i c : Nat) : 0 ≤ wideF n f i c ∧ wideF n f i c < p := by
  unfold wideF
  split
  · exact hf i c
  · split <;> omega
end Go.Proofs.Ytacjonkehcamgaa

/-
  DERIVED. Inverses modulo a prime are inverses from both sides, and there is none exactly if the determinant's residue is 0: no program in sight.
-/
namespace Go.Proofs.Ytacjonkehcamgaa
set_option linter.unusedVariables false
theorem prFrom_no {p : Int} : ∀ (k : Nat) (d : Int), 2 ≤ d → prFrom p d k = true → ∀ q, d ≤ q → q < d + k → q * q ≤ p → ¬ q ∣ p
  | 0, d, _, _, q, h1, h2, _ => by omega
  | k + 1, d, hd, h, q, h1, h2, hq => by
    unfold prFrom at h
    have hdd : d * d ≤ p := Int.le_trans (Int.mul_le_mul h1 h1 (by omega) (by omega)) hq
    rw [if_pos hdd] at h
    split at h
    · cases h
    · rename_i hm
      by_cases e : q = d
      · subst e
        exact fun hdv => hm (Int.emod_eq_zero_of_dvd hdv)
      · exact prFrom_no k (d + 1) (by omega) h q (by omega) (by omega) hq
theorem pr_div {p q : Int} (h : isPr p = true) (hq : 2 ≤ q) (hqp : q < p) : ¬ q ∣ p := by
  simp only [isPr, Bool.and_eq_true, decide_eq_true_eq] at h
  obtain ⟨⟨h1, h2⟩, h3⟩ := h
  rintro ⟨r, hr⟩
  have hr1 : 2 ≤ r := by
    refine Int.not_lt.1 fun hlt => ?_
    rcases Int.lt_or_le r 1 with h5 | h5
    · have := Int.mul_nonneg (show 0 ≤ q by omega) (show 0 ≤ -r by omega)
      rw [Int.mul_neg] at this
      omega
    · obtain rfl : r = 1 := by omega
      omega
  rcases Int.lt_or_le r q with hlt | hge
  · have hrr : r * r ≤ p := by
      rw [hr]
      exact Int.mul_le_mul (Int.le_of_lt hlt) (Int.le_refl r) (by omega) (by omega)
    have hb := le_of_sq r 100 p (by omega) hrr (by omega)
    exact prFrom_no 200 2 (by omega) h3 r (by omega) (by omega) hrr ⟨q, by rw [hr, Int.mul_comm]⟩
  · have hqq : q * q ≤ p := by
      rw [hr]
      exact Int.mul_le_mul (Int.le_refl q) hge (by omega) (by omega)
    have hb := le_of_sq q 100 p (by omega) hqq (by omega)
    exact prFrom_no 200 2 (by omega) h3 q (by omega) (by omega) hqq ⟨r, hr⟩
theorem pr_gcd {p a : Int} (h : isPr p = true) (h0 : 0 < a) (h1 : a < p) : Int.gcd a p = 1 := by
  have hp := isPr_bds h
  have d1 : ((Int.gcd a p : Nat) : Int) ∣ a := Int.gcd_dvd_left ..
  have d2 : ((Int.gcd a p : Nat) : Int) ∣ p := Int.gcd_dvd_right ..
  have hle := Int.le_of_dvd h0 d1
  have hpos : 0 < Int.gcd a p := Int.gcd_pos_of_ne_zero_left _ (by omega)
  by_cases e : Int.gcd a p = 1
  · exact e
  · exact absurd d2 (pr_div h (by omega) (by omega))
/-- A prime divides a factor of what it divides. -/
theorem pr_mul {p a b : Int} (h : isPr p = true) (hd : p ∣ a * b) : p ∣ a ∨ p ∣ b := by
  have hp := isPr_bds h
  by_cases h0 : a % p = 0
  · exact .inl (Int.dvd_of_emod_eq_zero h0)
  · right
    obtain ⟨b1, b2⟩ := emod_bds a p (by omega)
    have hg := pr_gcd h (show 0 < a % p by omega) b2
    have e1 := Int.emod_add_mul_ediv a p
    have hd2 : p ∣ a % p * b := by
      have e2 : (a % p + p * (a / p)) * b = a * b := by rw [e1]
      have : a % p * b = a * b - p * (a / p * b) := by rw [← e2]; grind
      rw [this]
      exact Int.dvd_sub hd ⟨_, rfl⟩
    exact dvd_of_gcd_one hd2 (by rw [Int.gcd_comm]; exact hg)
theorem dvd_emod (a p : Int) : p ∣ a % p - a := ⟨-(a / p), by have := Int.emod_add_mul_ediv a p; rw [Int.mul_neg]; omega⟩
theorem dvd_sumTo {p : Int} {f : Nat → Int} : ∀ n, (∀ k, k < n → p ∣ f k) → p ∣ sumTo f n
  | 0, _ => Int.dvd_zero _
  | n + 1, h => by rw [sumTo_succ]; exact Int.dvd_add (dvd_sumTo n fun k hk => h k (by omega)) (h n (by omega))
theorem dvd_sumTo_sub {p : Int} {f g : Nat → Int} (n : Nat) (h : ∀ k, k < n → p ∣ f k - g k) : p ∣ sumTo f n - sumTo g n := by
  rw [← sumTo_sub]
  exact dvd_sumTo n h
/-- The right half keeps account of what is done to the left one; and it takes no column but that of zeros to zeros. -/
structure EI (n : Nat) (p : Int) (m f : Fn2) : Prop where
  lin : ∀ i c, i < n → c < n → p ∣ f i c - sumTo (fun k => f i (n + k) * m k c) n
  inj : ∀ z : Nat → Int, (∀ i, i < n → p ∣ sumTo (fun k => f i (n + k) * z k) n) → ∀ k, k < n → p ∣ z k
theorem EI.swap {n : Nat} {p : Int} {m f : Fn2} {k t : Nat} (h : EI n p m f) (hk : k < n) (ht : t < n) : EI n p m (swF f k t) := by
  have key : ∀ i, i < n → (if i = k then t else if i = t then k else i) < n := fun i hi => by
    split
    · exact ht
    · split
      · exact hk
      · exact hi
  refine ⟨fun i c hi hc => h.lin _ c (key i hi) hc, fun z hz => h.inj z fun i hi => ?_⟩
  have := hz (if i = k then t else if i = t then k else i) (key i hi)
  have e : (if (if i = k then t else if i = t then k else i) = k then t else if (if i = k then t else if i = t then k else i) = t then k else (if i = k then t else if i = t then k else i)) = i := by
    split <;> split <;> (try split) <;> omega
  have e2 : ∀ c, swF f k t (if i = k then t else if i = t then k else i) c = f i c := fun c => by
    unfold swF
    rw [e]
  rw [sumTo_congr n fun l _ => by rw [e2 (n + l)]] at this
  exact this
/-- A row that is a sum of two. -/
theorem EI.row {n : Nat} {p a b : Int} {m f : Fn2} {g : Nat → Int} {i t c : Nat} (h : EI n p m f) (hi : i < n) (ht : t < n) (hc : c < n) (hg : ∀ q, p ∣ g q - (a * f i q + b * f t q)) : p ∣ g c - sumTo (fun k => g (n + k) * m k c) n := by
  have h1 := h.lin i c hi hc
  have h2 := h.lin t c ht hc
  have h3 : p ∣ sumTo (fun k => g (n + k) * m k c) n - sumTo (fun k => (a * f i (n + k) + b * f t (n + k)) * m k c) n := dvd_sumTo_sub n fun k _ => by
    rw [← Int.sub_mul]
    exact Int.dvd_trans (hg (n + k)) ⟨_, rfl⟩
  have h4 : sumTo (fun k => (a * f i (n + k) + b * f t (n + k)) * m k c) n = a * sumTo (fun k => f i (n + k) * m k c) n + b * sumTo (fun k => f t (n + k) * m k c) n := by
    rw [← sumTo_mul', ← sumTo_mul', ← sumTo_add]
    exact sumTo_congr n fun k _ => by grind
  rw [h4] at h3
  generalize sumTo (fun k => f i (n + k) * m k c) n = S at *
  generalize sumTo (fun k => f t (n + k) * m k c) n = T at *
  generalize sumTo (fun k => g (n + k) * m k c) n = U at *
  have e : g c - U = (g c - (a * f i c + b * f t c)) + a * (f i c - S) + b * (f t c - T) - (U - (a * S + b * T)) := by grind
  rw [e]
  exact Int.dvd_sub (Int.dvd_add (Int.dvd_add (hg c) (Int.dvd_trans h1 ⟨a, by rw [Int.mul_comm]⟩)) (Int.dvd_trans h2 ⟨b, by rw [Int.mul_comm]⟩)) h3
theorem EI.sc {n : Nat} {p x y : Int} {m f : Fn2} {t : Nat} (h : EI n p m f) (ht : t < n) (hx : p ∣ y * x - 1) : EI n p m (scF f t x p) := by
  have e0 : ∀ q, scF f t x p t q = f t q * x % p := fun q => by unfold scF; rw [if_pos rfl]
  have e1 : ∀ i q, i ≠ t → scF f t x p i q = f i q := fun i q hne => by unfold scF; rw [if_neg hne]
  refine ⟨fun i c hi hc => ?_, fun z hz => h.inj z fun i hi => ?_⟩
  · by_cases hit : i = t
    · subst hit
      refine h.row (a := x) (b := 0) (g := fun q => scF f i x p i q) hi hi hc fun q => ?_
      show p ∣ scF f i x p i q - _
      rw [e0, Int.zero_mul, Int.add_zero, Int.mul_comm x]
      exact dvd_emod _ _
    · rw [e1 i c hit, sumTo_congr n fun k _ => by rw [e1 i (n + k) hit]]
      exact h.lin i c hi hc
  · by_cases hit : i = t
    · subst hit
      have h1 := hz i hi
      have h2 : p ∣ sumTo (fun k => scF f i x p i (n + k) * z k) n - sumTo (fun k => f i (n + k) * z k) n * x := by
        rw [← sumTo_mul]
        refine dvd_sumTo_sub n fun k _ => ?_
        rw [e0]
        have : f i (n + k) * x % p * z k - f i (n + k) * z k * x = (f i (n + k) * x % p - f i (n + k) * x) * z k := by grind
        rw [this]
        exact Int.dvd_trans (dvd_emod _ _) ⟨_, rfl⟩
      generalize sumTo (fun k => f i (n + k) * z k) n = S at *
      generalize sumTo (fun k => scF f i x p i (n + k) * z k) n = U at *
      have e : S = y * (U - (U - S * x)) - S * (y * x - 1) := by grind
      rw [e]
      exact Int.dvd_sub (Int.dvd_trans (Int.dvd_sub h1 h2) ⟨y, by rw [Int.mul_comm]⟩) (Int.dvd_trans hx ⟨S, by rw [Int.mul_comm]⟩)
    · have h1 := hz i hi
      rw [sumTo_congr n fun k _ => by rw [e1 i (n + k) hit]] at h1
      exact h1
theorem EI.el {n : Nat} {p : Int} {m f : Fn2} {t j : Nat} (h : EI n p m f) (ht : t < n) : EI n p m (elF f t j p) := by
  have e0 : ∀ q, elF f t j p t q = f t q := fun q => by unfold elF; rw [if_neg (fun h => h rfl)]
  have e1 : ∀ i q, i ≠ t → elF f t j p i q = (f i q - f i j * f t q) % p := fun i q hne => by unfold elF elAt; rw [if_pos hne]
  refine ⟨fun i c hi hc => ?_, fun z hz => h.inj z fun i hi => ?_⟩
  · by_cases hit : i = t
    · subst hit
      rw [e0, sumTo_congr n fun k _ => by rw [e0 (n + k)]]
      exact h.lin i c hi hc
    · refine h.row (a := 1) (b := -f i j) (g := fun q => elF f t j p i q) hi ht hc fun q => ?_
      show p ∣ elF f t j p i q - _
      rw [e1 i q hit]
      have : (1 : Int) * f i q + -f i j * f t q = f i q - f i j * f t q := by grind
      rw [this]
      exact dvd_emod _ _
  · have ht0 := hz t ht
    rw [sumTo_congr n fun k _ => by rw [e0 (n + k)]] at ht0
    by_cases hit : i = t
    · subst hit; exact ht0
    · have h1 := hz i hi
      have h2 : p ∣ sumTo (fun k => elF f t j p i (n + k) * z k) n - sumTo (fun k => (f i (n + k) - f i j * f t (n + k)) * z k) n := by
        refine dvd_sumTo_sub n fun k _ => ?_
        rw [e1 i _ hit, ← Int.sub_mul]
        exact Int.dvd_trans (dvd_emod _ _) ⟨_, rfl⟩
      have h3 : sumTo (fun k => (f i (n + k) - f i j * f t (n + k)) * z k) n = sumTo (fun k => f i (n + k) * z k) n - f i j * sumTo (fun k => f t (n + k) * z k) n := by
        rw [← sumTo_mul', ← sumTo_sub]
        exact sumTo_congr n fun k _ => by grind
      rw [h3] at h2
      generalize sumTo (fun k => f i (n + k) * z k) n = S at *
      generalize sumTo (fun k => f t (n + k) * z k) n = T at *
      generalize sumTo (fun k => elF f t j p i (n + k) * z k) n = U at *
      have e : S = U - (U - (S - f i j * T)) + T * f i j := by grind
      rw [e]
      exact Int.dvd_add (Int.dvd_sub h1 h2) (Int.dvd_trans ht0 ⟨_, rfl⟩)
theorem EI.start (n : Nat) (p : Int) (m : Fn2) : EI n p m (wideF n m) := by
  have e : ∀ i k, wideF n m i (n + k) = if k = i then 1 else 0 := fun i k => by
    unfold wideF
    rw [if_neg (by omega)]
    by_cases h : k = i
    · rw [if_pos h, if_pos (by omega)]
    · rw [if_neg h, if_neg (by omega)]
  have s : ∀ (z : Nat → Int) i, i < n → sumTo (fun k => wideF n m i (n + k) * z k) n = z i := fun z i hi => by
    rw [sumTo_one n hi (fun k _ hne => by rw [e, if_neg hne, Int.zero_mul])]
    rw [e, if_pos rfl, Int.one_mul]
  refine ⟨fun i c hi hc => ?_, fun z hz k hk => ?_⟩
  · rw [s (fun k => m k c) i hi]
    unfold wideF
    rw [if_pos hc, Int.sub_self]
    exact Int.dvd_zero _
  · have := hz k hk
    rwa [s z k hk] at this
/-- The columns done are those of the unit matrix. -/
def Un (n j : Nat) (f : Fn2) : Prop := ∀ i c, i < n → c < j → f i c = if i = c then 1 else 0
/-- A column with a pivot. -/
theorem colE_piv {n j : Nat} {p d : Int} {m f : Fn2} (hp : isPr p = true) (hf : ∀ i c, 0 ≤ f i c ∧ f i c < p) (hE : EI n p m f) (hU : Un n j f) (hj : j < n) (hk : fnd f j (n - j) j < n) :
    EI n p m (colE n p ⟨f, j, d⟩ j).f ∧ Un n (j + 1) (colE n p ⟨f, j, d⟩ j).f ∧ (colE n p ⟨f, j, d⟩ j).t = j + 1 ∧ (∀ i c, 0 ≤ (colE n p ⟨f, j, d⟩ j).f i c ∧ (colE n p ⟨f, j, d⟩ j).f i c < p) := by
  have hp2 := isPr_bds hp
  have hkl := fnd_le f j (n - j) j
  have hne := fnd_ne f j (n - j) j (by omega)
  have hv : colE n p ⟨f, j, d⟩ j = ⟨elF (scF (swF f (fnd f j (n - j) j) j) j (invOf (swF f (fnd f j (n - j) j) j j j) p) p) j j p, j + 1, (if fnd f j (n - j) j = j then d else (-d) % p) * swF f (fnd f j (n - j) j) j j j % p⟩ := by
    unfold colE
    simp only
    rw [if_neg (by omega)]
  rw [hv]
  generalize fnd f j (n - j) j = k at *
  have hp1 : swF f k j j j = f k j := swF_t f k j j
  rw [hp1]
  have hb := hf k j
  have hinv := invOf_spec (a := f k j) (m := p) (by omega) (by omega) (pr_gcd hp (by omega) hb.2)
  generalize invOf (f k j) p = x at *
  have E1 := hE.swap (k := k) (t := j) (by omega) hj
  have E2 := E1.sc hj hinv
  refine ⟨E2.el hj, ?_, rfl, fun i c => ?_⟩
  · have hU1 : Un n j (swF f k j) := fun i c hi hc => by
      unfold swF
      split
      · rename_i e
        rw [hU j c hj hc, if_neg (by omega), if_neg (by omega)]
      · split
        · rename_i e
          rw [hU k c (by omega) hc, if_neg (by omega), if_neg (by omega)]
        · exact hU i c hi hc
    have s0 : ∀ c, c < j → scF (swF f k j) j x p j c = 0 := fun c hc => by
      unfold scF
      rw [if_pos rfl, hU1 j c hj hc, if_neg (by omega), Int.zero_mul]
      exact Int.zero_emod _
    have s1 : scF (swF f k j) j x p j j = 1 := by
      unfold scF
      rw [if_pos rfl, hp1]
      obtain ⟨q, hq⟩ := hinv
      have : f k j * x = 1 + p * q := by omega
      rw [this, Int.add_mul_emod_self_left]
      exact Int.emod_eq_of_lt (by omega) (by omega)
    have s2 : ∀ i c, i ≠ j → scF (swF f k j) j x p i c = swF f k j i c := fun i c h => by unfold scF; rw [if_neg h]
    intro i c hi hc
    show elF _ j j p i c = _
    by_cases hij : i = j
    · subst hij
      have : elF (scF (swF f k i) i x p) i i p i c = scF (swF f k i) i x p i c := by unfold elF; rw [if_neg (fun h => h rfl)]
      rw [this]
      by_cases hcj : c = i
      · subst hcj; rw [s1, if_pos rfl]
      · rw [s0 c (by omega), if_neg (fun e => hcj e.symm)]
    · have : elF (scF (swF f k j) j x p) j j p i c = (swF f k j i c - swF f k j i j * scF (swF f k j) j x p j c) % p := by
        unfold elF elAt
        rw [if_pos hij, s2 i c hij, s2 i j hij]
      rw [this]
      by_cases hcj : c = j
      · subst hcj
        rw [s1, Int.mul_one, Int.sub_self, if_neg hij]
        exact Int.zero_emod _
      · rw [s0 c (by omega), Int.mul_zero, Int.sub_zero, hU1 i c hi (by omega)]
        split
        · exact Int.emod_eq_of_lt (by omega) (by omega)
        · exact Int.zero_emod _
  · show 0 ≤ elF _ j j p i c ∧ elF _ j j p i c < p
    unfold elF elAt
    split
    · exact emod_bds _ _ (by omega)
    · unfold scF
      split
      · exact emod_bds _ _ (by omega)
      · exact hf _ _
theorem colE_skip {n j : Nat} {p : Int} {s : ESt} (hk : ¬ fnd s.f j (n - s.t) s.t < n) : colE n p s j = s := by
  unfold colE
  simp only
  rw [if_pos (by omega)]
theorem colE_t (n j : Nat) (p : Int) (s : ESt) : (colE n p s j).t ≤ s.t + 1 := by
  unfold colE
  simp only
  split
  · omega
  · exact Nat.le_refl _
theorem colsE_t (n : Nat) (p : Int) : ∀ m j (s : ESt), (colsE n p m j s).t ≤ s.t + m
  | 0, _, _ => Nat.le_refl _
  | m + 1, j, s => by
    have h1 := colsE_t n p m (j + 1) (colE n p s j)
    have h2 := colE_t n j p s
    show (colsE n p m (j + 1) (colE n p s j)).t ≤ _
    omega
/-- All columns have pivots: the left half is the unit matrix. -/
theorem colsE_unit {n : Nat} {p : Int} {m : Fn2} (hp : isPr p = true) : ∀ q j (s : ESt), j + q = n → s.t = j → (∀ i c, 0 ≤ s.f i c ∧ s.f i c < p) → EI n p m s.f → Un n j s.f → n ≤ (colsE n p q j s).t → EI n p m (colsE n p q j s).f ∧ Un n n (colsE n p q j s).f
  | 0, j, s, hq, ht, hf, hE, hU, hn => by
    obtain rfl : j = n := by omega
    exact ⟨hE, hU⟩
  | q + 1, j, s, hq, ht, hf, hE, hU, hn => by
    obtain ⟨f, t, d⟩ := s
    dsimp only at ht hf hE hU
    subst ht
    have hn' : n ≤ (colsE n p q (t + 1) (colE n p ⟨f, t, d⟩ t)).t := hn
    by_cases hk : fnd f t (n - t) t < n
    · obtain ⟨a, b, c, e⟩ := colE_piv (d := d) hp hf hE hU (by omega) hk
      exact colsE_unit hp q (t + 1) (colE n p ⟨f, t, d⟩ t) (by omega) c e a b hn'
    · rw [colE_skip (s := ⟨f, t, d⟩) hk] at hn'
      have := colsE_t n p q (t + 1) ⟨f, t, d⟩
      dsimp only at this
      omega
/-- What the elimination of the wide matrix leaves: v m and m v are the unit matrix, over residues. -/
theorem wide_inv {n : Nat} {p : Int} {m : Fn2} (hp : isPr p = true) (hm : ∀ i c, 0 ≤ m i c ∧ m i c < p) (hw : ∀ i c, 0 ≤ wideF n m i c ∧ wideF n m i c < p) (hn : n ≤ (runE n n p (wideF n m)).t) :
    ∀ i j, i < n → j < n → p ∣ sumTo (fun k => m i k * (runE n n p (wideF n m)).f k (n + j)) n - (if i = j then 1 else 0) := by
  obtain ⟨hE, hU⟩ := colsE_unit hp n 0 ⟨wideF n m, 0, 1⟩ (by omega) rfl hw (EI.start n p m) (fun i c _ hc => absurd hc (Nat.not_lt_zero _)) hn
  have hE : EI n p m (runE n n p (wideF n m)).f := hE
  have hU : Un n n (runE n n p (wideF n m)).f := hU
  generalize (runE n n p (wideF n m)).f = f at *
  intro i j hi hj
  refine hE.inj (fun i => sumTo (fun k => m i k * f k (n + j)) n - (if i = j then 1 else 0)) (fun a ha => ?_) i hi
  -- v (m v - 1) = (v m - 1) v
  have h1 : sumTo (fun i => f a (n + i) * (sumTo (fun k => m i k * f k (n + j)) n - (if i = j then 1 else 0))) n = sumTo (fun k => sumTo (fun i => f a (n + i) * m i k) n * f k (n + j)) n - f a (n + j) := by
    have e1 : sumTo (fun i => f a (n + i) * (sumTo (fun k => m i k * f k (n + j)) n - (if i = j then 1 else 0))) n = sumTo (fun i => f a (n + i) * sumTo (fun k => m i k * f k (n + j)) n) n - sumTo (fun i => f a (n + i) * (if i = j then 1 else 0)) n := by
      rw [← sumTo_sub]
      exact sumTo_congr n fun k _ => by rw [Int.mul_sub]
    rw [e1, sumTo_one (f := fun i => f a (n + i) * (if i = j then 1 else 0)) n hj (fun k _ hne => by show _ * (if k = j then 1 else 0) = 0; rw [if_neg hne, Int.mul_zero]), if_pos rfl, Int.mul_one]
    have e2 : sumTo (fun i => f a (n + i) * sumTo (fun k => m i k * f k (n + j)) n) n = sumTo (fun i => sumTo (fun k => f a (n + i) * m i k * f k (n + j)) n) n := sumTo_congr n fun k _ => by
      rw [← sumTo_mul']
      exact sumTo_congr n fun l _ => by rw [Int.mul_assoc]
    rw [e2, sumTo_swap]
    congr 1
    exact sumTo_congr n fun k _ => by rw [sumTo_mul]
  rw [h1]
  have h2 : p ∣ sumTo (fun k => sumTo (fun i => f a (n + i) * m i k) n * f k (n + j)) n - sumTo (fun k => (if a = k then 1 else 0) * f k (n + j)) n := dvd_sumTo_sub n fun k hk => by
    rw [← Int.sub_mul]
    have := hE.lin a k ha hk
    rw [hU a k ha hk] at this
    exact Int.dvd_trans (by have := Int.dvd_neg.2 this; rwa [Int.neg_sub] at this) ⟨_, rfl⟩
  rw [sumTo_one (f := fun k => (if a = k then 1 else 0) * f k (n + j)) n ha (fun k _ hne => by show (if a = k then 1 else 0) * _ = 0; rw [if_neg (fun e => hne e.symm), Int.zero_mul]), if_pos rfl, Int.one_mul] at h2
  exact h2
/-- The elimination of two matrices that agree in the columns that it looks at. -/
theorem colE_agree {R C : Nat} {p : Int} {f g : Fn2} {t j : Nat} {d : Int} (h : ∀ i c, c < C → f i c = g i c) (hj : j < C) :
    (∀ i c, c < C → (colE R p ⟨f, t, d⟩ j).f i c = (colE R p ⟨g, t, d⟩ j).f i c) ∧ (colE R p ⟨f, t, d⟩ j).t = (colE R p ⟨g, t, d⟩ j).t ∧ (colE R p ⟨f, t, d⟩ j).d = (colE R p ⟨g, t, d⟩ j).d := by
  have hk : ∀ n k, fnd f j n k = fnd g j n k := fun n => by
    induction n with
    | zero => intro k; rfl
    | succ n ih => intro k; unfold fnd; rw [h k j hj, ih]
  unfold colE
  simp only
  rw [hk]
  generalize fnd g j (R - t) t = k
  have s1 : ∀ i c, c < C → swF f k t i c = swF g k t i c := fun i c hc => h _ c hc
  rw [s1 t j hj]
  split
  · exact ⟨h, rfl, rfl⟩
  · refine ⟨fun i c hc => ?_, rfl, rfl⟩
    have s2 : ∀ i c, c < C → scF (swF f k t) t (invOf (swF g k t t j) p) p i c = scF (swF g k t) t (invOf (swF g k t t j) p) p i c := fun i c hc => by
      unfold scF
      rw [s1 t c hc, s1 i c hc]
    show elF _ t j p i c = elF _ t j p i c
    unfold elF elAt
    rw [s2 i c hc, s2 i j hj, s2 t c hc]
theorem colsE_agree {R C : Nat} {p : Int} : ∀ q j (f g : Fn2) (t : Nat) (d : Int), j + q ≤ C → (∀ i c, c < C → f i c = g i c) →
    (colsE R p q j ⟨f, t, d⟩).t = (colsE R p q j ⟨g, t, d⟩).t ∧ (colsE R p q j ⟨f, t, d⟩).d = (colsE R p q j ⟨g, t, d⟩).d
  | 0, j, f, g, t, d, _, _ => ⟨rfl, rfl⟩
  | q + 1, j, f, g, t, d, hq, h => by
    obtain ⟨a, b, c⟩ := colE_agree (R := R) (p := p) (t := t) (d := d) h (show j < C by omega)
    show (colsE R p q (j + 1) (colE R p ⟨f, t, d⟩ j)).t = (colsE R p q (j + 1) (colE R p ⟨g, t, d⟩ j)).t ∧ (colsE R p q (j + 1) (colE R p ⟨f, t, d⟩ j)).d = (colsE R p q (j + 1) (colE R p ⟨g, t, d⟩ j)).d
    generalize colE R p ⟨f, t, d⟩ j = s at *
    generalize colE R p ⟨g, t, d⟩ j = s' at *
    obtain ⟨f1, t1, d1⟩ := s
    obtain ⟨f2, t2, d2⟩ := s'
    dsimp only at a b c
    subst b; subst c
    exact colsE_agree q (j + 1) f1 f2 t1 d1 (by omega) a
theorem wide_t (n : Nat) (p : Int) (m : Fn2) : (runE n n p (wideF n m)).t = (runE n n p m).t :=
  (colsE_agree (R := n) (C := n) n 0 (wideF n m) m 0 1 (by omega) fun i c hc => by unfold wideF; rw [if_pos hc]).1
/-- The determinant's residue is not 0 if all columns have pivots. -/
theorem colE_d {R : Nat} {p : Int} {s : ESt} (hp : isPr p = true) (hf : EOk R p s) (hd : s.d ≠ 0) (j : Nat) : (colE R p s j).d ≠ 0 := by
  have hp2 := isPr_bds hp
  unfold colE
  simp only
  split
  · exact hd
  · rename_i hk
    have hk2 := fnd_le s.f j (R - s.t) s.t
    have hne := fnd_ne s.f j (R - s.t) s.t (by omega)
    show (if _ then _ else _) * _ % p ≠ 0
    rw [swF_t]
    intro h0
    have hb := hf.f0 (fnd s.f j (R - s.t) s.t) j
    have hdb := hf.d0
    have hd2 : ∀ x : Int, p ∣ x → 0 < x → x < p → False := fun x hx h1 h2 => by have := Int.le_of_dvd h1 hx; omega
    rcases pr_mul hp (Int.dvd_of_emod_eq_zero h0) with h1 | h1
    · split at h1
      · exact hd2 _ h1 (by omega) hdb.2
      · have h3 : p ∣ s.d := by
          have := Int.dvd_sub h1 (dvd_emod (-s.d) p)
          have e : (-s.d) % p - ((-s.d) % p - -s.d) = -s.d := by omega
          rw [e] at this
          exact Int.dvd_neg.1 this
        exact hd2 _ h3 (by omega) hdb.2
    · exact hd2 _ h1 (by omega) hb.2
theorem colsE_d {R : Nat} {p : Int} (hp : isPr p = true) : ∀ n j (s : ESt), EOk R p s → s.d ≠ 0 → (colsE R p n j s).d ≠ 0
  | 0, _, _, _, h => h
  | n + 1, j, s, ho, h => colsE_d hp n (j + 1) (colE R p s j) (colE_ok (isPr_bds hp).1 ho j) (colE_d hp ho h j)
end Go.Proofs.Ytacjonkehcamgaa

/-
  DERIVED. A matrix times a list, over residues. No program in sight.
-/
namespace Go.Proofs.Ytacjonkehcamgaa
set_option linter.unusedVariables false
/-- The sum of the first k products, as a residue. -/
def smS (f : Nat → Nat → Int) (bs : List Int) (p : Int) (i : Nat) : Nat → Int
  | 0 => 0
  | k + 1 => (smS f bs p i k + f i k * (bs.getD k 0 % p)) % p
theorem smS_bd {f : Nat → Nat → Int} {bs : List Int} {p : Int} (hp : 2 ≤ p) (i : Nat) : ∀ k, 0 ≤ smS f bs p i k ∧ smS f bs p i k < p
  | 0 => by unfold smS; omega
  | k + 1 => by unfold smS; exact emod_bds _ _ (by omega)
def smL (R L : Nat) (f : Nat → Nat → Int) (bs : List Int) (p : Int) : List Int := tab R fun i => smS f bs p i L
theorem smL_len (R L : Nat) (f : Nat → Nat → Int) (bs : List Int) (p : Int) : (smL R L f bs p).length = R := tab_len _ _
def smB (r c : Int) (xs bs : List Int) (p : Int) : Bool := imB r c xs p && decide ((bs.length : Int) = r) && bs.all isNum
def smV (r c : Int) (xs bs : List Int) (p : Int) : List Int := if smB r c xs bs p then smL r.toNat r.toNat (fun i j => (imS r c xs p).f i (r.toNat + j)) bs p else []
theorem sm_cases (r c : Int) (xs bs : List Int) (p : Int) : (imB r c xs p = false ∧ smB r c xs bs p = false) ∨ (imB r c xs p = true ∧ ((bs.length : Int) != r) = true ∧ smB r c xs bs p = false) ∨
    (imB r c xs p = true ∧ ((bs.length : Int) != r) = false ∧ bs.all isNum = false ∧ smB r c xs bs p = false) ∨ (imB r c xs p = true ∧ ((bs.length : Int) != r) = false ∧ bs.all isNum = true ∧ smB r c xs bs p = true) := by
  unfold smB
  rcases imB r c xs p with _ | _
  · left; simp
  · right
    by_cases h : (bs.length : Int) = r
    · right
      rcases hb : bs.all isNum with _ | _
      · left; simp [h]
      · right; simp [h]
    · left; simp [h]
theorem smV_no {r c : Int} {xs bs : List Int} {p : Int} (h : smB r c xs bs p = false) : smV r c xs bs p = [] := by unfold smV; rw [h]; rfl
theorem smV_yes {r c : Int} {xs bs : List Int} {p : Int} (h : smB r c xs bs p = true) : smV r c xs bs p = smL r.toNat r.toNat (fun i j => (imS r c xs p).f i (r.toNat + j)) bs p := by unfold smV; rw [h]; rfl
/-- What holds where there is an inverse. -/
structure ImOk (r c : Int) (xs : List Int) (p : Int) : Prop where
  r0 : 0 ≤ r
  r1 : r ≤ 12
  p1 : 2 ≤ p
  p2 : p ≤ 10000
  f0 : ∀ i j : Nat, 0 ≤ (imS r c xs p).f i j ∧ (imS r c xs p).f i j < p
theorem imOk_of {r c : Int} {xs : List Int} {p : Int} (h : imB r c xs p = true) : ImOk r c xs p := by
  rcases im_cases r c xs p with ⟨_, hi⟩ | ⟨_, _, hi⟩ | ⟨_, _, _, hi⟩ | ⟨hb, hrc, h12, hi⟩
  iterate 3
    · rw [hi] at h; cases h
  · have K := redOk hb
    have h0 := K.m.r0
    refine ⟨K.m.r0, h12, K.pb.1, K.pb.2, ?_⟩
    have := colsE_ok (R := r.toNat) K.pb.1 r.toNat 0 ⟨wideF r.toNat (rmF c xs p), 0, 1⟩ ⟨wideF_bd K.pb.1 K.f0, Nat.zero_le _, by show (0 : Int) ≤ 1 ∧ (1 : Int) < p; have := K.pb.1; omega⟩
    exact this.f0
theorem smV_len (r c : Int) (xs bs : List Int) (p : Int) : (smV r c xs bs p).length ≤ 1048576 := by
  rcases hb : smB r c xs bs p with _ | _
  · rw [smV_no hb]; exact Nat.zero_le _
  · rw [smV_yes hb, smL_len]
    have h1 : imB r c xs p = true := by
      unfold smB at hb
      rcases h : imB r c xs p with _ | _
      · rw [h] at hb; simp at hb
      · rfl
    have K := imOk_of h1
    have h2 := K.r1
    omega
end Go.Proofs.Ytacjonkehcamgaa

/-
  DERIVED. InverseMod, DeterminantMod, SolveMod together: no program in sight.
-/
namespace Go.Proofs.Ytacjonkehcamgaa
set_option linter.unusedVariables false
/-- The inverse, place by place. -/
def imV (R : Nat) (xs : List Int) (p : Int) : Fn2 := fun i j => (imS R R xs p).f i (R + j)
theorem im_parts {r c : Int} {xs : List Int} {p : Int} (h : imB r c xs p = true) : ∃ R : Nat, r = R ∧ c = R ∧ R ≤ 12 ∧ redB R R xs p = true ∧ R ≤ (imS R R xs p).t := by
  rcases im_cases r c xs p with ⟨_, hi⟩ | ⟨_, _, hi⟩ | ⟨_, _, _, hi⟩ | ⟨hb, hrc, h12, hi⟩
  iterate 3
    · rw [hi] at h; cases h
  · have K := redOk hb
    obtain ⟨R, rfl⟩ := nat_of K.m.r0
    subst hrc
    refine ⟨R, rfl, rfl, by omega, hb, ?_⟩
    unfold imB at h
    rw [Bool.and_eq_true, decide_eq_true_eq] at h
    omega
/-- m v is the unit matrix, over residues. -/
theorem im_right {R : Nat} {xs : List Int} {p : Int} (hb : redB R R xs p = true) (ht : R ≤ (imS R R xs p).t) {i j : Nat} (hi : i < R) (hj : j < R) : p ∣ sumTo (fun k => rmF R xs p i k * imV R xs p k j) R - (if i = j then 1 else 0) := by
  have K := redOk hb
  exact wide_inv (m := rmF R xs p) K.pr K.f0 (wideF_bd K.pb.1 K.f0) ht i j hi hj
theorem im_prod {R : Nat} {xs : List Int} {p : Int} (hb : redB R R xs p = true) (ht : R ≤ (imS R R xs p).t) {i j : Nat} (hi : i < R) (hj : j < R) : sumTo (fun k => rmF R xs p i k * imV R xs p k j) R % p = idF i j := by
  have hp := (redOk hb).pb
  obtain ⟨q, hq⟩ := im_right hb ht hi hj
  have : sumTo (fun k => rmF R xs p i k * imV R xs p k j) R = (if i = j then 1 else 0) + p * q := by omega
  rw [this, Int.add_mul_emod_self_left]
  unfold idF
  split
  · exact Int.emod_eq_of_lt (by omega) (by omega)
  · exact Int.zero_emod _
/-- Where there is no inverse, the determinant's residue is 0. -/
theorem im_none {r c : Int} {xs : List Int} {p : Int} (h : imB r c xs p = false) (hr : r ≤ 12) : detMB r c xs p = false ∨ detM r c xs p = 0 := by
  rcases im_cases r c xs p with ⟨hb, _⟩ | ⟨hb, hne, _⟩ | ⟨_, _, h12, _⟩ | ⟨hb, hrc, h12, _⟩
  · left; unfold detMB; rw [hb]; rfl
  · left
    unfold detMB
    rw [hb, Bool.true_and]
    simpa using hne
  · omega
  · right
    have K := redOk hb
    obtain ⟨R, rfl⟩ := nat_of K.m.r0
    subst hrc
    unfold imB at h
    have hok : imOk (R : Int) (R : Int) xs p = true := by unfold imOk; rw [hb]; simp; omega
    rw [hok, Bool.true_and, decide_eq_false_iff_not] at h
    have e : (imS R R xs p).t = (rmS R R xs p).t := wide_t R p (rmF R xs p)
    unfold detM
    split
    · rw [if_pos (by omega)]
    · rfl
/-- Where there is one, it is not. -/
theorem im_some {r c : Int} {xs : List Int} {p : Int} (h : imB r c xs p = true) : detMB r c xs p = true ∧ detM r c xs p ≠ 0 := by
  obtain ⟨R, rfl, rfl, h12, hb, ht⟩ := im_parts h
  have K := redOk hb
  have e : (imS R R xs p).t = (rmS R R xs p).t := wide_t R p (rmF R xs p)
  have hm : detMB (R : Int) (R : Int) xs p = true := by unfold detMB; rw [hb]; simp
  refine ⟨hm, ?_⟩
  unfold detM
  rw [if_pos hm, if_neg (by omega)]
  exact colsE_d K.pr _ 0 ⟨rmF R xs p, 0, 1⟩ ⟨K.f0, Nat.zero_le _, by show (0 : Int) ≤ 1 ∧ (1 : Int) < p; have := K.pb; omega⟩ (by show (1 : Int) ≠ 0; decide)
theorem smS_dvd {f : Fn2} {bs : List Int} {p : Int} (i : Nat) : ∀ k, p ∣ smS f bs p i k - sumTo (fun l => f i l * bs.getD l 0) k
  | 0 => by show p ∣ (0 : Int) - 0; rw [Int.sub_zero]; exact Int.dvd_zero _
  | k + 1 => by
    have ih := smS_dvd (f := f) (bs := bs) (p := p) i k
    show p ∣ (smS f bs p i k + f i k * (bs.getD k 0 % p)) % p - (sumTo (fun l => f i l * bs.getD l 0) k + f i k * bs.getD k 0)
    generalize smS f bs p i k = s at *
    generalize sumTo (fun l => f i l * bs.getD l 0) k = S at *
    generalize bs.getD k 0 = b at *
    have d1 := dvd_emod (s + f i k * (b % p)) p
    have d2 : p ∣ f i k * (b % p - b) := Int.dvd_trans (dvd_emod b p) ⟨f i k, by rw [Int.mul_comm]⟩
    have e : (s + f i k * (b % p)) % p - (S + f i k * b) = ((s + f i k * (b % p)) % p - (s + f i k * (b % p))) + (s - S) + f i k * (b % p - b) := by grind
    rw [e]
    exact Int.dvd_add (Int.dvd_add d1 ih) d2
/-- The law's own loop: the residue of what is left. -/
def imN (p n0 : Int) (m x : Nat → Int) : Nat → Int
  | 0 => n0
  | j + 1 => (imN p n0 m x j + (m j).tmod p * x j).tmod p
theorem dvd_tmod (a p : Int) : p ∣ a.tmod p - a := ⟨-(a.tdiv p), by have := Int.tmod_add_mul_tdiv a p; rw [Int.mul_neg]; omega⟩
theorem imN_dvd {p n0 : Int} {m x : Nat → Int} : ∀ j, p ∣ imN p n0 m x j - (n0 + sumTo (fun k => m k * x k) j)
  | 0 => by show p ∣ n0 - (n0 + 0); rw [Int.add_zero, Int.sub_self]; exact Int.dvd_zero _
  | j + 1 => by
    have ih := imN_dvd (p := p) (n0 := n0) (m := m) (x := x) j
    show p ∣ (imN p n0 m x j + (m j).tmod p * x j).tmod p - (n0 + (sumTo (fun k => m k * x k) j + m j * x j))
    generalize imN p n0 m x j = s at *
    generalize sumTo (fun k => m k * x k) j = S at *
    have d1 := dvd_tmod (s + (m j).tmod p * x j) p
    have d2 : p ∣ ((m j).tmod p - m j) * x j := Int.dvd_trans (dvd_tmod (m j) p) ⟨x j, rfl⟩
    have e : (s + (m j).tmod p * x j).tmod p - (n0 + (S + m j * x j)) = ((s + (m j).tmod p * x j).tmod p - (s + (m j).tmod p * x j)) + (s - (n0 + S)) + ((m j).tmod p - m j) * x j := by grind
    rw [e]
    exact Int.dvd_add (Int.dvd_add d1 ih) d2
theorem imN_zero {p n0 : Int} {m x : Nat → Int} {R : Nat} (hR : 0 < R) (h : p ∣ n0 + sumTo (fun k => m k * x k) R) : imN p n0 m x R = 0 := by
  obtain ⟨q, rfl⟩ : ∃ q, R = q + 1 := ⟨R - 1, by omega⟩
  have h1 := Int.dvd_add (imN_dvd (p := p) (n0 := n0) (m := m) (x := x) (q + 1)) h
  rw [Int.sub_add_cancel] at h1
  have h2 : p ∣ imN p n0 m x q + (m q).tmod p * x q := by
    have d1 := dvd_tmod (imN p n0 m x q + (m q).tmod p * x q) p
    have e : imN p n0 m x q + (m q).tmod p * x q = imN p n0 m x (q + 1) - ((imN p n0 m x q + (m q).tmod p * x q).tmod p - (imN p n0 m x q + (m q).tmod p * x q)) := by
      show _ = (imN p n0 m x q + (m q).tmod p * x q).tmod p - _
      omega
    rw [e]
    exact Int.dvd_sub h1 d1
  exact Int.tmod_eq_zero_of_dvd h2
/-- The solution that SolveMod finds solves. -/
theorem sm_solves {R : Nat} {xs bs : List Int} {p : Int} (hb : redB R R xs p = true) (ht : R ≤ (imS R R xs p).t) {i : Nat} (hi : i < R) :
    p ∣ sumTo (fun j => cel xs R i j * smS (imV R xs p) bs p j R) R - bs.getD i 0 := by
  have K := redOk hb
  -- m x = m (v b) = b
  have h1 : p ∣ sumTo (fun j => cel xs R i j * smS (imV R xs p) bs p j R) R - sumTo (fun j => rmF R xs p i j * sumTo (fun k => imV R xs p j k * bs.getD k 0) R) R := dvd_sumTo_sub R fun j hj => by
    have d1 : p ∣ rmF R xs p i j - cel xs R i j := by
      have M := K.m
      have e : rmF R xs p i j = cel xs R i j % p := by
        unfold rmF
        rw [Int.toNat_natCast, cel_nat, cel_nat]
        unfold redL
        have hl : xs.length = R * R := by have := M.len; rw [← Int.natCast_mul] at this; omega
        have := idx_nat hi hj
        simp [List.getD, show i * R + j < xs.length by omega]
      rw [e]
      exact dvd_emod _ _
    have d2 := smS_dvd (f := imV R xs p) (bs := bs) (p := p) j R
    generalize smS (imV R xs p) bs p j R = s at *
    generalize sumTo (fun l => imV R xs p j l * bs.getD l 0) R = S at *
    generalize rmF R xs p i j = a at *
    generalize cel xs R i j = b at *
    have e : b * s - a * S = b * (s - S) - (a - b) * S := by grind
    rw [e]
    exact Int.dvd_sub (Int.dvd_trans d2 ⟨b, by rw [Int.mul_comm]⟩) (Int.dvd_trans d1 ⟨S, rfl⟩)
  have h2 : sumTo (fun j => rmF R xs p i j * sumTo (fun k => imV R xs p j k * bs.getD k 0) R) R = sumTo (fun k => sumTo (fun j => rmF R xs p i j * imV R xs p j k) R * bs.getD k 0) R := by
    have e1 : sumTo (fun j => rmF R xs p i j * sumTo (fun k => imV R xs p j k * bs.getD k 0) R) R = sumTo (fun j => sumTo (fun k => rmF R xs p i j * imV R xs p j k * bs.getD k 0) R) R := sumTo_congr R fun j _ => by
      rw [← sumTo_mul']
      exact sumTo_congr R fun k _ => by rw [Int.mul_assoc]
    rw [e1, sumTo_swap]
    exact sumTo_congr R fun k _ => by rw [sumTo_mul]
  have h3 : p ∣ sumTo (fun k => sumTo (fun j => rmF R xs p i j * imV R xs p j k) R * bs.getD k 0) R - sumTo (fun k => (if i = k then 1 else 0) * bs.getD k 0) R := dvd_sumTo_sub R fun k hk => by
    rw [← Int.sub_mul]
    exact Int.dvd_trans (im_right hb ht hi hk) ⟨_, rfl⟩
  rw [sumTo_one (f := fun k => (if i = k then 1 else 0) * bs.getD k 0) R hi (fun k _ hne => by show (if i = k then 1 else 0) * _ = 0; rw [if_neg (fun e => hne e.symm), Int.zero_mul]), if_pos rfl, Int.one_mul, ← h2] at h3
  have := Int.dvd_add h1 h3
  have e : ∀ a b c : Int, a - b + (b - c) = a - c := fun a b c => by omega
  rwa [e] at this
end Go.Proofs.Ytacjonkehcamgaa

/-
  DERIVED. The inverse over residues: the wide matrix, the part at the right. No program in sight.
-/
import Derived.Test.YtfiilpamekpmpaaPlainQ
import Derived.Test.YtfiilpamekpmpaaRankI
namespace Go.Proofs.Ytfiilpamekpmpaa
set_option linter.unusedVariables false
theorem splL_get {xs ys : List Int} {off q : Nat} (h : off + ys.length ≤ xs.length) : (splL xs off ys).getD q 0 = if off ≤ q ∧ q < off + ys.length then ys.getD (q - off) 0 else xs.getD q 0 := by
  by_cases h1 : off ≤ q ∧ q < off + ys.length
  · rw [if_pos h1]
    have := splL_getD (xs := xs) (ys := ys) (off := off) (k := q - off) h (by omega)
    rw [show off + (q - off) = q by omega] at this
    exact this
  · rw [if_neg h1]
    have htl : (xs.take off).length = off := by rw [List.length_take]; omega
    unfold splL
    simp only [List.getD]
    congr 1
    by_cases h2 : q < off
    · rw [List.append_assoc, List.getElem?_append_left (by omega), List.getElem?_take_of_lt h2]
    · rw [List.getElem?_append_right (by rw [List.length_append, htl]; omega), List.getElem?_drop, List.length_append, htl]
      congr 1
      omega
/-- Row i anew from place o on. -/
def setW (f : Nat → Nat → Int) (i o : Nat) (ys : List Int) : Nat → Nat → Int := fun a c => if a = i ∧ o ≤ c ∧ c < o + ys.length then ys.getD (c - o) 0 else f a c
theorem spl_tbo {R C i o : Nat} {f : Nat → Nat → Int} {ys : List Int} (hi : i < R) (hy : o + ys.length ≤ C) : splL (tb R C f) (i * C + o) ys = tb R C (setW f i o ys) := by
  have hl : i * C + C ≤ R * C := by
    have h3 := Nat.mul_le_mul_right C (show i + 1 ≤ R by omega); rw [Nat.add_mul, Nat.one_mul] at h3; exact h3
  have hf : i * C + o + ys.length ≤ (tb R C f).length := by rw [tb_len]; omega
  have hlen : (splL (tb R C f) (i * C + o) ys).length = R * C := by rw [splL_len hf, tb_len]
  rw [tb_of hlen]
  apply tb_ext
  intro a c ha hc
  rw [cel_nat, splL_get hf]
  unfold setW
  rcases Nat.lt_trichotomy a i with h | h | h
  · have h3 := Nat.mul_le_mul_right C (show a + 1 ≤ i by omega)
    rw [Nat.add_mul, Nat.one_mul] at h3
    rw [if_neg (by omega), if_neg (by omega), tb_at ha hc]
  · subst h
    by_cases h4 : o ≤ c ∧ c < o + ys.length
    · rw [if_pos (by omega), if_pos ⟨rfl, h4⟩]
      congr 1
      omega
    · rw [if_neg (by omega), if_neg (by omega), tb_at ha hc]
  · have h3 := Nat.mul_le_mul_right C (show i + 1 ≤ a by omega)
    rw [Nat.add_mul, Nat.one_mul] at h3
    rw [if_neg (by omega), if_neg (by omega), tb_at ha hc]
/-- f and, at its right, ones in the diagonal. -/
def wideF (n : Nat) (f : Nat → Nat → Int) : Nat → Nat → Int := fun i c => if c < n then f i c else if c = n + i then 1 else 0
/-- The first m rows of it, zeros below. -/
def wK (n : Nat) (f : Nat → Nat → Int) (m : Nat) : Nat → Nat → Int := fun i c => if i < m then wideF n f i c else 0
/-- Row m, too, up to cell k of f. -/
def wR (n : Nat) (f : Nat → Nat → Int) (m k : Nat) : Nat → Nat → Int := fun i c => if i < m then wideF n f i c else if i = m ∧ c < k then f i c else 0
theorem wK_zero (n : Nat) (f : Nat → Nat → Int) : wK n f 0 = fun _ _ => 0 := by funext i c; simp [wK]
theorem wK_end {R C : Nat} (n : Nat) (f : Nat → Nat → Int) : tb R C (wK n f R) = tb R C (wideF n f) := tb_ext fun i c hi hc => by unfold wK; rw [if_pos hi]
theorem wR_zero (n : Nat) (f : Nat → Nat → Int) (m : Nat) : wR n f m 0 = wK n f m := by funext i c; unfold wR wK; grind
theorem wR_step {n : Nat} {f : Nat → Nat → Int} {m k : Nat} : upd (wR n f m k) m k (f m k) = wR n f m (k + 1) := by funext i c; unfold upd wR; grind
theorem wR_end {n : Nat} {f : Nat → Nat → Int} {m : Nat} : upd (wR n f m n) m (n + m) 1 = wK n f (m + 1) := by funext i c; unfold upd wR wK wideF; grind
theorem wR_row {n D m : Nat} {f : Nat → Nat → Int} (hm : m < n) (hD : n ≤ D) : splL (tb n D (wK n f m)) (m * D) (rowL (tb n n f) n m) = tb n D (wR n f m n) := by
  have hl : m * n + n ≤ n * n := by
    have h3 := Nat.mul_le_mul_right n (show m + 1 ≤ n by omega); rw [Nat.add_mul, Nat.one_mul] at h3; exact h3
  have hlen : (rowL (tb n n f) n m).length = n := rowL_len (by rw [tb_len]; exact hl)
  have := spl_tbo (R := n) (C := D) (i := m) (o := 0) (f := wK n f m) (ys := rowL (tb n n f) n m) hm (by omega)
  rw [Nat.add_zero] at this
  rw [this]
  apply tb_ext
  intro i c hi hc
  unfold setW wR
  by_cases h : i = m ∧ c < n
  · obtain ⟨rfl, h2⟩ := h
    rw [if_pos (by omega), if_neg (by omega), if_pos ⟨rfl, h2⟩, Nat.sub_zero, rowL_getD h2, cel_tb hi h2]
  · rw [if_neg (by omega)]
    unfold wK
    grind
theorem tb_zeros (R C : Nat) : tb R C (fun _ _ => 0) = List.replicate (R * C) 0 := by
  unfold tb tab
  apply List.ext_getElem?
  intro i
  by_cases h : i < R * C <;> simp [h]
/-- The first m rows of g, from column n on; zeros below. -/
def oK (n : Nat) (g : Nat → Nat → Int) (m : Nat) : Nat → Nat → Int := fun i c => if i < m then g i (n + c) else 0
def oR (n : Nat) (g : Nat → Nat → Int) (m k : Nat) : Nat → Nat → Int := fun i c => if i < m ∨ i = m ∧ c < k then g i (n + c) else 0
theorem oK_zero (n : Nat) (g : Nat → Nat → Int) : oK n g 0 = fun _ _ => 0 := by funext i c; simp [oK]
theorem oK_end {R C : Nat} (n : Nat) (g : Nat → Nat → Int) : tb R C (oK n g R) = tb R C (fun i c => g i (n + c)) := tb_ext fun i c hi hc => by unfold oK; rw [if_pos hi]
theorem oR_zero (n : Nat) (g : Nat → Nat → Int) (m : Nat) : oR n g m 0 = oK n g m := by funext i c; unfold oR oK; grind
theorem oR_step {n : Nat} {g : Nat → Nat → Int} {m k : Nat} : upd (oR n g m k) m k (g m (n + k)) = oR n g m (k + 1) := by funext i c; unfold upd oR; grind
theorem oR_end {R n : Nat} {g : Nat → Nat → Int} {m : Nat} : tb R n (oR n g m n) = tb R n (oK n g (m + 1)) := tb_ext fun i c hi hc => by unfold oR oK; grind
theorem oK_row {n D m : Nat} {g : Nat → Nat → Int} (hm : m < n) (hD : n + n ≤ D) : splL (tb n n (oK n g m)) (m * n) (winL (tb n D g) (m * D + n) n) = tb n n (oK n g (m + 1)) := by
  have hl : m * D + D ≤ n * D := by
    have h3 := Nat.mul_le_mul_right D (show m + 1 ≤ n by omega); rw [Nat.add_mul, Nat.one_mul] at h3; exact h3
  have hlen : (winL (tb n D g) (m * D + n) n).length = n := winL_len (by rw [tb_len]; omega)
  rw [spl_tb hm hlen]
  apply tb_ext
  intro i c hi hc
  unfold setR oK
  by_cases h : i = m
  · subst h
    rw [if_pos rfl, if_pos (by omega), winL_getD hc, Nat.add_assoc, tb_at hi (by omega)]
  · rw [if_neg h]
    grind
/-- Whether there is something to invert. -/
def imOk (r c : Int) (xs : List Int) (p : Int) : Bool := redB r c xs p && decide (r = c) && decide (r ≤ 12)
def imS (r c : Int) (xs : List Int) (p : Int) : ESt := runE r.toNat r.toNat p (wideF r.toNat (rmF c xs p))
def imB (r c : Int) (xs : List Int) (p : Int) : Bool := imOk r c xs p && decide (r ≤ (imS r c xs p).t)
def imM (r c : Int) (xs : List Int) (p : Int) : Mx := if imB r c xs p then ⟨r, r, tb r.toNat r.toNat (fun i j => (imS r c xs p).f i (r.toNat + j))⟩ else .none
theorem im_cases (r c : Int) (xs : List Int) (p : Int) : (redB r c xs p = false ∧ imB r c xs p = false) ∨ (redB r c xs p = true ∧ (r != c) = true ∧ imB r c xs p = false) ∨ (redB r c xs p = true ∧ r = c ∧ 12 < r ∧ imB r c xs p = false) ∨
    (redB r c xs p = true ∧ r = c ∧ r ≤ 12 ∧ imB r c xs p = decide (r ≤ (imS r c xs p).t)) := by
  unfold imB imOk
  rcases redB r c xs p with _ | _
  · left; simp
  · right
    by_cases h : r = c
    · right
      by_cases h2 : r ≤ 12
      · right; exact ⟨rfl, h, h2, by simp [h, show c ≤ 12 by omega]⟩
      · left; exact ⟨rfl, h, by omega, by simp [h, show ¬ c ≤ 12 by omega]⟩
    · left; simp [h]
theorem imM_no {r c : Int} {xs : List Int} {p : Int} (h : imB r c xs p = false) : imM r c xs p = .none := by unfold imM; rw [h]; rfl
theorem imM_yes {r c : Int} {xs : List Int} {p : Int} (h : imB r c xs p = true) : imM r c xs p = ⟨r, r, tb r.toNat r.toNat (fun i j => (imS r c xs p).f i (r.toNat + j))⟩ := by unfold imM; rw [h]; rfl
theorem imM_len (r c : Int) (xs : List Int) (p : Int) : (imM r c xs p).xs.length ≤ 1048576 := by
  rcases im_cases r c xs p with ⟨_, hi⟩ | ⟨_, _, hi⟩ | ⟨_, _, _, hi⟩ | ⟨hb, _, h12, hi⟩
  iterate 3
    · rw [imM_no hi]; exact Nat.zero_le _
  · rcases hv : imB r c xs p with _ | _
    · rw [imM_no hv]; exact Nat.zero_le _
    · rw [imM_yes hv]
      have h1 := (redOk hb).m.r0
      obtain ⟨R, rfl⟩ := nat_of h1
      have : R * R ≤ 12 * 12 := Nat.mul_le_mul (by omega) (by omega)
      simp only [Int.toNat_natCast, tb_len]
      omega
theorem wideF_bd {n : Nat} {f : Nat → Nat → Int} {p : Int} (hp : 2 ≤ p) (hf : ∀ i c : Nat, 0 ≤ f i c ∧ f i c < p) (i c : Nat) : 0 ≤ wideF n f i c ∧ wideF n f i c < p := by
  unfold wideF
  split
  · exact hf i c
  · split <;> omega
end Go.Proofs.Ytfiilpamekpmpaa

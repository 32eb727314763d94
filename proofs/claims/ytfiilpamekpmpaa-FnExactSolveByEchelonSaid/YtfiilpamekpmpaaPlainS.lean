/-
  DERIVED. Solutions read off an echelon form. No program in sight.
-/
import Derived.Test.YtfiilpamekpmpaaEchL
import Derived.Test.YtfiilpamekpmpaaPlainU
import Derived.Test.YtfiilpamekpmpaaPlainA
import Derived.Test.YtfiilpamekpmpaaSq
namespace Go.Proofs.Ytfiilpamekpmpaa
set_option linter.unusedVariables false
/-- The pivots so far: number k is at least k, and less than j. -/
def PInv (j : Nat) (ps : List Int) : Prop := ∀ k, k < ps.length → (k : Int) ≤ ps.getD k 0 ∧ ps.getD k 0 < (j : Int)
theorem PInv.len {j : Nat} {ps : List Int} (h : PInv j ps) : ps.length ≤ j := by
  rcases Nat.eq_zero_or_pos ps.length with h0 | h0
  · omega
  · have := h (ps.length - 1) (by omega)
    omega
theorem PInv.add {j : Nat} {ps : List Int} (h : PInv j ps) : PInv (j + 1) (ps ++ [(j : Int)]) := by
  intro k hk
  have hl := h.len
  rw [List.length_append] at hk
  simp at hk
  by_cases h1 : k < ps.length
  · have h2 := h k h1
    have e : (ps ++ [(j : Int)]).getD k 0 = ps.getD k 0 := by simp [List.getD, List.getElem?_append_left h1]
    rw [e]; omega
  · obtain rfl : k = ps.length := by omega
    have e : (ps ++ [(j : Int)]).getD ps.length 0 = (j : Int) := by simp [List.getD]
    rw [e]; omega
theorem PInv.more {j : Nat} {ps : List Int} (h : PInv j ps) : PInv (j + 1) ps := fun k hk => by have := h k hk; omega
theorem colsQ_inv {R C : Nat} : ∀ (n j : Nat) (s s' : QSt), PInv j s.ps → colsQ R C n j s = some s' → PInv (j + n) s'.ps
  | 0, j, s, s', hs, h => by
    unfold colsQ at h
    injection h with h
    subst h; exact hs
  | n + 1, j, s, s', hs, h => by
    unfold colsQ at h
    rw [show j + (n + 1) = j + 1 + n by omega]
    split at h
    · exact colsQ_inv n (j + 1) s s' hs.more h
    · split at h
      · cases h
      · exact colsQ_inv n (j + 1) _ s' hs.add h
/-- The matrix with b as its last column. -/
def augF (R : Nat) (f : Nat → Nat → Int) (bs : List Int) : Nat → Nat → Int := fun i j => if j < R then f i j else bs.getD i 0
def aK (R : Nat) (f : Nat → Nat → Int) (bs : List Int) (m : Nat) : Nat → Nat → Int := fun i c => if i < m then augF R f bs i c else 0
def aR (R : Nat) (f : Nat → Nat → Int) (bs : List Int) (m k : Nat) : Nat → Nat → Int := fun i c => if i < m then augF R f bs i c else if i = m ∧ c < k then f i c else 0
theorem aK_zero (R : Nat) (f : Nat → Nat → Int) (bs : List Int) : aK R f bs 0 = fun _ _ => 0 := by funext i c; simp [aK]
theorem aK_end {R : Nat} (f : Nat → Nat → Int) (bs : List Int) : tb R (R + 1) (aK R f bs R) = tb R (R + 1) (augF R f bs) := tb_ext fun i c hi hc => by unfold aK; rw [if_pos hi]
theorem aR_zero (R : Nat) (f : Nat → Nat → Int) (bs : List Int) (m : Nat) : aR R f bs m 0 = aK R f bs m := by funext i c; unfold aR aK; grind
theorem aR_step {R : Nat} {f : Nat → Nat → Int} {bs : List Int} {m k : Nat} : upd (aR R f bs m k) m k (f m k) = aR R f bs m (k + 1) := by funext i c; unfold upd aR; grind
theorem aR_end {R : Nat} {f : Nat → Nat → Int} {bs : List Int} {m : Nat} : tb R (R + 1) (upd (aR R f bs m R) m R (bs.getD m 0)) = tb R (R + 1) (aK R f bs (m + 1)) := tb_ext fun i c hi hc => by unfold upd aR aK augF; grind
theorem aR_row {R m : Nat} {f : Nat → Nat → Int} {bs : List Int} (hm : m < R) : splL (tb R (R + 1) (aK R f bs m)) (m * (R + 1)) (rowL (tb R R f) R m) = tb R (R + 1) (aR R f bs m R) := by
  have hl : m * R + R ≤ R * R := by
    have h3 := Nat.mul_le_mul_right R (show m + 1 ≤ R by omega); rw [Nat.add_mul, Nat.one_mul] at h3; exact h3
  have hlen : (rowL (tb R R f) R m).length = R := rowL_len (by rw [tb_len]; exact hl)
  have h0 : splL (tb R (R + 1) (aK R f bs m)) (m * (R + 1)) (rowL (tb R R f) R m) = _ := spl_tbo (R := R) (C := R + 1) (i := m) (o := 0) (f := aK R f bs m) (ys := rowL (tb R R f) R m) hm (by omega)
  rw [h0]
  apply tb_ext
  intro i c hi hc
  unfold setW aR
  by_cases h : i = m ∧ c < R
  · obtain ⟨rfl, h2⟩ := h
    rw [if_pos (by omega), if_neg (by omega), if_pos ⟨rfl, h2⟩, Nat.sub_zero, rowL_getD h2, cel_tb hi h2]
  · rw [if_neg (by omega)]
    unfold aK
    grind
/-- Whether there is a system. -/
def sysB (r c : Int) (xs bs : List Int) : Bool := isSq r c xs && decide ((bs.length : Int) = r) && bs.all isNum
def seX (r : Int) (xs bs : List Int) : Option QSt := eoX r ((r.toNat + 1 : Nat) : Int) (tb r.toNat (r.toNat + 1) (augF r.toNat (fun i j => cel xs r.toNat i j) bs))
/-- Whether the form shows one solution. -/
def seOk (R : Nat) : Option QSt → Bool
  | some s => decide (R ≤ s.ps.length) && (decide (R = 0) || decide (s.ps.getD (R - 1) 0 = ((R - 1 : Nat) : Int)))
  | none => false
def seB (r c : Int) (xs bs : List Int) : Bool := sysB r c xs bs && seOk r.toNat (seX r xs bs)
def seF (s : QSt) (R i : Nat) : List Int := [(makR (s.f i R) (s.f i i)).1, (makR (s.f i R) (s.f i i)).2]
def seL (s : QSt) (R : Nat) : Nat → List Int
  | 0 => []
  | k + 1 => seL s R k ++ seF s R k
def seV (r c : Int) (xs bs : List Int) : List Int := if seB r c xs bs then (match seX r xs bs with | some s => seL s r.toNat r.toNat | none => []) else []
def seN (r c : Int) (xs bs : List Int) : Nat := if seB r c xs bs then r.toNat else 0
theorem se_cases (r c : Int) (xs bs : List Int) : (sysB r c xs bs = false ∧ seB r c xs bs = false) ∨ (sysB r c xs bs = true ∧ seX r xs bs = none ∧ seB r c xs bs = false) ∨ (∃ s, sysB r c xs bs = true ∧ seX r xs bs = some s ∧ seB r c xs bs = seOk r.toNat (some s)) := by
  unfold seB
  rcases sysB r c xs bs with _ | _
  · left; simp
  · right
    rcases hx : seX r xs bs with _ | s
    · left; simp [seOk]
    · right; exact ⟨s, by simp⟩
/-- What holds of a system. -/
structure SysOk (r c : Int) (xs bs : List Int) : Prop where
  m : IsM r c xs
  rc : r = c
  r6 : r ≤ 6
  bl : (bs.length : Int) = r
  bn : bs.all isNum = true
theorem sysOk {r c : Int} {xs bs : List Int} (h : sysB r c xs bs = true) : SysOk r c xs bs := by
  unfold sysB at h
  rw [Bool.and_eq_true, Bool.and_eq_true] at h
  obtain ⟨⟨h1, h2⟩, h3⟩ := h
  unfold isSq at h1
  rw [Bool.and_eq_true, Bool.and_eq_true] at h1
  obtain ⟨⟨h4, h5⟩, h6⟩ := h1
  exact ⟨isMat_iff.1 h4, of_decide_eq_true h5, of_decide_eq_true h6, of_decide_eq_true h2, h3⟩
/-- The pivots of a form: as many as rows at most, each in its place or behind it. -/
theorem eoX_piv {R C : Nat} {xs : List Int} {s : QSt} (h : eoX (R : Int) (C : Int) xs = some s) : s.ps.length ≤ R ∧ PInv C s.ps := by
  unfold eoX at h
  by_cases hm : isMat (R : Int) (C : Int) xs = true
  · rw [if_pos hm] at h
    simp only [Int.toNat_natCast] at h
    refine ⟨colsQ_le _ _ _ _ (Nat.zero_le _) h, ?_⟩
    have := colsQ_inv _ _ _ _ (show PInv 0 (⟨prK C (fun i j : Nat => cel xs C i j) R, []⟩ : QSt).ps from fun k hk => absurd hk (Nat.not_lt_zero _)) h
    rw [show 0 + (C - 0) = C by omega] at this
    exact this
  · rw [if_neg hm] at h; cases h
theorem aug_ri {R : Nat} {xs : List Int} (h : xs.length = R * R) : xs = tb R R (fun i j => cel xs R i j) := tb_of h
theorem seL_len (s : QSt) (R : Nat) : ∀ k, (seL s R k).length = k * 2
  | 0 => rfl
  | k + 1 => by
    unfold seL
    rw [List.length_append, seL_len s R k]
    simp [seF]; omega
theorem seV_len {r c : Int} {xs bs : List Int} : seN r c xs bs ≤ 1048576 := by
  unfold seN
  split
  · rename_i h
    unfold seB at h
    rw [Bool.and_eq_true] at h
    have K := sysOk h.1
    have := K.r6
    omega
  · omega
end Go.Proofs.Ytfiilpamekpmpaa

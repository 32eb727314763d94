/-
  DERIVED. A matrix times a list, over residues. No program in sight.
-/
import Derived.Test.YtfiilpamekpmpaaPlainV
namespace Go.Proofs.Ytfiilpamekpmpaa
set_option linter.unusedVariables false
/-- The sum of the first k products, as a residue. -/
def smS (f : Nat → Nat → Int) (bs : List Int) (p : Int) (i : Nat) : Nat → Int
  | 0 => 0
  | k + 1 => (smS f bs p i k + f i k * (bs.getD k 0 % p)) % p
theorem smS_bd {f : Nat → Nat → Int} {bs : List Int} {p : Int} (hp : 2 ≤ p) (i : Nat) : ∀ k, 0 ≤ smS f bs p i k ∧ smS f bs p i k < p
  | 0 => by unfold smS; omega
  | k + 1 => by unfold smS; exact emod_bds _ _ (by omega)
def smL (R L : Nat) (f : Nat → Nat → Int) (bs : List Int) (p : Int) : List Int := tab R fun i => smS f bs p i L
theorem smL_len (R L : Nat) (f : Nat → Nat → Int) (bs : List Int) (p : Int) : (smL R L f bs p).length = R := tab_len _ _
def smB (r c : Int) (xs bs : List Int) (p : Int) : Bool := imB r c xs p && decide ((bs.length : Int) = r) && bs.all isNum
def smV (r c : Int) (xs bs : List Int) (p : Int) : List Int := if smB r c xs bs p then smL r.toNat r.toNat (fun i j => (imS r c xs p).f i (r.toNat + j)) bs p else []
theorem sm_cases (r c : Int) (xs bs : List Int) (p : Int) : (imB r c xs p = false ∧ smB r c xs bs p = false) ∨ (imB r c xs p = true ∧ ((bs.length : Int) != r) = true ∧ smB r c xs bs p = false) ∨
    (imB r c xs p = true ∧ ((bs.length : Int) != r) = false ∧ bs.all isNum = false ∧ smB r c xs bs p = false) ∨ (imB r c xs p = true ∧ ((bs.length : Int) != r) = false ∧ bs.all isNum = true ∧ smB r c xs bs p = true) := by
  unfold smB
  rcases imB r c xs p with _ | _
  · left; simp
  · right
    by_cases h : (bs.length : Int) = r
    · right
      rcases hb : bs.all isNum with _ | _
      · left; simp [h]
      · right; simp [h]
    · left; simp [h]
theorem smV_no {r c : Int} {xs bs : List Int} {p : Int} (h : smB r c xs bs p = false) : smV r c xs bs p = [] := by unfold smV; rw [h]; rfl
theorem smV_yes {r c : Int} {xs bs : List Int} {p : Int} (h : smB r c xs bs p = true) : smV r c xs bs p = smL r.toNat r.toNat (fun i j => (imS r c xs p).f i (r.toNat + j)) bs p := by unfold smV; rw [h]; rfl
/-- What holds where there is an inverse. -/
structure ImOk (r c : Int) (xs : List Int) (p : Int) : Prop where
  r0 : 0 ≤ r
  r1 : r ≤ 12
  p1 : 2 ≤ p
  p2 : p ≤ 10000
  f0 : ∀ i j : Nat, 0 ≤ (imS r c xs p).f i j ∧ (imS r c xs p).f i j < p
theorem imOk_of {r c : Int} {xs : List Int} {p : Int} (h : imB r c xs p = true) : ImOk r c xs p := by
  rcases im_cases r c xs p with ⟨_, hi⟩ | ⟨_, _, hi⟩ | ⟨_, _, _, hi⟩ | ⟨hb, hrc, h12, hi⟩
  iterate 3
    · rw [hi] at h; cases h
  · have K := redOk hb
    have h0 := K.m.r0
    refine ⟨K.m.r0, h12, K.pb.1, K.pb.2, ?_⟩
    have := colsE_ok (R := r.toNat) K.pb.1 r.toNat 0 ⟨wideF r.toNat (rmF c xs p), 0, 1⟩ ⟨wideF_bd K.pb.1 K.f0, Nat.zero_le _, by show (0 : Int) ≤ 1 ∧ (1 : Int) < p; have := K.pb.1; omega⟩
    exact this.f0
theorem smV_len (r c : Int) (xs bs : List Int) (p : Int) : (smV r c xs bs p).length ≤ 1048576 := by
  rcases hb : smB r c xs bs p with _ | _
  · rw [smV_no hb]; exact Nat.zero_le _
  · rw [smV_yes hb, smL_len]
    have h1 : imB r c xs p = true := by
      unfold smB at hb
      rcases h : imB r c xs p with _ | _
      · rw [h] at hb; simp at hb
      · rfl
    have K := imOk_of h1
    have h2 := K.r1
    omega
end Go.Proofs.Ytfiilpamekpmpaa

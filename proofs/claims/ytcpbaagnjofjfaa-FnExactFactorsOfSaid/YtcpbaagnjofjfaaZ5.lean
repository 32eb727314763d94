/-
  DERIVED. Several small texts in one: Times, Fac.
-/
import Derived.Test.YtcpbaagnjofjfaaMulS2q
import Derived.Test.YtcpbaagnjofjfaaZ4
import Derived.Test.YtcpbaagnjofjfaaZ3
import Derived.Deep.LoopGhost
/-
  DERIVED. l14Times, IsSolution of the reference.
-/
namespace Go.Proofs.Ytcpbaagnjofjfaa
open Go.RowKit
set_option linter.unusedVariables false
set_option linter.unusedSimpArgs false
/-- The call returned an own slice and a flag. -/
def IBR (ys : List Int) (b : Bool) (w : World) (e : Ending) (w' : World) : Prop :=
  ∃ A n cap, e = .returned (.tuple #[.slice A n cap, .bool b]) ∧ OR w' w.heap.size (.slice A n cap) ys ∧ Below w.heap.size w w'
theorem IBR.mk {ys zs : List Int} {b : Bool} {A : Option Addr} {n cap : Nat} {w w' : World} (hz : ys = zs) (ho : OR w' w.heap.size (.slice A n cap) zs) (hb : Below w.heap.size w w') :
    IBR ys b w (.returned (.tuple #[.slice A n cap, .bool b])) w' := by subst hz; exact ⟨A, n, cap, rfl, ho, hb⟩
/-- Numbers solve a system. -/
def solB (r c : Int) (xs b x : List Int) : Bool := mulB r c xs x.length 1 x && eqB (mulM r c xs x.length 1 x).xs b
theorem mulM_len (r c : Int) (xs : List Int) (r2 c2 : Int) (ys : List Int) : (mulM r c xs r2 c2 ys).xs.length ≤ 576 := by
  unfold mulM
  split
  · rename_i h
    unfold mulB at h
    simp only [Bool.and_eq_true] at h
    have M := isMat_iff.1 h.1.1.1
    have M2 := isMat_iff.1 h.1.1.2
    show (mulL xs r.toNat c.toNat ys c2.toNat).length ≤ 576
    rw [mulL_len]
    have := Nat.mul_le_mul (show r.toNat ≤ 24 by have := M.r1; omega) (show c2.toNat ≤ 24 by have := M2.c1; omega)
    omega
  · simp [Mx.none]
set_option maxRecDepth 100000 in
set_option maxHeartbeats 4000000 in
theorem spec_l14Times (r c : Int) (A A3 : Option Addr) (n cap n3 cap3 : Nat) (xs x : List Int) (w : World) {B B3' : Nat} (h : RI w B A n xs) (h3 : RI w B3' A3 n3 x) (hB : B ≤ w.heap.size) (hB3 : B3' ≤ w.heap.size) (hn : n ≤ 1048576) (hn3 : n3 ≤ 1048576) :
    Calls Try.prog 92 #[.agg #[.int .i64 r, .int .i64 c, .slice A n cap], .slice A3 n3 cap3] w (IBR (mulM r c xs n3 1 x).xs (mulB r c xs n3 1 x) w) := by
  have H1 := Lib.hid (h.more hB)
  have H3 := Lib.hid (h3.more hB3)
  clear h h3 hB hB3
  rcases hres : mulB r c xs n3 1 x with _ | _
  all_goals
    have HRES := Lib.hid hres
    have HN := mulM_no (r := r) (c := c) (xs := xs) (r2 := n3) (c2 := 1) (ys := x)
    clear hres
    have HNO := Lib.hid HN
    clear HN
    go_enter Try.func92, Try.ntmps92
    go_wp2_with fail
    refine (spec_MultiplyMatrices r c n3 1 A A3 n cap n3 cap3 xs x _ (B := w.heap.size) (B' := w.heap.size) (by (repeat (first | (with_reducible exact H1.out) | (with_reducible refine RI.drew ?_) | (with_reducible refine RI.drewN ?_ _) | (with_reducible refine RI.alloc ?_ (by first | omega | (simp; done) | (simp; omega)) _) | (with_reducible refine RI.setCell ?_ (by first | omega | (simp; done) | (simp; omega)) _) | (with_reducible refine RI.below ?_ (by assumption) (by first | omega | (simp; done) | (simp; omega)))))) (by (repeat (first | (with_reducible exact H3.out) | (with_reducible refine RI.drew ?_) | (with_reducible refine RI.drewN ?_ _) | (with_reducible refine RI.alloc ?_ (by first | omega | (simp; done) | (simp; omega)) _) | (with_reducible refine RI.setCell ?_ (by first | omega | (simp; done) | (simp; omega)) _) | (with_reducible refine RI.below ?_ (by assumption) (by first | omega | (simp; done) | (simp; omega)))))) (by first | omega | (simp; done) | (simp; omega)) (by first | omega | (simp; done) | (simp; omega)) hn hn3).mono ?_
    rw [HRES.out]
    rintro e w2 ⟨Ar, nr, cr, rfl, ho, hb2⟩
    have hs2 := hb2.size
    simp at hs2
    have hbw2 : Below w.heap.size w w2 := by (repeat (first | (with_reducible exact Below.refl _ _) | (with_reducible assumption) | (with_reducible refine below_drewN ?_ _) | (with_reducible refine Below.drew ?_) | (with_reducible refine Below.alloc ?_ ?_ _) | (with_reducible refine Below.setCell ?_ ?_ _) | (with_reducible refine below_into ?_ (by assumption) (by first | omega | (simp; done) | (simp; omega))) | go_size))
    have hown : OR w2 w.heap.size (.slice Ar nr cr) (mulM r c xs n3 1 x).xs := ho.mono (by first | omega | (simp; done) | (simp; omega))
    clear ho hb2
    go_wp2_with fail
    go_ret2
  · exact IBR.mk (by rw [HNO.out HRES.out]; rfl) (OR.empty' _ _ (by simp) (by first | omega | (simp; done) | (simp; omega))) (by (repeat (first | (with_reducible exact Below.refl _ _) | (with_reducible assumption) | (with_reducible refine below_drewN ?_ _) | (with_reducible refine Below.drew ?_) | (with_reducible refine Below.alloc ?_ ?_ _) | (with_reducible refine Below.setCell ?_ ?_ _) | (with_reducible refine below_into ?_ (by assumption) (by first | omega | (simp; done) | (simp; omega))) | go_size)))
  · exact IBR.mk rfl (by (repeat (first | (with_reducible exact hown) | (with_reducible refine OR.drew ?_) | (with_reducible refine OR.drewN ?_ _) | (with_reducible refine OR.alloc ?_ _) | (with_reducible refine OR.below ?_ (by assumption) (by first | omega | (simp; done) | (simp; omega))) | (with_reducible refine OR.low ?_ (by first | omega | (simp only []; omega) | (simp; omega)) _)))) (by (repeat (first | (with_reducible exact Below.refl _ _) | (with_reducible assumption) | (with_reducible refine below_drewN ?_ _) | (with_reducible refine Below.drew ?_) | (with_reducible refine Below.alloc ?_ ?_ _) | (with_reducible refine Below.setCell ?_ ?_ _) | (with_reducible refine below_into ?_ (by assumption) (by first | omega | (simp; done) | (simp; omega))) | go_size)))
end Go.Proofs.Ytcpbaagnjofjfaa

/-
  DERIVED. FactorsOf of both.
-/
namespace Go.Proofs.Ytcpbaagnjofjfaa
open Go.RowKit
set_option linter.unusedVariables false
set_option linter.unusedSimpArgs false
theorem OR.shapeF {w : World} {B : Nat} {v : Value} {xs : List Int} (h : OR w B v xs) : ∃ A c, v = .slice A xs.length c := by
  rcases h.form with ⟨h1, h2⟩ | ⟨g, cap, h1, _⟩
  · subst h2; exact ⟨none, 0, h1⟩
  · exact ⟨_, _, h1⟩
/-- A number of the diagonal; 0 beyond it. -/
def dgF (R C : Nat) (f : Fn2) (i : Nat) : Int := if i < R ∧ i < C then f i i else 0
theorem dgF_in {R C i : Nat} {f : Fn2} (h : i < R) (h2 : i < C) : dgF R C f i = f i i := by unfold dgF; rw [if_pos ⟨h, h2⟩]
theorem dgF_out {R C i : Nat} {f : Fn2} (h : ¬ (i < R ∧ i < C)) : dgF R C f i = 0 := by unfold dgF; rw [if_neg h]
theorem dgF_num {R C i : Nat} {f : Fn2} (h : OKF R C f) : Num (dgF R C f i) := by
  unfold dgF
  split
  · rename_i h2; exact h i i h2.1 h2.2
  · unfold Num; omega
def facK (d : Nat → Int) : Nat → List Int
  | 0 => []
  | n + 1 => facK d n ++ (if d n = 0 then [] else [d n])
theorem facK_skip {d : Nat → Int} {n : Nat} (h : d n = 0) : facK d (n + 1) = facK d n := by
  show facK d n ++ (if _ then _ else _) = _
  rw [if_pos h, List.append_nil]
theorem facK_add {d : Nat → Int} {n : Nat} (h : d n ≠ 0) : facK d (n + 1) = facK d n ++ [d n] := by
  show facK d n ++ (if _ then _ else _) = _
  rw [if_neg h]
theorem facK_len (d : Nat → Int) : ∀ n, (facK d n).length ≤ n
  | 0 => Nat.le_refl _
  | n + 1 => by
    have := facK_len d n
    by_cases h : d n = 0
    · rw [facK_skip h]; omega
    · rw [facK_add h, List.length_append, List.length_singleton]; omega
theorem facK_beyond {d : Nat → Int} {m : Nat} (h : ∀ i, m ≤ i → d i = 0) : ∀ k, facK d (m + k) = facK d m
  | 0 => rfl
  | k + 1 => by rw [show m + (k + 1) = m + k + 1 by omega, facK_skip (h _ (by omega)), facK_beyond h k]
def facO (r c : Int) : Option SS → List Int
  | some s => facK (dgF r.toNat c.toNat s.f) (min r.toNat c.toNat)
  | none => []
def facV (r c : Int) (xs : List Int) : List Int := facO r c (sfX r c xs)
theorem facO_rows (R C : Nat) (s : SS) : facO R C (some s) = facK (dgF R C s.f) R := by
  show facK (dgF R C s.f) (min R C) = _
  have := facK_beyond (d := dgF R C s.f) (m := min R C) (fun i hi => dgF_out (by omega)) (R - min R C)
  rw [show min R C + (R - min R C) = R by omega] at this
  exact this.symm
theorem facV_len (r c : Int) (xs : List Int) : (facV r c xs).length ≤ 1048576 := by
  unfold facV
  rcases h : sfX r c xs with _ | s
  · exact Nat.zero_le _
  · rcases hm : isMat r c xs with _ | _
    · rw [sfX_no hm] at h; cases h
    · have M := isMat_iff.1 hm
      have h1 := facK_len (dgF r.toNat c.toNat s.f) (min r.toNat c.toNat)
      have := M.r1
      show (facK _ _).length ≤ _
      omega
theorem impl_diagonal (R C i : Nat) (A : Option Addr) (n cap : Nat) (f : Fn2) (w : World) {B : Nat} (h : OR w B (.slice A n cap) (tb R C f)) (hi : i ≤ 100) (hR : R ≤ 24) (hC : C ≤ 24) :
    Calls Try.prog 89 #[.agg #[.int .i64 R, .int .i64 C, .slice A n cap], .int .i64 i] w (BV (.int .i64 (dgF R C f i)) w) := by
  by_cases h1 : i < R
  · by_cases h2 : i < C
    · rw [dgF_in h1 h2]
      generalize hv : f i i = v
      have HV := Lib.hid hv
      clear hv
      go_enter Try.func89, Try.ntmps89
      go_wp2_with fail
      refine (impl_at_tb R C i i A n cap f v HV.out _ (B := B) (by (repeat (first | (with_reducible exact h) | (with_reducible refine OR.drew ?_) | (with_reducible refine OR.drewN ?_ _) | (with_reducible refine OR.alloc ?_ _) | (with_reducible refine OR.below ?_ (by assumption) (by first | omega | (simp; done) | (simp; omega))) | (with_reducible refine OR.low ?_ (by first | omega | (simp only []; omega) | (simp; omega)) _)))) (by omega) (by omega) h1 h2).mono ?_
      rintro e w1 ⟨rfl, hb1⟩
      go_wp2_with fail
      go_ret
      exact BV.mk rfl (by (repeat (first | (with_reducible exact Below.refl _ _) | (with_reducible assumption) | (with_reducible refine below_drewN ?_ _) | (with_reducible refine Below.drew ?_) | (with_reducible refine Below.alloc ?_ ?_ _) | (with_reducible refine Below.setCell ?_ ?_ _) | (with_reducible refine below_into ?_ (by assumption) (by first | omega | (simp; done) | (simp; omega))) | go_size)))
    · rw [dgF_out (by omega)]
      go_enter Try.func89, Try.ntmps89
      go_wp2_with fail
      go_ret
      exact BV.mk rfl (by (repeat (first | (with_reducible exact Below.refl _ _) | (with_reducible assumption) | (with_reducible refine below_drewN ?_ _) | (with_reducible refine Below.drew ?_) | (with_reducible refine Below.alloc ?_ ?_ _) | (with_reducible refine Below.setCell ?_ ?_ _) | (with_reducible refine below_into ?_ (by assumption) (by first | omega | (simp; done) | (simp; omega))) | go_size)))
  · rw [dgF_out (by omega)]
    go_enter Try.func89, Try.ntmps89
    go_wp2_with fail
    go_ret
    exact BV.mk rfl (by (repeat (first | (with_reducible exact Below.refl _ _) | (with_reducible assumption) | (with_reducible refine below_drewN ?_ _) | (with_reducible refine Below.drew ?_) | (with_reducible refine Below.alloc ?_ ?_ _) | (with_reducible refine Below.setCell ?_ ?_ _) | (with_reducible refine below_into ?_ (by assumption) (by first | omega | (simp; done) | (simp; omega))) | go_size)))
end Go.Proofs.Ytcpbaagnjofjfaa

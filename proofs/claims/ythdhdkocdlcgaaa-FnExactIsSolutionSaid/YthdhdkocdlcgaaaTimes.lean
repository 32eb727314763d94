/-
  DERIVED. l14Times, IsSolution of the reference.
-/
import Derived.Test.YthdhdkocdlcgaaaMulS2
namespace Go.Proofs.Ythdhdkocdlcgaaa
open Go.RowKit
set_option linter.unusedVariables false
set_option linter.unusedSimpArgs false
/-- The call returned an own slice and a flag. -/
def IBR (ys : List Int) (b : Bool) (w : World) (e : Ending) (w' : World) : Prop :=
  ∃ A n cap, e = .returned (.tuple #[.slice A n cap, .bool b]) ∧ OR w' w.heap.size (.slice A n cap) ys ∧ Below w.heap.size w w'
theorem IBR.mk {ys zs : List Int} {b : Bool} {A : Option Addr} {n cap : Nat} {w w' : World} (hz : ys = zs) (ho : OR w' w.heap.size (.slice A n cap) zs) (hb : Below w.heap.size w w') :
    IBR ys b w (.returned (.tuple #[.slice A n cap, .bool b])) w' := by subst hz; exact ⟨A, n, cap, rfl, ho, hb⟩
/-- Numbers solve a system. -/
def solB (r c : Int) (xs b x : List Int) : Bool := mulB r c xs x.length 1 x && eqB (mulM r c xs x.length 1 x).xs b
theorem mulM_len (r c : Int) (xs : List Int) (r2 c2 : Int) (ys : List Int) : (mulM r c xs r2 c2 ys).xs.length ≤ 576 := by
  unfold mulM
  split
  · rename_i h
    unfold mulB at h
    simp only [Bool.and_eq_true] at h
    have M := isMat_iff.1 h.1.1.1
    have M2 := isMat_iff.1 h.1.1.2
    show (mulL xs r.toNat c.toNat ys c2.toNat).length ≤ 576
    rw [mulL_len]
    have := Nat.mul_le_mul (show r.toNat ≤ 24 by have := M.r1; omega) (show c2.toNat ≤ 24 by have := M2.c1; omega)
    omega
  · simp [Mx.none]
set_option maxRecDepth 100000 in
set_option maxHeartbeats 4000000 in
theorem spec_l14Times (r c : Int) (A A3 : Option Addr) (n cap n3 cap3 : Nat) (xs x : List Int) (w : World) {B B3' : Nat} (h : RI w B A n xs) (h3 : RI w B3' A3 n3 x) (hB : B ≤ w.heap.size) (hB3 : B3' ≤ w.heap.size) (hn : n ≤ 1048576) (hn3 : n3 ≤ 1048576) :
    Calls Try.prog 59 #[.agg #[.int .i64 r, .int .i64 c, .slice A n cap], .slice A3 n3 cap3] w (IBR (mulM r c xs n3 1 x).xs (mulB r c xs n3 1 x) w) := by
  have H1 := Lib.hid (h.more hB)
  have H3 := Lib.hid (h3.more hB3)
  clear h h3 hB hB3
  rcases hres : mulB r c xs n3 1 x with _ | _
  all_goals
    have HRES := Lib.hid hres
    have HN := mulM_no (r := r) (c := c) (xs := xs) (r2 := n3) (c2 := 1) (ys := x)
    clear hres
    have HNO := Lib.hid HN
    clear HN
    go_enter Try.func59, Try.ntmps59
    go_wp2_with fail
    refine (spec_MultiplyMatrices r c n3 1 A A3 n cap n3 cap3 xs x _ (B := w.heap.size) (B' := w.heap.size) (by (repeat (first | (with_reducible exact H1.out) | (with_reducible refine RI.drew ?_) | (with_reducible refine RI.drewN ?_ _) | (with_reducible refine RI.alloc ?_ (by first | omega | (simp; done) | (simp; omega)) _) | (with_reducible refine RI.setCell ?_ (by first | omega | (simp; done) | (simp; omega)) _) | (with_reducible refine RI.below ?_ (by assumption) (by first | omega | (simp; done) | (simp; omega)))))) (by (repeat (first | (with_reducible exact H3.out) | (with_reducible refine RI.drew ?_) | (with_reducible refine RI.drewN ?_ _) | (with_reducible refine RI.alloc ?_ (by first | omega | (simp; done) | (simp; omega)) _) | (with_reducible refine RI.setCell ?_ (by first | omega | (simp; done) | (simp; omega)) _) | (with_reducible refine RI.below ?_ (by assumption) (by first | omega | (simp; done) | (simp; omega)))))) (by first | omega | (simp; done) | (simp; omega)) (by first | omega | (simp; done) | (simp; omega)) hn hn3).mono ?_
    rw [HRES.out]
    rintro e w2 ⟨Ar, nr, cr, rfl, ho, hb2⟩
    have hs2 := hb2.size
    simp at hs2
    have hbw2 : Below w.heap.size w w2 := by (repeat (first | (with_reducible exact Below.refl _ _) | (with_reducible assumption) | (with_reducible refine below_drewN ?_ _) | (with_reducible refine Below.drew ?_) | (with_reducible refine Below.alloc ?_ ?_ _) | (with_reducible refine Below.setCell ?_ ?_ _) | (with_reducible refine below_into ?_ (by assumption) (by first | omega | (simp; done) | (simp; omega))) | go_size))
    have hown : OR w2 w.heap.size (.slice Ar nr cr) (mulM r c xs n3 1 x).xs := ho.mono (by first | omega | (simp; done) | (simp; omega))
    clear ho hb2
    go_wp2_with fail
    go_ret2
  · exact IBR.mk (by rw [HNO.out HRES.out]; rfl) (OR.empty' _ _ (by simp) (by first | omega | (simp; done) | (simp; omega))) (by (repeat (first | (with_reducible exact Below.refl _ _) | (with_reducible assumption) | (with_reducible refine below_drewN ?_ _) | (with_reducible refine Below.drew ?_) | (with_reducible refine Below.alloc ?_ ?_ _) | (with_reducible refine Below.setCell ?_ ?_ _) | (with_reducible refine below_into ?_ (by assumption) (by first | omega | (simp; done) | (simp; omega))) | go_size)))
  · exact IBR.mk rfl (by (repeat (first | (with_reducible exact hown) | (with_reducible refine OR.drew ?_) | (with_reducible refine OR.drewN ?_ _) | (with_reducible refine OR.alloc ?_ _) | (with_reducible refine OR.below ?_ (by assumption) (by first | omega | (simp; done) | (simp; omega))) | (with_reducible refine OR.low ?_ (by first | omega | (simp only []; omega) | (simp; omega)) _)))) (by (repeat (first | (with_reducible exact Below.refl _ _) | (with_reducible assumption) | (with_reducible refine below_drewN ?_ _) | (with_reducible refine Below.drew ?_) | (with_reducible refine Below.alloc ?_ ?_ _) | (with_reducible refine Below.setCell ?_ ?_ _) | (with_reducible refine below_into ?_ (by assumption) (by first | omega | (simp; done) | (simp; omega))) | go_size)))
end Go.Proofs.Ythdhdkocdlcgaaa

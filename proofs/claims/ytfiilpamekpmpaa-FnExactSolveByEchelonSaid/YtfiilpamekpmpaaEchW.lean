/-
  DERIVED. EchelonOf of the reference.
-/
import Derived.Test.YtfiilpamekpmpaaEchP
namespace Go.Proofs.Ytfiilpamekpmpaa
open Go.RowKit
set_option linter.unusedVariables false
set_option linter.unusedSimpArgs false
set_option maxRecDepth 100000 in
set_option maxHeartbeats 2000000 in
theorem spec_EchelonOf (r c : Int) (A : Option Addr) (n cap : Nat) (xs : List Int) (w : World) {B : Nat} (h : RI w B A n xs) (hB : B ≤ w.heap.size) (hn : n ≤ 1048576) :
    Calls Try.prog 20 #[.agg #[.int .i64 r, .int .i64 c, .slice A n cap]] w (MIBR (mxQ r c (eoX r c xs)) (psQ (eoX r c xs)) (eoX r c xs).isSome w) := by
  have hlen := h.len
  have H2 := Lib.hid (h.more hB)
  clear h
  rcases hm : isMat r c xs with _ | _
  · have hx : eoX r c xs = none := by unfold eoX; rw [hm]; rfl
    rw [hx]
    have HM := Lib.hid hm
    clear hm hx hlen
    go_enter Try.func20, Try.ntmps20
    go_wp2_with (go_at_call 54; refine (spec_IsMatrix r c A n cap xs _ (C := w.heap.size) (by (repeat (first | (with_reducible exact H2.out) | (with_reducible refine RI.drew ?_) | (with_reducible refine RI.drewN ?_ _) | (with_reducible refine RI.alloc ?_ (by first | omega | (simp; done) | (simp; omega)) _) | (with_reducible refine RI.setCell ?_ (by first | omega | (simp; done) | (simp; omega)) _) | (with_reducible refine RI.below ?_ (by assumption) (by first | omega | (simp; done) | (simp; omega)))))) (by first | omega | (simp; done) | (simp; omega)) hn).mono ?_; rw [HM.out]; rintro e w1 ⟨rfl, hb⟩; have hz := hb.size; (try simp at hz); have kk := bkeep (w := w) hb (by first | omega | (simp; done) | (simp; omega)); obtain ⟨kc, kf⟩ := kk; (try (have kk := bkeepb (w.heap.size) hb (by first | omega | (simp; done) | (simp; omega)); obtain ⟨kc0, kf0, kl0⟩ := kk)); (try (have kk := bkeepb (w.heap.size + 1) hb (by first | omega | (simp; done) | (simp; omega)); obtain ⟨kc1, kf1, kl1⟩ := kk)); (try (have kk := bkeepb (w.heap.size + 1 + 1) hb (by first | omega | (simp; done) | (simp; omega)); obtain ⟨kc2, kf2, kl2⟩ := kk)); (try (have kk := bkeepb (w.heap.size + 1 + 1 + 1) hb (by first | omega | (simp; done) | (simp; omega)); obtain ⟨kc3, kf3, kl3⟩ := kk)); (try (have kk := bkeepb (wr.heap.size) hb (by first | omega | (simp; done) | (simp; omega)); obtain ⟨kr0, ks0, kt0⟩ := kk)); (try (have kk := bkeepb (wr.heap.size + 1) hb (by first | omega | (simp; done) | (simp; omega)); obtain ⟨kr1, ks1, kt1⟩ := kk)); (try (have kk := bkeepb (wr.heap.size + 1 + 1) hb (by first | omega | (simp; done) | (simp; omega)); obtain ⟨kr2, ks2, kt2⟩ := kk)))
    refine ret_MTT' (b := w.heap.size + 1) Try.results20 rfl (by (repeat (first | (with_reducible assumption) | (with_reducible refine BX.new _ _ _ _ _ _ _ _ (by first | omega | (simp; done) | (simp; omega))) | (with_reducible refine BX.below ?_ (by assumption) (by first | omega | (simp; done) | (simp; omega))) | (with_reducible apply BX.drew) | (with_reducible apply BX.drewN) | (with_reducible refine BX.put ?_) | (with_reducible refine BX.put2 ?_) | (with_reducible refine BX.far ?_ (by simp only [ne_eq]; omega) _) | (with_reducible apply BX.alloc) | (with_reducible refine B3.new _ _ _ _ _ _ (by first | omega | (simp; done) | (simp; omega))) | (with_reducible refine B3.of (by assumption)) | (with_reducible refine B3.below ?_ (by assumption) (by first | omega | (simp; done) | (simp; omega))) | (with_reducible apply B3.drew) | (with_reducible apply B3.drewN) | (with_reducible refine B3.far ?_ (by simp only [ne_eq]; omega) _) | (with_reducible apply B3.alloc)))) rfl ?_
    exact MIBR.none_ (OR.empty' _ w1.heap.size (by simp [World.setCell]) (by simp [World.setCell]; omega)) (by (repeat (first | (with_reducible exact Below.refl _ _) | (with_reducible assumption) | (with_reducible refine below_drewN ?_ _) | (with_reducible refine Below.drew ?_) | (with_reducible refine Below.alloc ?_ ?_ _) | (with_reducible refine Below.setCell ?_ ?_ _) | (with_reducible refine below_into ?_ (by assumption) (by first | omega | (simp; done) | (simp; omega))) | go_size)))
  · have M := isMat_iff.1 hm
    have hx : eoX r c xs = echQ r.toNat c.toNat (fun i j => cel xs c.toNat i j) := by unfold eoX; rw [if_pos hm]
    rw [hx]
    clear hx
    have HM := Lib.hid hm
    obtain ⟨R, rfl⟩ := nat_of M.r0
    obtain ⟨C, rfl⟩ := nat_of M.c0
    have hR := M.r1
    have hC := M.c1
    have HT : Hid (xs = tb R C (fun i j => cel xs C i j)) := Lib.hid (tb_of (by have := M.len; rw [← Int.natCast_mul] at this; omega))
    simp only [Int.toNat_natCast]
    have HBD : Hid (∀ i c : Nat, i < R → c < C → -400000000 ≤ (fun i j : Nat => cel xs C i j) i c ∧ (fun i j : Nat => cel xs C i j) i c ≤ 400000000) := Lib.hid (fun i c _ _ => M.cel_bd i c)
    generalize (fun i j : Nat => cel xs C i j) = f0 at *
    generalize hX : echQ R C f0 = X at *
    have HX := Lib.hid hX
    clear hm M hlen hX
    go_enter Try.func20, Try.ntmps20
    go_wp2_with (go_at_call 54; refine (spec_IsMatrix R C A n cap xs _ (C := w.heap.size) (by (repeat (first | (with_reducible exact H2.out) | (with_reducible refine RI.drew ?_) | (with_reducible refine RI.drewN ?_ _) | (with_reducible refine RI.alloc ?_ (by first | omega | (simp; done) | (simp; omega)) _) | (with_reducible refine RI.setCell ?_ (by first | omega | (simp; done) | (simp; omega)) _) | (with_reducible refine RI.below ?_ (by assumption) (by first | omega | (simp; done) | (simp; omega)))))) (by first | omega | (simp; done) | (simp; omega)) hn).mono ?_; rw [HM.out]; rintro e w1 ⟨rfl, hb⟩; have hz := hb.size; (try simp at hz); have kk := bkeep (w := w) hb (by first | omega | (simp; done) | (simp; omega)); obtain ⟨kc, kf⟩ := kk; (try (have kk := bkeepb (w.heap.size) hb (by first | omega | (simp; done) | (simp; omega)); obtain ⟨kc0, kf0, kl0⟩ := kk)); (try (have kk := bkeepb (w.heap.size + 1) hb (by first | omega | (simp; done) | (simp; omega)); obtain ⟨kc1, kf1, kl1⟩ := kk)); (try (have kk := bkeepb (w.heap.size + 1 + 1) hb (by first | omega | (simp; done) | (simp; omega)); obtain ⟨kc2, kf2, kl2⟩ := kk)); (try (have kk := bkeepb (w.heap.size + 1 + 1 + 1) hb (by first | omega | (simp; done) | (simp; omega)); obtain ⟨kc3, kf3, kl3⟩ := kk)); (try (have kk := bkeepb (wr.heap.size) hb (by first | omega | (simp; done) | (simp; omega)); obtain ⟨kr0, ks0, kt0⟩ := kk)); (try (have kk := bkeepb (wr.heap.size + 1) hb (by first | omega | (simp; done) | (simp; omega)); obtain ⟨kr1, ks1, kt1⟩ := kk)); (try (have kk := bkeepb (wr.heap.size + 1 + 1) hb (by first | omega | (simp; done) | (simp; omega)); obtain ⟨kr2, ks2, kt2⟩ := kk)))
    have hsz1 := hb.size
    simp at hsz1
    have hR1 : BM w1 (w.heap.size + 1) 0 0 none 0 0 := by (repeat (first | (with_reducible assumption) | (with_reducible refine BX.new _ _ _ _ _ _ _ _ (by first | omega | (simp; done) | (simp; omega))) | (with_reducible refine BX.below ?_ (by assumption) (by first | omega | (simp; done) | (simp; omega))) | (with_reducible apply BX.drew) | (with_reducible apply BX.drewN) | (with_reducible refine BX.put ?_) | (with_reducible refine BX.put2 ?_) | (with_reducible refine BX.far ?_ (by simp only [ne_eq]; omega) _) | (with_reducible apply BX.alloc) | (with_reducible refine B3.new _ _ _ _ _ _ (by first | omega | (simp; done) | (simp; omega))) | (with_reducible refine B3.of (by assumption)) | (with_reducible refine B3.below ?_ (by assumption) (by first | omega | (simp; done) | (simp; omega))) | (with_reducible apply B3.drew) | (with_reducible apply B3.drewN) | (with_reducible refine B3.far ?_ (by simp only [ne_eq]; omega) _) | (with_reducible apply B3.alloc)))
    have hri1 : RI w1 w.heap.size A n (tb R C f0) := by
      have : RI w1 w.heap.size A n xs := by (repeat (first | (with_reducible exact H2.out) | (with_reducible refine RI.drew ?_) | (with_reducible refine RI.drewN ?_ _) | (with_reducible refine RI.alloc ?_ (by first | omega | (simp; done) | (simp; omega)) _) | (with_reducible refine RI.setCell ?_ (by first | omega | (simp; done) | (simp; omega)) _) | (with_reducible refine RI.below ?_ (by assumption) (by first | omega | (simp; done) | (simp; omega)))))
      rw [HT.out] at this; exact this
    have hbw1 : Below w.heap.size w w1 := by (repeat (first | (with_reducible exact Below.refl _ _) | (with_reducible assumption) | (with_reducible refine below_drewN ?_ _) | (with_reducible refine Below.drew ?_) | (with_reducible refine Below.alloc ?_ ?_ _) | (with_reducible refine Below.setCell ?_ ?_ _) | (with_reducible refine below_into ?_ (by assumption) (by first | omega | (simp; done) | (simp; omega))) | go_size))
    go_wp2_with fail
    refine (spec_l7Echelon R C A n cap f0 _ (B := w.heap.size) hri1 (by first | omega | (simp; done) | (simp; omega)) hn (by omega) (by omega) HBD.out).mono ?_
    rw [HX.out]
    rintro e w2 ⟨A', n', cap', P, k, pc, rfl, ho, hp, hap, hb2⟩
    have hsz2 := hb2.size
    have hl1 := hR1.lt
    have hR2 : BM w2 (w.heap.size + 1) 0 0 none 0 0 := by (repeat (first | (with_reducible exact hR1) | (with_reducible refine BX.new _ _ _ _ _ _ _ _ (by first | omega | (simp; done) | (simp; omega))) | (with_reducible refine BX.below ?_ (by assumption) (by first | omega | (simp; done) | (simp; omega))) | (with_reducible apply BX.drew) | (with_reducible apply BX.drewN) | (with_reducible refine BX.put ?_) | (with_reducible refine BX.put2 ?_) | (with_reducible refine BX.far ?_ (by simp only [ne_eq]; omega) _) | (with_reducible apply BX.alloc) | (with_reducible refine B3.new _ _ _ _ _ _ (by first | omega | (simp; done) | (simp; omega))) | (with_reducible exact B3.of hR1) | (with_reducible refine B3.below ?_ (by assumption) (by first | omega | (simp; done) | (simp; omega))) | (with_reducible apply B3.drew) | (with_reducible apply B3.drewN) | (with_reducible refine B3.far ?_ (by simp only [ne_eq]; omega) _) | (with_reducible apply B3.alloc)))
    have hbw2 : Below w.heap.size w w2 := hbw1.trans (hb2.mono (by omega))
    have ho2 : OR w2 w1.heap.size (.slice A' n' cap') (mxQ R C X).xs := ho
    have hp2 : OR w2 w1.heap.size (.slice P k pc) (psQ X) := hp
    obtain ⟨ra, rb, rc, rf, rl⟩ := hR2.mx
    clear ho hp hb2 hbw1 hR1
    generalize psQ X = ps at *
    generalize X.isSome = b at *
    generalize hmx : mxQ R C X = mx at *
    clear hmx
    obtain ⟨mr, mc, mxs⟩ := mx
    go_wp2_with fail
    refine ret_MTT' (b := w.heap.size + 1) Try.results20 rfl (by (repeat (first | (with_reducible exact hR2) | (with_reducible refine BX.new _ _ _ _ _ _ _ _ (by first | omega | (simp; done) | (simp; omega))) | (with_reducible refine BX.below ?_ (by assumption) (by first | omega | (simp; done) | (simp; omega))) | (with_reducible apply BX.drew) | (with_reducible apply BX.drewN) | (with_reducible refine BX.put ?_) | (with_reducible refine BX.put2 ?_) | (with_reducible refine BX.far ?_ (by simp only [ne_eq]; omega) _) | (with_reducible apply BX.alloc) | (with_reducible refine B3.new _ _ _ _ _ _ (by first | omega | (simp; done) | (simp; omega))) | (with_reducible exact B3.of hR2) | (with_reducible refine B3.below ?_ (by assumption) (by first | omega | (simp; done) | (simp; omega))) | (with_reducible apply B3.drew) | (with_reducible apply B3.drewN) | (with_reducible refine B3.far ?_ (by simp only [ne_eq]; omega) _) | (with_reducible apply B3.alloc)))) rfl ?_
    exact ⟨A', n', cap', P, k, pc, rfl, OR.mono (B := w1.heap.size) (by (repeat (first | (with_reducible exact ho2) | (with_reducible refine OR.drew ?_) | (with_reducible refine OR.drewN ?_ _) | (with_reducible refine OR.alloc ?_ _) | (with_reducible refine OR.below ?_ (by assumption) (by first | omega | (simp; done) | (simp; omega))) | (with_reducible refine OR.low ?_ (by first | omega | (simp only []; omega) | (simp; omega)) _)))) (by omega), OR.mono (B := w1.heap.size) (by (repeat (first | (with_reducible exact hp2) | (with_reducible refine OR.drew ?_) | (with_reducible refine OR.drewN ?_ _) | (with_reducible refine OR.alloc ?_ _) | (with_reducible refine OR.below ?_ (by assumption) (by first | omega | (simp; done) | (simp; omega))) | (with_reducible refine OR.low ?_ (by first | omega | (simp only []; omega) | (simp; omega)) _)))) (by omega), hap, by (repeat (first | (with_reducible exact Below.refl _ _) | (with_reducible assumption) | (with_reducible refine below_drewN ?_ _) | (with_reducible refine Below.drew ?_) | (with_reducible refine Below.alloc ?_ ?_ _) | (with_reducible refine Below.setCell ?_ ?_ _) | (with_reducible refine below_into ?_ (by assumption) (by first | omega | (simp; done) | (simp; omega))) | go_size))⟩
end Go.Proofs.Ytfiilpamekpmpaa

/-
  DERIVED. The contract of impl.RowBound.
-/
import Derived.Test.YtmcbhpaajjlmmaaSq
import Derived.Test.YtmcbhpaajjlmmaaFit
namespace Go.Proofs.Ytmcbhpaajjlmmaa
open Go.RowKit
set_option linter.unusedVariables false
/-- The numbers of a row are within the limit. -/
theorem IsM.row_bd {r c : Int} {xs : List Int} (h : IsM r c xs) (C i : Nat) (k : Nat) : -400000000 ≤ (rowL xs C i).getD k 0 ∧ (rowL xs C i).getD k 0 ≤ 400000000 := by
  by_cases hk : k < C
  · rw [rowL_getD hk]; exact h.nums _
  · have : (rowL xs C i).getD k 0 = 0 := by
      simp only [rowL, List.getD]
      rw [List.getElem?_eq_none (by simp; omega)]; rfl
    rw [this]; omega
set_option maxHeartbeats 2000000 in
theorem impl_RowBound (r c : Int) (A : Option Addr) (n cap : Nat) (xs : List Int) (w : World) {B : Nat} (h : RI w B A n xs) (hB : B ≤ w.heap.size) (hn : n ≤ 1048576) (hnc : n ≤ cap) (hcap : cap ≤ 9223372036854775807) :
    Calls Try.prog 77 #[.agg #[.int .i64 r, .int .i64 c, .slice A n cap]] w (BV (optV (bndRes r c xs)) w) := by
  have hlen := h.len
  have H2 := Lib.hid (h.more hB)
  clear h
  unfold bndRes
  rcases hm : isSq r c xs with _ | _
  · rw [if_neg (by simp)]
    have HM := Lib.hid hm
    clear hm hlen
    go_enter Try.func77, Try.ntmps77
    go_wp2_with (go_at_call 167; refine (impl_IsSquare r c A n cap xs _ (B := w.heap.size) (by (repeat (first | (with_reducible exact H2.out) | (with_reducible refine RI.drew ?_) | (with_reducible refine RI.drewN ?_ _) | (with_reducible refine RI.alloc ?_ (by first | omega | (simp; done) | (simp; omega)) _) | (with_reducible refine RI.setCell ?_ (by first | omega | (simp; done) | (simp; omega)) _) | (with_reducible refine RI.below ?_ (by assumption) (by first | omega | (simp; done) | (simp; omega)))))) (by simp) hn).mono ?_; rw [HM.out]; rintro e w1 ⟨rfl, hb⟩; have hz := hb.size; (try simp at hz); have kk := bkeep (w := w) hb (by first | omega | (simp; done) | (simp; omega)); obtain ⟨kc, kf⟩ := kk; (try (have kk := bkeepb (w.heap.size) hb (by first | omega | (simp; done) | (simp; omega)); obtain ⟨kc0, kf0, kl0⟩ := kk)); (try (have kk := bkeepb (w.heap.size + 1) hb (by first | omega | (simp; done) | (simp; omega)); obtain ⟨kc1, kf1, kl1⟩ := kk)); (try (have kk := bkeepb (w.heap.size + 1 + 1) hb (by first | omega | (simp; done) | (simp; omega)); obtain ⟨kc2, kf2, kl2⟩ := kk)); (try (have kk := bkeepb (w.heap.size + 1 + 1 + 1) hb (by first | omega | (simp; done) | (simp; omega)); obtain ⟨kc3, kf3, kl3⟩ := kk)); (try (have kk := bkeepb (wr.heap.size) hb (by first | omega | (simp; done) | (simp; omega)); obtain ⟨kr0, ks0, kt0⟩ := kk)); (try (have kk := bkeepb (wr.heap.size + 1) hb (by first | omega | (simp; done) | (simp; omega)); obtain ⟨kr1, ks1, kt1⟩ := kk)); (try (have kk := bkeepb (wr.heap.size + 1 + 1) hb (by first | omega | (simp; done) | (simp; omega)); obtain ⟨kr2, ks2, kt2⟩ := kk)))
    go_ret2
    exact BV.mk rfl (by (repeat (first | (with_reducible exact Below.refl _ _) | (with_reducible assumption) | (with_reducible refine below_drewN ?_ _) | (with_reducible refine Below.drew ?_) | (with_reducible refine Below.alloc ?_ ?_ _) | (with_reducible refine Below.setCell ?_ ?_ _) | (with_reducible refine below_into ?_ (by assumption) (by first | omega | (simp; done) | (simp; omega))) | go_size)))
  · rw [if_pos rfl]
    have S := isSq_iff.1 hm
    have HM := Lib.hid hm
    obtain ⟨R, rfl⟩ := nat_of S.m.r0
    obtain rfl := S.e
    have hR : R ≤ 6 := by have := S.le; omega
    have hl1 : n = R * R := by have := S.m.len; rw [← Int.natCast_mul] at this; omega
    have hrb := Lib.hid (fun i => S.m.row_bd R i)
    clear hm hlen S
    simp only [Int.toNat_natCast]
    have HL := Lib.hid hl1
    clear hl1
    go_enter Try.func77, Try.ntmps77
    go_wp2_with (go_at_call 167; refine (impl_IsSquare R R A n cap xs _ (B := w.heap.size) (by (repeat (first | (with_reducible exact H2.out) | (with_reducible refine RI.drew ?_) | (with_reducible refine RI.drewN ?_ _) | (with_reducible refine RI.alloc ?_ (by first | omega | (simp; done) | (simp; omega)) _) | (with_reducible refine RI.setCell ?_ (by first | omega | (simp; done) | (simp; omega)) _) | (with_reducible refine RI.below ?_ (by assumption) (by first | omega | (simp; done) | (simp; omega)))))) (by simp) hn).mono ?_; rw [HM.out]; rintro e w1 ⟨rfl, hb⟩; have hz := hb.size; (try simp at hz); have kk := bkeep (w := w) hb (by first | omega | (simp; done) | (simp; omega)); obtain ⟨kc, kf⟩ := kk; (try (have kk := bkeepb (w.heap.size) hb (by first | omega | (simp; done) | (simp; omega)); obtain ⟨kc0, kf0, kl0⟩ := kk)); (try (have kk := bkeepb (w.heap.size + 1) hb (by first | omega | (simp; done) | (simp; omega)); obtain ⟨kc1, kf1, kl1⟩ := kk)); (try (have kk := bkeepb (w.heap.size + 1 + 1) hb (by first | omega | (simp; done) | (simp; omega)); obtain ⟨kc2, kf2, kl2⟩ := kk)); (try (have kk := bkeepb (w.heap.size + 1 + 1 + 1) hb (by first | omega | (simp; done) | (simp; omega)); obtain ⟨kc3, kf3, kl3⟩ := kk)); (try (have kk := bkeepb (wr.heap.size) hb (by first | omega | (simp; done) | (simp; omega)); obtain ⟨kr0, ks0, kt0⟩ := kk)); (try (have kk := bkeepb (wr.heap.size + 1) hb (by first | omega | (simp; done) | (simp; omega)); obtain ⟨kr1, ks1, kt1⟩ := kk)); (try (have kk := bkeepb (wr.heap.size + 1 + 1) hb (by first | omega | (simp; done) | (simp; omega)); obtain ⟨kr2, ks2, kt2⟩ := kk)))
    have hB1 : Blk w1 w.heap.size 28 #[Value.int .i64 R, Value.int .i64 R, Value.slice A n cap] := (Blk.new _ _ _).below hb (by simp)
    have hbw0 : Below w.heap.size w w1 := by (repeat (first | (with_reducible exact Below.refl _ _) | (with_reducible assumption) | (with_reducible refine below_drewN ?_ _) | (with_reducible refine Below.drew ?_) | (with_reducible refine Below.alloc ?_ ?_ _) | (with_reducible refine Below.setCell ?_ ?_ _) | (with_reducible refine below_into ?_ (by assumption) (by first | omega | (simp; done) | (simp; omega))) | go_size))
    clear hb kc kf kc0 kf0 kl0
    go_loopw [4, 5] (fun u v wr => ∃ (i : Nat) (p : Int), v = .int .i64 i ∧ u = .int .i64 p ∧ (-400000000 ≤ p ∧ p ≤ 400000000) ∧ i ≤ R ∧ bndI p ((rowSums xs R R).drop i) = bndI 1 (rowSums xs R R) ∧ Blk wr w.heap.size 28 #[Value.int .i64 R, Value.int .i64 R, Value.slice A n cap] ∧ Below w.heap.size w wr) (fun _ v _ => R - (intOf v).toNat)
    case atStart => exact ⟨0, 1, rfl, rfl, by omega, Nat.zero_le _, rfl, hB1, hbw0⟩
    case round =>
      obtain ⟨i, p, rfl, rfl, ⟨hp1, hp2⟩, hi, hs0, hblk, hbw⟩ := hrel
      clear hB1 hbw0 hz
      have hc0 := hblk.cell 0
      have hc1 := hblk.cell 1
      have hc2 := hblk.cell 2
      simp at hc0 hc1 hc2
      have hlt := hblk.lt
      by_cases hiR : i < R
      · rw [rowSums_drop hiR, bndI] at hs0
        have HS := Lib.hid hs0
        clear hs0
        have hidx : i * R + R ≤ n := by
          rw [HL.out]
          have := Nat.mul_le_mul_right R (show i + 1 ≤ R by omega)
          rw [Nat.add_mul, Nat.one_mul] at this
          exact this
        have HI := Lib.hid hidx
        clear hidx
        go_wp2_with fail
        refine (impl_row R R i A n cap xs _ (B := w.heap.size) (by (repeat (first | (with_reducible exact H2.out) | (with_reducible refine RI.drew ?_) | (with_reducible refine RI.drewN ?_ _) | (with_reducible refine RI.alloc ?_ (by first | omega | (simp; done) | (simp; omega)) _) | (with_reducible refine RI.setCell ?_ (by first | omega | (simp; done) | (simp; omega)) _) | (with_reducible refine RI.below ?_ (by assumption) (by first | omega | (simp; done) | (simp; omega)))))) (by first | omega | (simp; done) | (simp; omega)) hnc hcap (by omega) (by omega) HI.out).mono ?_
        rintro e w2 ⟨A', cap', rfl, hri, hb2, hcc, hcm⟩
        have HR := Lib.hid hri
        clear hri
        have hz2 := hb2.size; (try simp at hz2); have kk := bkeep (w := w) hb2 (by first | omega | (simp; done) | (simp; omega)); obtain ⟨kc2_, kf2_⟩ := kk; have kk := bkeepb (w.heap.size) hb2 (by first | omega | (simp; done) | (simp; omega)); obtain ⟨kc2_0, kf2_0, kl2_0⟩ := kk
        have hblk2 : Blk w2 w.heap.size 28 #[Value.int .i64 R, Value.int .i64 R, Value.slice A n cap] := by (repeat (first | (with_reducible exact hblk) | (with_reducible refine Blk.new_at _ _ _ _ (by first | omega | (simp; done) | (simp; omega))) | (with_reducible refine Blk.below ?_ (by assumption) (by first | omega | (simp; done) | (simp; omega))) | (with_reducible apply Blk.drew) | (with_reducible apply Blk.drewN) | (with_reducible refine Blk.far ?_ (by simp only [ne_eq]; omega) _) | (with_reducible apply Blk.alloc)))
        have hbw2 : Below w.heap.size w w2 := by (repeat (first | (with_reducible exact Below.refl _ _) | (with_reducible assumption) | (with_reducible refine below_drewN ?_ _) | (with_reducible refine Below.drew ?_) | (with_reducible refine Below.alloc ?_ ?_ _) | (with_reducible refine Below.setCell ?_ ?_ _) | (with_reducible refine below_into ?_ (by assumption) (by first | omega | (simp; done) | (simp; omega))) | go_size))
        have hbd := absSum_bd (hrb.out i)
        go_wp2_with fail
        have hlb := Lib.hid (hrb.out i)
        generalize rowL xs R i = l at *
        obtain ⟨wo, rfl⟩ : ∃ wo : World, wo = wr := ⟨_, rfl⟩
        clear hblk hbw hb2 hlt hc0 hc1 hc2 kc2_ kf2_ kc2_0 kf2_0
        have hlt2 := hblk2.lt
        go_loop [6, 22] (fun u v => ∃ j : Nat, v = .int .i64 j ∧ u = .int .i64 (absSum l j) ∧ j ≤ R) (fun _ v => R - (intOf v).toNat)
        case atStart => exact ⟨0, rfl, rfl, Nat.zero_le _⟩
        case round =>
          obtain ⟨j, rfl, rfl, hj⟩ := hrel
          obtain ⟨t1, t2⟩ := hbd j
          by_cases hjR : j < R
          · obtain ⟨b, o, rfl, hbb, hcells⟩ := HR.out.2 (by omega)
            have c1 := hcells j hjR
            obtain ⟨e1, e2⟩ := hlb.out j
            clear hcells
            have hsx := Lib.hid (show absSum l (j + 1) = absSum l j + (l.getD j 0).natAbs from rfl)
            generalize l.getD j 0 = x at c1 e1 e2 hsx
            go_wp2_with (first | (go_at_call 171; refine (impl_absInt _ _ (by omega) (by omega)).mono ?_; rintro e w' ⟨rfl, rfl⟩))
            go_round
            case rel => exact ⟨j + 1, by go_num, by rw [hsx.out], by omega⟩
            case measure => simp only [intOf]; omega
          · obtain rfl : R = j := by omega
            obtain ⟨q1, q2⟩ := mul_bd2 p (absSum l R) 400000000 2400000000 (by omega) (by omega) t1 (by omega)
            generalize absSum l R = s at *
            by_cases hs : isNum s = true
            · have hs' := (isNum_iff s).1 hs
              by_cases hps : isNum (p * s) = true
              · have hnx := Lib.hid (show bndI (p * s) ((rowSums xs R R).drop (i + 1)) = bndI 1 (rowSums xs R R) by rw [← HS.out, if_pos ⟨hs, hps⟩])
                have hps' := (isNum_iff _).1 hps
                clear hs hps
                go_wp2_with (first | (go_at_call 95; (first | refine (impl_IsNumber_yes _ _ (by omega)).mono ?_ | refine (impl_IsNumber_no _ _ (by omega)).mono ?_ | refine (impl_IsNumber _ _).mono ?_); rintro e w' ⟨rfl, rfl⟩))
                go_roundw
                case rel => exact ⟨i + 1, p * s, by go_num, rfl, by omega, by omega, hnx.out, hblk2, hbw2⟩
                case measure => simp only [intOf]; omega
              · have hf := Lib.hid (show none = bndI 1 (rowSums xs R R) by rw [← HS.out, if_neg (fun h => hps h.2)])
                have hps' := (isNum_not _).1 (by simpa using hps)
                clear hs hps
                go_wp2_with (first | (go_at_call 95; (first | refine (impl_IsNumber_yes _ _ (by omega)).mono ?_ | refine (impl_IsNumber_no _ _ (by omega)).mono ?_ | refine (impl_IsNumber _ _).mono ?_); rintro e w' ⟨rfl, rfl⟩))
                go_ret2
                exact BV.mk (by rw [← hf.out]; rfl) (by (repeat (first | (with_reducible exact Below.refl _ _) | (with_reducible assumption) | (with_reducible refine below_drewN ?_ _) | (with_reducible refine Below.drew ?_) | (with_reducible refine Below.alloc ?_ ?_ _) | (with_reducible refine Below.setCell ?_ ?_ _) | (with_reducible refine below_into ?_ (by assumption) (by first | omega | (simp; done) | (simp; omega))) | go_size)))
            · have hf := Lib.hid (show none = bndI 1 (rowSums xs R R) by rw [← HS.out, if_neg (fun h => hs h.1)])
              have hs' := (isNum_not s).1 (by simpa using hs)
              clear hs
              go_wp2_with (first | (go_at_call 95; (first | refine (impl_IsNumber_yes _ _ (by omega)).mono ?_ | refine (impl_IsNumber_no _ _ (by omega)).mono ?_ | refine (impl_IsNumber _ _).mono ?_); rintro e w' ⟨rfl, rfl⟩))
              go_ret2
              exact BV.mk (by rw [← hf.out]; rfl) (by (repeat (first | (with_reducible exact Below.refl _ _) | (with_reducible assumption) | (with_reducible refine below_drewN ?_ _) | (with_reducible refine Below.drew ?_) | (with_reducible refine Below.alloc ?_ ?_ _) | (with_reducible refine Below.setCell ?_ ?_ _) | (with_reducible refine below_into ?_ (by assumption) (by first | omega | (simp; done) | (simp; omega))) | go_size)))
      · obtain rfl : R = i := by omega
        rw [rowSums_end] at hs0
        have hf := Lib.hid (show some p = bndI 1 (rowSums xs R R) from hs0)
        clear hs0
        go_wp2
        go_ret2
        exact BV.mk (by rw [← hf.out]; rfl) (by (repeat (first | (with_reducible exact Below.refl _ _) | (with_reducible assumption) | (with_reducible refine below_drewN ?_ _) | (with_reducible refine Below.drew ?_) | (with_reducible refine Below.alloc ?_ ?_ _) | (with_reducible refine Below.setCell ?_ ?_ _) | (with_reducible refine below_into ?_ (by assumption) (by first | omega | (simp; done) | (simp; omega))) | go_size)))
end Go.Proofs.Ytmcbhpaajjlmmaa

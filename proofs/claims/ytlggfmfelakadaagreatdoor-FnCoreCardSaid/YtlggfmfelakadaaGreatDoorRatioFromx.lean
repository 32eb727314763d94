/-
  DERIVED. The contracts of RatioFrom, both; the law FnExactRatioFrom.
-/
import Derived.Test.YtlggfmfelakadaaGreatDoorc3
namespace Go.Proofs.YtlggfmfelakadaaGreatDoor
open Go.RowKit
set_option linter.unusedVariables false
def rfOkB (a m b : Int) : Bool := isNum a && decide (1 ≤ m) && decide (m ≤ 400000000) && decide (1 ≤ b) && decide (b ≤ 20000) && decide (2 * b * b < m)
def rfRes (a m b : Int) : Option (Int × Int) := if rfOkB a m b then rfI a m b b.toNat 1 else none
def rfV : Option (Int × Int) → Value
  | none => .tuple #[.agg #[.int .i64 0, .int .i64 0], .bool false]
  | some (n, d) => .tuple #[.agg #[.int .i64 n, .int .i64 d], .bool true]
theorem rf_cases (a m b : Int) : (rfRes a m b = none ∧ (a < -400000000 ∨ 400000000 < a)) ∨ (rfRes a m b = none ∧ (-400000000 ≤ a ∧ a ≤ 400000000) ∧ m < 1) ∨
    (rfRes a m b = none ∧ (-400000000 ≤ a ∧ a ≤ 400000000) ∧ 1 ≤ m ∧ 400000000 < m) ∨ (rfRes a m b = none ∧ (-400000000 ≤ a ∧ a ≤ 400000000) ∧ (1 ≤ m ∧ m ≤ 400000000) ∧ b < 1) ∨
    (rfRes a m b = none ∧ (-400000000 ≤ a ∧ a ≤ 400000000) ∧ (1 ≤ m ∧ m ≤ 400000000) ∧ 1 ≤ b ∧ 20000 < b) ∨
    (rfRes a m b = none ∧ (-400000000 ≤ a ∧ a ≤ 400000000) ∧ (1 ≤ m ∧ m ≤ 400000000) ∧ (1 ≤ b ∧ b ≤ 20000) ∧ m ≤ 2 * b * b) ∨
    (rfRes a m b = rfI a m b b.toNat 1 ∧ RfOk a m b) := by
  have hk : rfOkB a m b = true ↔ (-400000000 ≤ a ∧ a ≤ 400000000) ∧ (1 ≤ m ∧ m ≤ 400000000) ∧ (1 ≤ b ∧ b ≤ 20000) ∧ 2 * b * b < m := by
    simp [rfOkB, isNum, and_assoc]
  unfold rfRes
  by_cases h1 : -400000000 ≤ a ∧ a ≤ 400000000
  · by_cases h2 : m < 1
    · exact .inr (.inl ⟨if_neg (by rw [hk]; omega), h1, h2⟩)
    · by_cases h3 : 400000000 < m
      · exact .inr (.inr (.inl ⟨if_neg (by rw [hk]; omega), h1, by omega, h3⟩))
      · by_cases h4 : b < 1
        · exact .inr (.inr (.inr (.inl ⟨if_neg (by rw [hk]; omega), h1, by omega, h4⟩)))
        · by_cases h5 : 20000 < b
          · exact .inr (.inr (.inr (.inr (.inl ⟨if_neg (by rw [hk]; omega), h1, by omega, by omega, h5⟩))))
          · by_cases h6 : m ≤ 2 * b * b
            · exact .inr (.inr (.inr (.inr (.inr (.inl ⟨if_neg (by rw [hk]; omega), h1, by omega, by omega, h6⟩)))))
            · exact .inr (.inr (.inr (.inr (.inr (.inr ⟨if_pos (by rw [hk]; omega), ⟨h1.1, h1.2, by omega, by omega, by omega, by omega, by omega⟩⟩)))))
  · exact .inl ⟨if_neg (by rw [hk]; omega), by omega⟩
theorem symOf_bds (x m : Int) (hm : 1 ≤ m) : -m ≤ symOf x m ∧ symOf x m ≤ m := by
  have h1 := Int.emod_nonneg x (show m ≠ 0 by omega)
  have h2 := Int.emod_lt_of_pos x (show 0 < m by omega)
  unfold symOf
  split <;> omega
theorem rfI_hit {a m b d : Int} {k : Nat} (h1 : (((symOf (a * d % m) m).natAbs : Nat) : Int) ≤ b) (h2 : imgOk (symOf (a * d % m) m) d a m = true) : rfI a m b (k + 1) d = some (symOf (a * d % m) m, d) := by
  rw [rfI, if_pos ⟨h1, h2⟩]
theorem rfI_miss {a m b d : Int} {k : Nat} (h : ¬ ((((symOf (a * d % m) m).natAbs : Nat) : Int) ≤ b ∧ imgOk (symOf (a * d % m) m) d a m = true)) : rfI a m b (k + 1) d = rfI a m b k (d + 1) := by
  rw [rfI, if_neg h]
theorem sq20000 (b : Int) (h1 : 1 ≤ b) (h2 : b ≤ 20000) : 1 ≤ b * b ∧ b * b ≤ 400000000 ∧ 2 * b * b = 2 * (b * b) := by
  have h3 : 1 * 1 ≤ b * b := Int.mul_le_mul h1 h1 (by omega) (by omega)
  have h4 : b * b ≤ 20000 * 20000 := Int.mul_le_mul h2 h2 (by omega) (by omega)
  exact ⟨by omega, by omega, Int.mul_assoc _ _ _⟩

set_option maxHeartbeats 1000000 in
theorem impl_RatioFrom (a m b : Int) (w : World) : Calls Tryz.prog 34 #[.int .i64 a, .int .i64 m, .int .i64 b] w (BV (rfV (rfRes a m b)) w) := by
  rcases rf_cases a m b with ⟨hr, h1⟩ | ⟨hr, h1, h2⟩ | ⟨hr, h1, h2, h3⟩ | ⟨hr, h1, h2, h3⟩ | ⟨hr, h1, h2, h3, h4⟩ | ⟨hr, h1, h2, ⟨h3, h3'⟩, h4⟩ | ⟨hr, g⟩
  iterate 5
    · rw [hr]
      clear hr
      go_enter Tryz.func34, Tryz.ntmps34
      go_wp2_with (first | (go_at_call 42; (first | refine (impl_IsNumber_yes _ _ (by omega)).mono ?_ | refine (impl_IsNumber_no _ _ (by omega)).mono ?_ | refine (impl_IsNumber _ _).mono ?_); rintro e w' ⟨rfl, rfl⟩))
      go_returns
      exact BV.mk rfl Kw
  · rw [hr]
    clear hr
    obtain ⟨s1, s2, s3⟩ := sq20000 b h3 h3'
    have hb := Lib.hid s3
    have s4 : 2 * b * b ≤ 800000000 := by omega
    have s5 : 0 ≤ 2 * b * b := by omega
    clear s3
    go_enter Tryz.func34, Tryz.ntmps34
    go_wp2_with (first | (go_at_call 42; (first | refine (impl_IsNumber_yes _ _ (by omega)).mono ?_ | refine (impl_IsNumber_no _ _ (by omega)).mono ?_ | refine (impl_IsNumber _ _).mono ?_); rintro e w' ⟨rfl, rfl⟩))
    go_returns
    exact BV.mk rfl Kw
  · rw [hr]
    clear hr
    have G := Lib.hid g
    obtain ⟨a1, a2, m1, m2, b1, b2, bm⟩ := g
    obtain ⟨s1, s2, s3⟩ := sq20000 b b1 b2
    have hb := Lib.hid s3
    have s4 : 2 * b * b ≤ 800000000 := by omega
    have s5 : 0 ≤ 2 * b * b := by omega
    clear s3
    go_enter Tryz.func34, Tryz.ntmps34
    go_wp2_with (first | (go_at_call 42; (first | refine (impl_IsNumber_yes _ _ (by omega)).mono ?_ | refine (impl_IsNumber_no _ _ (by omega)).mono ?_ | refine (impl_IsNumber _ _).mono ?_); rintro e w' ⟨rfl, rfl⟩))
    go_loopw [8] (fun v wr => ∃ d : Int, v = .int .i64 d ∧ 1 ≤ d ∧ d ≤ b + 1 ∧ rfI a m b (b + 1 - d).toNat d = rfI a m b b.toNat 1 ∧ Blk wr w.heap.size 38 #[.int .i64 0, .int .i64 0] ∧ Below w.heap.size w wr) (fun v _ => (b + 1 - intOf v).toNat)
    case atStart => exact ⟨1, rfl, by omega, by omega, by rw [show b + 1 - 1 = b by omega], Blk.new _ _ _, Kw⟩
    case round =>
      obtain ⟨d, rfl, hd1, hd2, hs0, hblk, hbw⟩ := hrel
      have hc0 := hblk.cell 0
      have hc1 := hblk.cell 1
      have hf0 := hblk.frozen 0
      have hf1 := hblk.frozen 1
      have hlt := hblk.lt
      simp at hc0 hc1
      by_cases hle : d ≤ b
      · have hk : (b + 1 - d).toNat = (b + 1 - (d + 1)).toNat + 1 := by omega
        rw [hk] at hs0
        obtain ⟨p1, p2⟩ := mul_bd2 a d 400000000 20000 a1 a2 (by omega) (by omega)
        obtain ⟨e1, e2⟩ := (show 0 ≤ a * d % m ∧ a * d % m < m from ⟨Int.emod_nonneg _ (by omega), Int.emod_lt_of_pos _ (by omega)⟩)
        obtain ⟨n1, n2⟩ := symOf_bds (a * d % m) m m1
        have hsr : symRes (a * d % m) m = symOf (a * d % m) m := by simp [symRes, symOk_yes (x := a * d % m) (m := m) (by omega) ⟨m1, m2⟩]
        have hit := fun h1 h2 => rfI_hit (a := a) (m := m) (b := b) (d := d) (k := (b + 1 - (d + 1)).toNat) h1 h2
        have miss := fun h => rfI_miss (a := a) (m := m) (b := b) (d := d) (k := (b + 1 - (d + 1)).toNat) h
        generalize symOf (a * d % m) m = n at *
        have S0 := Lib.hid hs0
        have SR := Lib.hid hsr
        clear hs0 hsr hk
        by_cases ht : ((n.natAbs : Nat) : Int) ≤ b
        · rcases hi : imgOk n d a m with _ | _
          · have hm2 := Lib.hid ((miss (by rw [hi]; simp)).symm.trans S0.out)
            clear hit miss
            go_wp2_with (first | (first | (go_at_call 64; refine (impl_mod _ _ _ (by omega) (by omega) (by omega) (by omega)).mono ?_; rintro e w' ⟨rfl, rfl⟩) | (go_at_call 65; refine (impl_absInt _ _ (by omega) (by omega)).mono ?_; rintro e w' ⟨rfl, rfl⟩) | (go_at_call 66; refine (impl_IsImage _ _ _ _ _).mono ?_; rintro e w1 ⟨rfl, hb⟩; have hz := hb.size; (try simp at hz); have kk := bkeep (w := w) hb Ks; obtain ⟨kc, kf⟩ := kk; (try (have kk := bkeepb (w.heap.size) hb Ks; obtain ⟨kc0, kf0, kl0⟩ := kk)); (try (have kk := bkeepb (w.heap.size + 1) hb Ks; obtain ⟨kc1, kf1, kl1⟩ := kk)); (try (have kk := bkeepb (w.heap.size + 1 + 1) hb Ks; obtain ⟨kc2, kf2, kl2⟩ := kk)); (try (have kk := bkeepb (w.heap.size + 1 + 1 + 1) hb Ks; obtain ⟨kc3, kf3, kl3⟩ := kk)); (try (have kk := bkeepb (wr.heap.size) hb Ks; obtain ⟨kr0, ks0, kt0⟩ := kk)); (try (have kk := bkeepb (wr.heap.size + 1) hb Ks; obtain ⟨kr1, ks1, kt1⟩ := kk)); (try (have kk := bkeepb (wr.heap.size + 1 + 1) hb Ks; obtain ⟨kr2, ks2, kt2⟩ := kk)))) | (go_at_call 45; refine (impl_SymmetricOf _ _ (by omega) _).mono ?_; rw [SR.out]; rintro e w' ⟨rfl, rfl⟩))
            go_roundw
            case rel => exact ⟨d + 1, rfl, by omega, by omega, hm2.out, (hblk.alloc _).below hb (by simp; omega), Kw⟩
            case measure => simp only [intOf]; omega
          · have hm2 := Lib.hid ((hit ht hi).symm.trans S0.out)
            clear hit miss
            go_wp2_with (first | (first | (go_at_call 64; refine (impl_mod _ _ _ (by omega) (by omega) (by omega) (by omega)).mono ?_; rintro e w' ⟨rfl, rfl⟩) | (go_at_call 65; refine (impl_absInt _ _ (by omega) (by omega)).mono ?_; rintro e w' ⟨rfl, rfl⟩) | (go_at_call 66; refine (impl_IsImage _ _ _ _ _).mono ?_; rintro e w1 ⟨rfl, hb⟩; have hz := hb.size; (try simp at hz); have kk := bkeep (w := w) hb Ks; obtain ⟨kc, kf⟩ := kk; (try (have kk := bkeepb (w.heap.size) hb Ks; obtain ⟨kc0, kf0, kl0⟩ := kk)); (try (have kk := bkeepb (w.heap.size + 1) hb Ks; obtain ⟨kc1, kf1, kl1⟩ := kk)); (try (have kk := bkeepb (w.heap.size + 1 + 1) hb Ks; obtain ⟨kc2, kf2, kl2⟩ := kk)); (try (have kk := bkeepb (w.heap.size + 1 + 1 + 1) hb Ks; obtain ⟨kc3, kf3, kl3⟩ := kk)); (try (have kk := bkeepb (wr.heap.size) hb Ks; obtain ⟨kr0, ks0, kt0⟩ := kk)); (try (have kk := bkeepb (wr.heap.size + 1) hb Ks; obtain ⟨kr1, ks1, kt1⟩ := kk)); (try (have kk := bkeepb (wr.heap.size + 1 + 1) hb Ks; obtain ⟨kr2, ks2, kt2⟩ := kk)))) | (go_at_call 45; refine (impl_SymmetricOf _ _ (by omega) _).mono ?_; rw [SR.out]; rintro e w' ⟨rfl, rfl⟩))
            refine bodyPost_ret (v := .tuple #[.agg #[.int .i64 n, .int .i64 d], .bool true]) (by simp [results, Tryz.results34, go_sem, kc0, hc0, hc1, hlt]) rfl ?_
            exact BV.mk (by rw [← hm2.out]; rfl) Kw
        · have hm2 := Lib.hid ((miss (fun h => ht h.1)).symm.trans S0.out)
          clear hit miss
          go_wp2_with (first | (first | (go_at_call 64; refine (impl_mod _ _ _ (by omega) (by omega) (by omega) (by omega)).mono ?_; rintro e w' ⟨rfl, rfl⟩) | (go_at_call 65; refine (impl_absInt _ _ (by omega) (by omega)).mono ?_; rintro e w' ⟨rfl, rfl⟩) | (go_at_call 66; refine (impl_IsImage _ _ _ _ _).mono ?_; rintro e w1 ⟨rfl, hb⟩; have hz := hb.size; (try simp at hz); have kk := bkeep (w := w) hb Ks; obtain ⟨kc, kf⟩ := kk; (try (have kk := bkeepb (w.heap.size) hb Ks; obtain ⟨kc0, kf0, kl0⟩ := kk)); (try (have kk := bkeepb (w.heap.size + 1) hb Ks; obtain ⟨kc1, kf1, kl1⟩ := kk)); (try (have kk := bkeepb (w.heap.size + 1 + 1) hb Ks; obtain ⟨kc2, kf2, kl2⟩ := kk)); (try (have kk := bkeepb (w.heap.size + 1 + 1 + 1) hb Ks; obtain ⟨kc3, kf3, kl3⟩ := kk)); (try (have kk := bkeepb (wr.heap.size) hb Ks; obtain ⟨kr0, ks0, kt0⟩ := kk)); (try (have kk := bkeepb (wr.heap.size + 1) hb Ks; obtain ⟨kr1, ks1, kt1⟩ := kk)); (try (have kk := bkeepb (wr.heap.size + 1 + 1) hb Ks; obtain ⟨kr2, ks2, kt2⟩ := kk)))) | (go_at_call 45; refine (impl_SymmetricOf _ _ (by omega) _).mono ?_; rw [SR.out]; rintro e w' ⟨rfl, rfl⟩))
          go_roundw
          case rel => exact ⟨d + 1, rfl, by omega, by omega, hm2.out, (hblk.alloc _), Kw⟩
          case measure => simp only [intOf]; omega
      · have hnone := Lib.hid (show rfI a m b b.toNat 1 = none by rw [← hs0, show (b + 1 - d).toNat = 0 by omega]; rfl)
        clear hs0
        go_wp2
        refine bodyPost_ret (v := .tuple #[.agg #[.int .i64 0, .int .i64 0], .bool false]) (by simp [results, Tryz.results34, go_sem, hc0, hc1]) rfl ?_
        exact BV.mk (by rw [hnone.out]; rfl) Kw
end Go.Proofs.YtlggfmfelakadaaGreatDoor

/-
  DERIVED. IdentityMatrix of both.
-/
import Derived.Test.YtlggfmfelakadaaX2
import Derived.Test.YtlggfmfelakadaaX4
import Derived.Test.YtlggfmfelakadaaRowOpx
namespace Go.Proofs.Ytlggfmfelakadaa
open Go.RowKit
set_option linter.unusedVariables false
set_option linter.unusedSimpArgs false
def idK (k : Nat) : Fn2 := fun i j => if i = j ∧ i < k then 1 else 0
theorem idK_zero : idK 0 = fun _ _ => 0 := by funext i j; simp [idK]
theorem idK_step (k : Nat) : upd (idK k) k k 1 = idK (k + 1) := by
  funext i j
  unfold upd idK
  by_cases h : i = k ∧ j = k
  · rw [if_pos h, if_pos ⟨by omega, by omega⟩]
  · rw [if_neg h]
    by_cases h2 : i = j ∧ i < k
    · rw [if_pos h2, if_pos ⟨h2.1, by omega⟩]
    · rw [if_neg h2, if_neg]
      rintro ⟨h3, h4⟩
      exact h2 ⟨h3, by have : i ≠ k := fun e => h ⟨e, by omega⟩; omega⟩
theorem idK_end (n : Nat) : tb n n (idK n) = tb n n idF := tb_ext fun i j hi hj => by
  unfold idK idF
  by_cases h : i = j
  · rw [if_pos ⟨h, hi⟩, if_pos h]
  · rw [if_neg (fun k => h k.1), if_neg h]
set_option maxHeartbeats 4000000 in
theorem impl_IdentityMatrix (n : Nat) (w : World) (hn : n ≤ 24) :
    Calls Try.prog 56 #[.int .i64 n] w (MBR ⟨n, n, tb n n idF⟩ true w) := by
  have hnn : n * n ≤ 24 * 24 := Nat.mul_le_mul hn hn
  go_enter Try.func56, Try.ntmps56
  go_wp2_with fail
  refine (impl_newMatrix n n _ (by omega) (by omega) (by omega)).mono ?_
  rintro e w1 ⟨A, m, cap, rfl, how0, hb1⟩
  have hsz1 := hb1.size
  simp at hsz1
  have hR1 : BM w1 w.heap.size 0 0 none 0 0 := Ka
  have hbw1 : Below w.heap.size w w1 := Kw
  generalize hbO : w1.heap.size = bO at *
  have hR : BM (w1.alloc (.cells #[.int .i64 n, .int .i64 n, .slice A m cap] 26)) w.heap.size 0 0 none 0 0 := Kb hR1
  have hO : BM (w1.alloc (.cells #[.int .i64 n, .int .i64 n, .slice A m cap] 26)) bO n n A m cap := Ka
  have hown : OR (w1.alloc (.cells #[.int .i64 n, .int .i64 n, .slice A m cap] 26)) (w.heap.size + 1) (.slice A m cap) (tb n n (idK 0)) := by
    rw [idK_zero, tb_zeros]; exact OR.alloc (OR.mono (xs := List.replicate (n * n) 0) how0 (by simp)) _
  have hbw : Below w.heap.size w (w1.alloc (.cells #[.int .i64 n, .int .i64 n, .slice A m cap] 26)) := Kw
  have HU : Hid (Own (.slice A m cap) (w.heap.size + 1) bO) := Lib.hid (by rw [← hbO]; exact (OR.own (xs := List.replicate (n * n) 0) how0).wide (by simp) (Nat.le_refl _))
  have hbO2 : w.heap.size + 1 ≤ bO := by omega
  clear hR1 hbw1 how0 hb1
  obtain ⟨oa, ob, oc, of, ol⟩ := hO.mx; obtain ⟨ra, rb, rc, rf, rl⟩ := hR.mx
  go_wp2_with fail
  generalize w1.alloc (.cells #[.int .i64 n, .int .i64 n, .slice A m cap] 26) = wo at *
  go_loopw [5] (fun v wr => ∃ k : Nat, v = .int .i64 k ∧ k ≤ n ∧ BM wr w.heap.size 0 0 none 0 0 ∧ BM wr bO n n A m cap ∧ OR wr (w.heap.size + 1) (.slice A m cap) (tb n n (idK k)) ∧ Below w.heap.size w wr) (fun v _ => n - (intOf v).toNat)
  case atStart => exact ⟨0, rfl, Nat.zero_le _, hR, hO, hown, hbw⟩
  case round =>
    clear hR hO hown hbw oa ob oc of ol ra rb rc rf rl
    obtain ⟨k, rfl, hk, hR, hO, hown, hbw⟩ := hrel
    obtain ⟨oa, ob, oc, of, ol⟩ := hO.mx; obtain ⟨ra, rb, rc, rf, rl⟩ := hR.mx
    have hszw := hbw.size
    by_cases hkn : k < n
    · have HST := Lib.hid (idK_step k)
      go_wp2_with fail
      refine (impl_set_tb n n k k 1 A m cap (idK k) (idK (k + 1)) HST.out _ (B := w.heap.size + 1) (Ko hown) (by omega) (by omega) hkn hkn).mono ?_
      rintro e w2 ⟨rfl, hown2, hgr, hsz2⟩
      have hR2 : BM w2 w.heap.size 0 0 none 0 0 := BX.keptOwn (Kb hR) hgr HU.out (by omega)
      have hO2 : BM w2 bO n n A m cap := BX.keptOwn (Kb hO) hgr HU.out (by omega)
      have hbw2 : Below w.heap.size w w2 := Below.trans Kw (below_keptOwn hgr HU.out (by omega) Ks)
      go_wp2_with fail
      go_roundw
      case rel => exact ⟨k + 1, by go_num, by omega, Kb hR2, Kb hO2, Ko hown2, Kw⟩
      case measure => simp only [intOf]; omega
    · obtain rfl : k = n := by omega
      have hown2 := hown.as (idK_end k)
      clear hown
      go_wp2_with fail
      refine ret_MB (r := k) (c := k) (A := A) (n := m) (cap := cap) Try.results56 rfl (Kb hR) rfl ?_
      exact MBR.mk rfl (OR.mono (B := w.heap.size + 1) (Ko hown2) (by omega)) Kw
set_option maxHeartbeats 4000000 in
theorem spec_IdentityMatrix (n : Nat) (w : World) (hn : n ≤ 24) :
    Calls Try.prog 51 #[.int .i64 n] w (MBR ⟨n, n, tb n n idF⟩ true w) := by
  have hnn : n * n ≤ 24 * 24 := Nat.mul_le_mul hn hn
  go_enter Try.func51, Try.ntmps51
  go_wp2_with (first | (go_at_call 101; (first | refine (spec_l1In_yes _ _ _ _ (by omega)).mono ?_ | refine (spec_l1In_no _ _ _ _ (by omega)).mono ?_ | refine (spec_l1In _ _ _ _).mono ?_); rintro e w' ⟨rfl, rfl⟩))
  refine (spec_l3New n n _ (by omega) (by omega) (by omega)).mono ?_
  rintro e w1 ⟨A, m, cap, rfl, how0, hb1⟩
  have hsz1 := hb1.size
  simp at hsz1
  have hR1 : BM w1 w.heap.size 0 0 none 0 0 := Ka
  have hbw1 : Below w.heap.size w w1 := Kw
  generalize hbO : w1.heap.size = bO at *
  have hR : BM (w1.alloc (.cells #[.int .i64 n, .int .i64 n, .slice A m cap] 26)) w.heap.size 0 0 none 0 0 := Kb hR1
  have hO : BM (w1.alloc (.cells #[.int .i64 n, .int .i64 n, .slice A m cap] 26)) bO n n A m cap := Ka
  have hown : OR (w1.alloc (.cells #[.int .i64 n, .int .i64 n, .slice A m cap] 26)) (w.heap.size + 1) (.slice A m cap) (tb n n (idK 0)) := by
    rw [idK_zero, tb_zeros]; exact OR.alloc (OR.mono (xs := List.replicate (n * n) 0) how0 (by simp)) _
  have hbw : Below w.heap.size w (w1.alloc (.cells #[.int .i64 n, .int .i64 n, .slice A m cap] 26)) := Kw
  have HU : Hid (Own (.slice A m cap) (w.heap.size + 1) bO) := Lib.hid (by rw [← hbO]; exact (OR.own (xs := List.replicate (n * n) 0) how0).wide (by simp) (Nat.le_refl _))
  have hbO2 : w.heap.size + 1 ≤ bO := by omega
  clear hR1 hbw1 how0 hb1
  obtain ⟨oa, ob, oc, of, ol⟩ := hO.mx; obtain ⟨ra, rb, rc, rf, rl⟩ := hR.mx
  go_wp2_with fail
  generalize w1.alloc (.cells #[.int .i64 n, .int .i64 n, .slice A m cap] 26) = wo at *
  go_loopw [5] (fun v wr => ∃ k : Nat, v = .int .i64 k ∧ k ≤ n ∧ BM wr w.heap.size 0 0 none 0 0 ∧ BM wr bO n n A m cap ∧ OR wr (w.heap.size + 1) (.slice A m cap) (tb n n (idK k)) ∧ Below w.heap.size w wr) (fun v _ => n - (intOf v).toNat)
  case atStart => exact ⟨0, rfl, Nat.zero_le _, hR, hO, hown, hbw⟩
  case round =>
    clear hR hO hown hbw oa ob oc of ol ra rb rc rf rl
    obtain ⟨k, rfl, hk, hR, hO, hown, hbw⟩ := hrel
    obtain ⟨oa, ob, oc, of, ol⟩ := hO.mx; obtain ⟨ra, rb, rc, rf, rl⟩ := hR.mx
    have hszw := hbw.size
    by_cases hkn : k < n
    · have hln := hown.lenEq
      rw [tb_len] at hln
      obtain ⟨g, rfl, hg1, hg2⟩ := hown.begins (by rw [tb_len]; exact Nat.mul_pos (by omega) (by omega))
      have hix := idx_nat hkn hkn
      have c1 := hown.cell (k * n + k) (by rw [tb_len]; exact hix)
      have f1 := hown.frozen (k * n + k)
      have hst := hown.set_ (k * n + k) 1
      rw [tb_set hkn hkn, idK_step] at hst
      have i1 : (k : Int) * (n : Int) = ((k * n : Nat) : Int) := by rw [Int.natCast_mul]
      have i2 : 0 ≤ (k : Int) * (n : Int) ∧ (k : Int) * (n : Int) + (k : Int) < (m : Int) ∧ (k : Int) * (n : Int) ≤ 10000 := by omega
      obtain ⟨i2, i3, i4⟩ := i2
      have hgU := HU.out g rfl
      have hgO : ¬ g = bO := by omega
      have hg0 : ¬ g = w.heap.size := by omega
      generalize hcv : (tb n n (idK k)).getD (k * n + k) 0 = cv at c1
      clear i1 hix hln hcv
      go_wp2_with fail
      go_roundw
      case rel => exact ⟨k + 1, by go_num, by omega, Kb hR, Kb hO, hst, Kw⟩
      case measure => simp only [intOf]; omega
    · obtain rfl : k = n := by omega
      have hown2 := hown.as (idK_end k)
      clear hown
      go_wp2_with fail
      refine ret_MB (r := k) (c := k) (A := A) (n := m) (cap := cap) Try.results51 rfl (Kb hR) rfl ?_
      exact MBR.mk rfl (OR.mono (B := w.heap.size + 1) (Ko hown2) (by omega)) Kw
end Go.Proofs.Ytlggfmfelakadaa

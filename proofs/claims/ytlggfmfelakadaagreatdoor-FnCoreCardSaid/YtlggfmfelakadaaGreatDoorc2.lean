/-
  DERIVED. Several small texts in one: Num, PlTy, Mat, Fit, Copy, Lv, Mods, Own, CopyS, Lawkit, Append2.
-/
import Derived.Test.YtlggfmfelakadaaGreatDoorc1
import Derived.Test.YtlggfmfelakadaaGreatDoorRows
import Derived.WalkSmall
import Derived.Sort.Grow
import Derived.Lib.AtoiErrMem
import Derived.Deep.RegionLaw
/-
  DERIVED. The contracts of the small functions on numbers: impl.IsNumber, absInt, gcd, mod; spec.l1In, IsNumber, l1Abs, GcdOf, l8Mod; IsPrime of both.
-/
namespace Go.Proofs.YtlggfmfelakadaaGreatDoor
open Go.RowKit
set_option linter.unusedVariables false

theorem impl_IsNumber (n : Int) (w : World) : Calls Tryz.prog 42 #[.int .i64 n] w fun e w' => e = .returned (.bool (isNum n)) ∧ w = w' := by
  unfold isNum
  go_enter Tryz.func42, Tryz.ntmps42
  go_wp2
  all_goals go_ret
  all_goals refine ⟨ret_bool ?_, rfl⟩
  all_goals simp
  all_goals omega

theorem spec_l1In (x lo hi : Int) (w : World) : Calls Tryz.prog 28 #[.int .i64 x, .int .i64 lo, .int .i64 hi] w fun e w' => e = .returned (.bool (decide (lo ≤ x) && decide (x ≤ hi))) ∧ w = w' := by
  go_enter Tryz.func28, Tryz.ntmps28
  go_wp2
  all_goals go_ret
  all_goals refine ⟨ret_bool ?_, rfl⟩
  all_goals simp
  all_goals omega

theorem spec_IsNumber (n : Int) (w : World) : Calls Tryz.prog 29 #[.int .i64 n] w fun e w' => e = .returned (.bool (isNum n)) ∧ w = w' := by
  go_enter Tryz.func29, Tryz.ntmps29
  go_wp2_with (go_at_call 28; refine (spec_l1In _ _ _ _).mono ?_; rintro e w' ⟨rfl, rfl⟩)
  all_goals go_ret
  all_goals exact ⟨rfl, rfl⟩

theorem impl_IsNumber_yes (n : Int) (w : World) (h : -400000000 ≤ n ∧ n ≤ 400000000) : Calls Tryz.prog 42 #[.int .i64 n] w fun e w' => e = .returned (.bool true) ∧ w = w' := by
  have := impl_IsNumber n w
  rwa [(isNum_iff n).2 h] at this
theorem impl_IsNumber_no (n : Int) (w : World) (h : n < -400000000 ∨ 400000000 < n) : Calls Tryz.prog 42 #[.int .i64 n] w fun e w' => e = .returned (.bool false) ∧ w = w' := by
  have := impl_IsNumber n w
  rwa [(isNum_not n).2 h] at this
theorem spec_IsNumber_yes (n : Int) (w : World) (h : -400000000 ≤ n ∧ n ≤ 400000000) : Calls Tryz.prog 29 #[.int .i64 n] w fun e w' => e = .returned (.bool true) ∧ w = w' := by
  have := spec_IsNumber n w
  rwa [(isNum_iff n).2 h] at this
theorem spec_IsNumber_no (n : Int) (w : World) (h : n < -400000000 ∨ 400000000 < n) : Calls Tryz.prog 29 #[.int .i64 n] w fun e w' => e = .returned (.bool false) ∧ w = w' := by
  have := spec_IsNumber n w
  rwa [(isNum_not n).2 h] at this
theorem spec_l1In_yes (x lo hi : Int) (w : World) (h : lo ≤ x ∧ x ≤ hi) : Calls Tryz.prog 28 #[.int .i64 x, .int .i64 lo, .int .i64 hi] w fun e w' => e = .returned (.bool true) ∧ w = w' := by
  have := spec_l1In x lo hi w
  rwa [show (decide (lo ≤ x) && decide (x ≤ hi)) = true by simpa using h] at this
theorem spec_l1In_no (x lo hi : Int) (w : World) (h : x < lo ∨ hi < x) : Calls Tryz.prog 28 #[.int .i64 x, .int .i64 lo, .int .i64 hi] w fun e w' => e = .returned (.bool false) ∧ w = w' := by
  have := spec_l1In x lo hi w
  rwa [show (decide (lo ≤ x) && decide (x ≤ hi)) = false by simp; omega] at this

theorem impl_absInt (n : Int) (w : World) (h : -9223372036854775807 ≤ n) (h2 : n ≤ 9223372036854775807) : Calls Tryz.prog 65 #[.int .i64 n] w fun e w' => e = .returned (.int .i64 n.natAbs) ∧ w = w' := by
  go_enter Tryz.func65, Tryz.ntmps65
  go_wp2
  all_goals go_ret
  · exact ⟨ret_int (show -n = _ by omega), rfl⟩
  · exact ⟨ret_int (show n = _ by omega), rfl⟩

theorem impl_mod (a p : Int) (w : World) (hp : 0 < p) (hp2 : p ≤ 4000000000000000000) (h1 : -9223372036854775808 ≤ a) (h2 : a ≤ 9223372036854775807) : Calls Tryz.prog 64 #[.int .i64 a, .int .i64 p] w fun e w' => e = .returned (.int .i64 (a % p)) ∧ w = w' := by
  obtain ⟨hm1, hm2⟩ := tmod_lt a p hp
  have HA : Hid (a.tmod p < 0 → a % p = a.tmod p + p) := emod_of_tmod_neg a p hp
  have HB : Hid (0 ≤ a.tmod p → a % p = a.tmod p) := emod_of_tmod_nonneg a p hp
  go_enter Tryz.func64, Tryz.ntmps64
  go_wp2
  all_goals go_ret
  · exact ⟨ret_int (HA.out (by assumption)).symm, rfl⟩
  · exact ⟨ret_int (HB.out (by assumption)).symm, rfl⟩

theorem impl_gcd (a b : Int) (w : World) (ha : -9223372036854775807 ≤ a) (ha2 : a ≤ 9223372036854775807) (hb : -9223372036854775807 ≤ b) (hb2 : b ≤ 9223372036854775807) :
    Calls Tryz.prog 69 #[.int .i64 a, .int .i64 b] w fun e w' => e = .returned (.int .i64 (Int.gcd a b)) ∧ ∃ n, w' = w.drewN n := by
  go_enter Tryz.func69, Tryz.ntmps69
  go_wp2
  go_loopw [0, 1] (fun u v wr => ∃ x y : Int, u = .int .i64 x ∧ v = .int .i64 y ∧ Int.gcd x y = Int.gcd a b ∧ (-9223372036854775807 ≤ x ∧ x ≤ 9223372036854775807 ∧ -9223372036854775807 ≤ y ∧ y ≤ 9223372036854775807) ∧ ∃ n, wr = w.drewN n) (fun _ v _ => (intOf v).natAbs)
  case atStart => exact ⟨a, b, rfl, rfl, rfl, ⟨ha, ha2, hb, hb2⟩, 0, rfl⟩
  case round =>
    obtain ⟨x, y, rfl, rfl, hg0, ⟨h1, h2, h3, h4⟩, n, rfl⟩ := hrel
    have hg := Lib.hid hg0
    clear hg0
    by_cases hy : y = 0
    · subst hy
      go_wp2_with (go_at_call 65; refine (impl_absInt _ _ (by omega) (by omega)).mono ?_; rintro e w' ⟨rfl, rfl⟩)
      go_ret
      exact ⟨ret_int (by rw [← hg.out]; simp), n, rfl⟩
    · have hyb : (y != 0) = true := by simpa using hy
      have hlt := natAbs_tmod_lt x y hy
      go_wp2
      go_region
      all_goals go_wp2
      all_goals go_roundw
      all_goals first
        | exact ⟨y, x.tmod y, rfl, rfl, by rw [gcd_tmod]; exact hg.out, ⟨h3, h4, by omega, by omega⟩, n + 1, rfl⟩
        | (simp only [intOf]; omega)

theorem impl_IsPrime (p : Int) (w : World) :
    Calls Tryz.prog 41 #[.int .i64 p] w fun e w' => e = .returned (.bool (isPr p)) ∧ w = w' := by
  by_cases h1 : p < 2
  · go_enter Tryz.func41, Tryz.ntmps41
    go_wp2
    go_ret
    exact ⟨ret_bool (by simp [isPr]; intro h; omega), rfl⟩
  by_cases h2 : 10000 < p
  · go_enter Tryz.func41, Tryz.ntmps41
    go_wp2
    go_ret
    exact ⟨ret_bool (by simp [isPr]; intro h; omega), rfl⟩
  have hres := Lib.hid (show isPr p = prFrom p 2 200 by simp [isPr, show (2 : Int) ≤ p by omega, show p ≤ 10000 by omega])
  go_enter Tryz.func41, Tryz.ntmps41
  go_wp2
  go_loop [3] (fun v => ∃ d : Int, v = .int .i64 d ∧ 2 ≤ d ∧ d ≤ 101 ∧ prFrom p d (202 - d).toNat = prFrom p 2 200) (fun v => (102 - intOf v).toNat)
  case atStart => exact ⟨2, rfl, by omega, by omega, rfl⟩
  case round =>
    obtain ⟨d, rfl, hd1, hd2, hg0⟩ := hrel
    have hg := Lib.hid hg0
    clear hg0
    obtain ⟨s1, s2⟩ := sq_le d 101 (by omega) hd2
    by_cases hlt : d * d ≤ p
    · have hle := le_of_sq d 100 p (by omega) hlt (by omega)
      have hd0 : (d == 0) = false := by simp; omega
      have hk : (202 - d).toNat = (202 - (d + 1)).toNat + 1 := by omega
      have hp := hg.out
      rw [hk, prFrom, if_pos hlt] at hp
      by_cases hm : p % d = 0
      · rw [if_pos hm] at hp
        have hmb : (p % d == 0) = true := by simpa using hm
        have hp' := Lib.hid hp
        clear hp hk
        go_wp2
        go_ret
        exact ⟨ret_bool (by rw [hres.out, ← hp'.out]), rfl⟩
      · rw [if_neg hm] at hp
        have hmb : (p % d == 0) = false := by simpa using hm
        have hp' := Lib.hid hp
        clear hp hk
        go_wp2
        go_round
        case rel => exact ⟨d + 1, rfl, by omega, by omega, hp'.out⟩
        case measure => simp [intOf]; omega
    · have hp := hg.out
      have hk : (202 - d).toNat = (201 - d).toNat + 1 := by omega
      rw [hk, prFrom, if_neg hlt] at hp
      have hp' := Lib.hid hp
      clear hp hk
      go_wp2
      go_ret
      exact ⟨ret_bool (by rw [hres.out, ← hp'.out]), rfl⟩

end Go.Proofs.YtlggfmfelakadaaGreatDoor

/-
  DERIVED. The text of a matrix and of a ratio, and that both read back. No program in sight.
-/
namespace Go.Proofs.YtlggfmfelakadaaGreatDoor
set_option linter.unusedVariables false
/-- The signs that part the cells. -/
def isSep (x : Nat) : Bool := x == 32 || x == 59
theorem ng_tok {t : Bs} (h : t ≠ []) (h2 : ∀ b ∈ t, Ng b) : tokOk isSep t := by
  refine ⟨h, fun b hb => ?_⟩
  have := h2 b hb
  unfold Ng Dg at this
  refine ⟨by omega, ?_⟩
  unfold isSep
  rw [Bool.or_eq_false_iff, beq_eq_false_iff_ne, beq_eq_false_iff_ne]
  omega
theorem itoa_tok (n : Int) : tokOk isSep (Lib.itoa n) := ng_tok (itoa_ne n) (itoa_ng n)
/-- One row of cells. -/
def rowT (l : List Int) : Bs := Lib.join (l.map Lib.itoa) [32]
/-- Row `i` of the cells. -/
def cellsRow (c : Nat) (xs : List Int) (i : Nat) : List Int := (xs.drop (i * c)).take c
def rowsT (r c : Nat) (xs : List Int) : List Bs := if 0 < c then (List.range r).map fun i => rowT (cellsRow c xs i) else []
def bodyT (r c : Nat) (xs : List Int) : Bs := Lib.join (rowsT r c xs) [59]
def headT (r c : Nat) : Bs := Lib.itoa (r : Int) ++ 120 :: Lib.itoa (c : Int)
/-- What FormatMatrix writes of a matrix. -/
def matT (r c : Nat) (xs : List Int) : Bs := headT r c ++ 91 :: (bodyT r c xs ++ [93])
theorem parted_app : ∀ (a b : List (UInt8 × Bs)), parted (a ++ b) = parted a ++ parted b
  | [], b => rfl
  | (c, t) :: a, b => by
    show c :: (t ++ parted (a ++ b)) = (c :: (t ++ parted a)) ++ parted b
    rw [parted_app a b]
    simp
theorem joinTail_parted (c : UInt8) : ∀ (r : List Bs), Lib.joinTail [c] r = parted (r.map fun t => (c, t))
  | [] => rfl
  | t :: r => by
    show ([c] ++ t) ++ Lib.joinTail [c] r = c :: (t ++ parted (r.map fun t => (c, t)))
    rw [joinTail_parted c r]
    simp
/-- The cells of further rows, each with the sign ahead of it. -/
def rowP : List Int → List (UInt8 × Bs)
  | [] => []
  | x :: l => (59, Lib.itoa x) :: l.map fun y => (32, Lib.itoa y)
theorem rowT_cons (x : Int) (l : List Int) : rowT (x :: l) = Lib.itoa x ++ parted (l.map fun y => ((32 : UInt8), Lib.itoa y)) := by
  unfold rowT
  rw [List.map_cons, Lib.join_cons, joinTail_parted, List.map_map]
  rfl
theorem tail_rows : ∀ (rs : List (List Int)), (∀ l ∈ rs, l ≠ []) → Lib.joinTail [59] (rs.map rowT) = parted (rs.flatMap rowP)
  | [], _ => rfl
  | l :: rs, h => by
    have hl := h l (List.mem_cons_self ..)
    have ih := tail_rows rs fun x hx => h x (List.mem_cons_of_mem _ hx)
    rcases l with _ | ⟨x, l⟩
    · exact absurd rfl hl
    · show ([59] ++ rowT (x :: l)) ++ Lib.joinTail [59] (rs.map rowT) = parted (rowP (x :: l) ++ rs.flatMap rowP)
      rw [ih, parted_app, rowT_cons]
      show _ = (59 :: (Lib.itoa x ++ parted (l.map fun y => ((32 : UInt8), Lib.itoa y)))) ++ _
      simp
theorem rowP_toks : ∀ (l : List Int), (rowP l).map (·.2) = l.map Lib.itoa
  | [] => rfl
  | x :: l => by
    show Lib.itoa x :: (l.map fun y => ((32 : UInt8), Lib.itoa y)).map (·.2) = _
    rw [List.map_map]; rfl
theorem flat_toks (rs : List (List Int)) : (rs.flatMap rowP).map (·.2) = rs.flatten.map Lib.itoa := by
  induction rs with
  | nil => rfl
  | cons l rs ih =>
    rw [List.flatMap_cons, List.map_append, ih, rowP_toks, List.flatten_cons, List.map_append]
theorem rowP_ok (l : List Int) : ∀ x ∈ rowP l, sepOk isSep x.1 ∧ tokOk isSep x.2 := by
  rcases l with _ | ⟨a, l⟩
  · intro x hx; cases hx
  · intro x hx
    rcases List.mem_cons.1 hx with rfl | hx
    · exact ⟨⟨(by decide : (59 : UInt8).toNat < 128), rfl⟩, itoa_tok a⟩
    · obtain ⟨y, _, rfl⟩ := List.mem_map.1 hx
      exact ⟨⟨(by decide : (32 : UInt8).toNat < 128), rfl⟩, itoa_tok y⟩
/-- The body of rows, none of them empty: a first token, and what follows. -/
theorem body_rows (x : Int) (l : List Int) (rs : List (List Int)) (h : ∀ l ∈ rs, l ≠ []) : ∃ q, Lib.join (((x :: l) :: rs).map rowT) [59] = Lib.itoa x ++ parted q ∧ Lib.itoa x :: q.map (·.2) = ((x :: l) :: rs).flatten.map Lib.itoa ∧ ∀ y ∈ q, sepOk isSep y.1 ∧ tokOk isSep y.2 := by
  refine ⟨(l.map fun y => ((32 : UInt8), Lib.itoa y)) ++ rs.flatMap rowP, ?_, ?_, ?_⟩
  · rw [List.map_cons, Lib.join_cons, tail_rows rs h, rowT_cons, parted_app]
    simp
  · rw [List.map_append, flat_toks, List.map_map]
    simp
  · intro y hy
    rcases List.mem_append.1 hy with hy | hy
    · obtain ⟨z, _, rfl⟩ := List.mem_map.1 hy
      exact ⟨⟨(by decide : (32 : UInt8).toNat < 128), rfl⟩, itoa_tok z⟩
    · obtain ⟨z, _, hz⟩ := List.mem_flatMap.1 hy
      exact rowP_ok z y hz
theorem flatten_rows (c : Nat) : ∀ (r : Nat) (xs : List Int), xs.length = r * c → ((List.range r).map (cellsRow c xs)).flatten = xs
  | 0, xs, h => by
    rw [Nat.zero_mul] at h
    rw [List.length_eq_zero_iff.1 h]; rfl
  | r + 1, xs, h => by
    rw [Nat.add_mul, Nat.one_mul] at h
    rw [List.range_succ, List.map_append, List.flatten_append]
    have h1 : (List.range r).map (cellsRow c xs) = (List.range r).map (cellsRow c (xs.take (r * c))) := by
      refine List.map_congr_left fun i hi => ?_
      rw [List.mem_range] at hi
      unfold cellsRow
      have hb : (i + 1) * c ≤ r * c := Nat.mul_le_mul_right c hi
      rw [Nat.add_mul, Nat.one_mul] at hb
      rw [List.drop_take, List.take_take, Nat.min_eq_left (by omega)]
    rw [h1, flatten_rows c r (xs.take (r * c)) (by rw [List.length_take]; omega)]
    show xs.take (r * c) ++ [cellsRow c xs r].flatten = xs
    unfold cellsRow
    rw [show [(xs.drop (r * c)).take c].flatten = (xs.drop (r * c)).take c by simp, List.take_of_length_le (show (xs.drop (r * c)).length ≤ c by rw [List.length_drop]; omega), List.take_append_drop]
theorem cellsRow_len {r c i : Nat} {xs : List Int} (h : xs.length = r * c) (hi : i < r) : (cellsRow c xs i).length = c := by
  have hb : (i + 1) * c ≤ r * c := Nat.mul_le_mul_right c hi
  rw [Nat.add_mul, Nat.one_mul] at hb
  unfold cellsRow
  rw [List.length_take, List.length_drop]; omega
/-- The body of a matrix with cells. -/
theorem body_toks {r c : Nat} {xs : List Int} (hr : 0 < r) (hc : 0 < c) (h : xs.length = r * c) : ∃ t q, bodyT r c xs = t ++ parted q ∧ t :: q.map (·.2) = xs.map Lib.itoa ∧ tokOk isSep t ∧ ∀ y ∈ q, sepOk isSep y.1 ∧ tokOk isSep y.2 := by
  have hf := flatten_rows c r xs h
  have hall : ∀ l ∈ (List.range r).map (cellsRow c xs), l ≠ [] := by
    intro l hl
    obtain ⟨i, hi, rfl⟩ := List.mem_map.1 hl
    intro e
    have := cellsRow_len h (List.mem_range.1 hi)
    rw [e] at this
    exact absurd this (by simp; omega)
  have hb : bodyT r c xs = Lib.join (((List.range r).map (cellsRow c xs)).map rowT) [59] := by
    unfold bodyT rowsT
    rw [if_pos hc, List.map_map]; rfl
  rw [hb]
  rcases hl : (List.range r).map (cellsRow c xs) with _ | ⟨l, rs⟩
  · have := congrArg List.length hl
    rw [List.length_map, List.length_range] at this
    exact absurd this (by simp; omega)
  · rw [hl] at hf hall
    rcases l with _ | ⟨x, l⟩
    · exact absurd rfl (hall [] (List.mem_cons_self ..))
    · obtain ⟨q, h1, h2, h3⟩ := body_rows x l rs fun y hy => hall y (List.mem_cons_of_mem _ hy)
      refine ⟨Lib.itoa x, q, h1, ?_, itoa_tok x, h3⟩
      rw [h2, hf]
theorem body_none {r c : Nat} {xs : List Int} (h : r = 0 ∨ c = 0) : bodyT r c xs = [] := by
  unfold bodyT rowsT
  rcases h with h | h
  · subst h
    split
    · rfl
    · rfl
  · subst h; rfl
theorem body_some {r c : Nat} {xs : List Int} (hr : 0 < r) (hc : 0 < c) (h : xs.length = r * c) : bodyT r c xs ≠ [] := by
  obtain ⟨t, q, h1, _, h3, _⟩ := body_toks hr hc h
  rw [h1]
  intro e
  exact h3.1 (List.append_eq_nil_iff.1 e).1
theorem head_no (r c : Nat) : ∀ x ∈ headT r c, x ≠ 91 := by
  intro x hx e
  subst e
  unfold headT at hx
  rcases List.mem_append.1 hx with hx | hx
  · have := itoa_ng _ _ hx; revert this; unfold Ng Dg; decide
  · rcases List.mem_cons.1 hx with hx | hx
    · revert hx; decide
    · have := itoa_ng _ _ hx; revert this; unfold Ng Dg; decide
theorem itoa_no {n : Int} {b : UInt8} (h : ¬ Ng b) : ∀ x ∈ Lib.itoa n, x ≠ b := fun x hx e => h (e ▸ itoa_ng n x hx)
theorem cut_mat (r c : Nat) (xs : List Int) : Lib.cut (matT r c xs) [91] = (headT r c, bodyT r c xs ++ [93], true) := cut_at 91 _ _ (head_no r c)
theorem cut_head (r c : Nat) : Lib.cut (headT r c) [120] = (Lib.itoa (r : Int), Lib.itoa (c : Int), true) := cut_at 120 _ _ (itoa_no (by unfold Ng Dg; decide))
theorem cut_nil (c : UInt8) : Lib.cut [] [c] = ([], [], false) := cut_no c [] (fun x hx => by cases hx)
/-! ### How long -/
theorem lens_rows : ∀ (l : List Int), (∀ x ∈ l, -400000000 ≤ x ∧ x ≤ 400000000) → (rowT l).length ≤ 11 * l.length
  | [], _ => by simp [rowT, Lib.join_nil]
  | x :: l, h => by
    have hx := itoa_len (h x (List.mem_cons_self ..))
    have ht : (parted (l.map fun y => ((32 : UInt8), Lib.itoa y))).length ≤ 11 * l.length := by
      clear hx
      induction l with
      | nil => simp [parted]
      | cons y l ih =>
        have hy := itoa_len (h y (List.mem_cons_of_mem _ (List.mem_cons_self ..)))
        have := ih fun z hz => h z (by
          rcases List.mem_cons.1 hz with e | hz
          · exact e ▸ List.mem_cons_self ..
          · exact List.mem_cons_of_mem _ (List.mem_cons_of_mem _ hz))
        show (32 :: (Lib.itoa y ++ parted (l.map fun y => ((32 : UInt8), Lib.itoa y)))).length ≤ _
        rw [List.length_cons, List.length_append, List.length_cons]; omega
    rw [rowT_cons, List.length_append, List.length_cons]; omega
theorem parted_len : ∀ (q : List (UInt8 × Bs)), (∀ y ∈ q, y.2.length ≤ 10) → (parted q).length ≤ 11 * q.length
  | [], _ => by simp [parted]
  | (c, t) :: q, h => by
    have h1 := h (c, t) (List.mem_cons_self ..)
    have h2 := parted_len q fun y hy => h y (List.mem_cons_of_mem _ hy)
    show (c :: (t ++ parted q)).length ≤ _
    rw [List.length_cons, List.length_append, List.length_cons]
    have h3 : t.length ≤ 10 := h1
    omega
theorem body_len {r c : Nat} {xs : List Int} (h : xs.length = r * c) (hx : ∀ x ∈ xs, -400000000 ≤ x ∧ x ≤ 400000000) : (bodyT r c xs).length ≤ 11 * xs.length := by
  rcases Nat.eq_zero_or_pos r with hr | hr
  · rw [body_none (.inl hr)]; simp
  · rcases Nat.eq_zero_or_pos c with hc | hc
    · rw [body_none (.inr hc)]; simp
    · obtain ⟨t, q, h1, h2, _, _⟩ := body_toks hr hc h
      have hall : ∀ u ∈ xs.map Lib.itoa, u.length ≤ 10 := by
        intro u hu
        obtain ⟨x, hx1, rfl⟩ := List.mem_map.1 hu
        exact itoa_len (hx x hx1)
      have hlen := congrArg List.length h2
      rw [List.length_cons, List.length_map, List.length_map] at hlen
      have ht := hall t (by rw [← h2]; exact List.mem_cons_self ..)
      have hq := parted_len q fun y hy => hall y.2 (by rw [← h2]; exact List.mem_cons_of_mem _ (List.mem_map.2 ⟨y, hy, rfl⟩))
      rw [h1, List.length_append]; omega
theorem mat_len {r c : Nat} {xs : List Int} (h : xs.length = r * c) (hr : r ≤ 1000) (hc : c ≤ 1000) (hx : ∀ x ∈ xs, -400000000 ≤ x ∧ x ≤ 400000000) : (matT r c xs).length ≤ 11 * xs.length + 23 := by
  have h1 := body_len h hx
  have h2 := itoa_len (n := (r : Int)) (by omega)
  have h3 := itoa_len (n := (c : Int)) (by omega)
  unfold matT headT
  simp only [List.length_append, List.length_cons, List.length_nil]
  omega
theorem rows_len (r c : Nat) (xs : List Int) : (rowsT r c xs).length ≤ r := by
  unfold rowsT
  split
  · rw [List.length_map, List.length_range]; exact Nat.le_refl _
  · simp
theorem rows_next {r c k : Nat} {xs : List Int} (hc : 0 < c) (hk : k < r) : (rowsT r c xs).take k ++ [rowT (cellsRow c xs k)] = (rowsT r c xs).take (k + 1) := by
  unfold rowsT
  rw [if_pos hc, List.take_add_one, List.getElem?_map, List.getElem?_range hk]
  rfl
theorem rows_end {r c k : Nat} {xs : List Int} (h : ¬ (k < r ∧ 0 < c)) : (rowsT r c xs).take k = rowsT r c xs := by
  rcases Nat.eq_zero_or_pos c with hc | hc
  · unfold rowsT
    rw [if_neg (by omega)]; simp
  · exact List.take_of_length_le (Nat.le_trans (rows_len r c xs) (by omega))
theorem rows_take_len {r c k : Nat} {xs : List Int} (hc : 0 < c) (hk : k ≤ r) : ((rowsT r c xs).take k).length = k := by
  unfold rowsT
  rw [if_pos hc, List.length_take, List.length_map, List.length_range]; omega
/-- The tokens that a body parts into, as texts of bytes. -/
theorem fields_mat {r c : Nat} {xs : List Int} (hr : 0 < r) (hc : 0 < c) (h : xs.length = r * c) : (Lib.goFieldsP isSep ⟨(bodyT r c xs).toArray⟩).map (fun x => x.data.toList) = xs.map Lib.itoa := by
  obtain ⟨t, q, h1, h2, h3, h4⟩ := body_toks hr hc h
  rw [fields_of (t := t) (r := q) (by rw [← h1]) h3 h4, h2]
end Go.Proofs.YtlggfmfelakadaaGreatDoor

/-
  DERIVED. The contracts of the laws' helpers on matrices: toMatrix, szMatrix, eqMatrix, markMatrix, heldMatrix.
-/
namespace Go.Proofs.YtlggfmfelakadaaGreatDoor
open Go.RowKit
set_option linter.unusedVariables false
/-- The call returned a matrix whose cells are its own. -/
def MV (r c : Int) (ys : List Int) (w : World) (e : Ending) (w' : World) : Prop :=
  ∃ A n cap, e = .returned (.agg #[.int .i64 r, .int .i64 c, .slice A n cap]) ∧ n = ys.length ∧ OR w' w.heap.size (.slice A n cap) ys ∧ Below w.heap.size w w'

def eqM (r c r' c' : Int) (xs ys : List Int) : Bool := decide (r = r') && decide (c = c') && eqB xs ys
end Go.Proofs.YtlggfmfelakadaaGreatDoor

/-
  DERIVED. The contracts of the reference's marked arithmetic: l1Fit, l1Add, l1Mul.
-/
namespace Go.Proofs.YtlggfmfelakadaaGreatDoor
open Go.RowKit
set_option linter.unusedVariables false
/-- The mark of a number beyond the limit. -/
def bad : Int := -4611686018427387904
def fit (n : Int) : Int := if isNum n then n else bad
def addB (a b : Int) : Int := if a = bad ∨ b = bad then bad else fit (a + b)
def mulF (a b : Int) : Int := if a = bad ∨ b = bad then bad else fit (a * b)
theorem fit_in {n : Int} (h : -400000000 ≤ n ∧ n ≤ 400000000) : fit n = n := by simp [fit, (isNum_iff n).2 h]
theorem fit_out {n : Int} (h : n < -400000000 ∨ 400000000 < n) : fit n = bad := by simp [fit, (isNum_not n).2 h]
/-- A number within the limit, or the mark. -/
def NB (n : Int) : Prop := n = bad ∨ (-400000000 ≤ n ∧ n ≤ 400000000)
theorem NB.fit (n : Int) : NB (fit n) := by
  by_cases h : -400000000 ≤ n ∧ n ≤ 400000000
  · rw [fit_in h]; exact .inr h
  · rw [fit_out (by omega)]; exact .inl rfl
theorem ne_bad {n : Int} (h : -4000000000000000000 ≤ n) : n ≠ bad := by unfold bad; omega
theorem beq_bad (n : Int) : (n == -4611686018427387904) = decide (n = bad) := rfl

theorem addB_num {a b : Int} (ha : -400000000 ≤ a ∧ a ≤ 400000000) (hb : -400000000 ≤ b ∧ b ≤ 400000000) : addB a b = fit (a + b) := by
  unfold addB; rw [if_neg]; unfold bad; omega
theorem mulF_num {a b : Int} (ha : -400000000 ≤ a ∧ a ≤ 400000000) (hb : -400000000 ≤ b ∧ b ≤ 400000000) : mulF a b = fit (a * b) := by
  unfold mulF; rw [if_neg]; unfold bad; omega
end Go.Proofs.YtlggfmfelakadaaGreatDoor

/-
  DERIVED. The contracts of copyMatrix and l3Copy.
-/
namespace Go.Proofs.YtlggfmfelakadaaGreatDoor
open Go.RowKit
set_option linter.unusedVariables false
theorem impl_copyMatrix (r c : Int) (A : Option Addr) (n cap : Nat) (xs : List Int) (w : World) {B : Nat} (h : RI w B A n xs) (hB : B ≤ w.heap.size) (hn : n ≤ 1048576) :
    Calls Tryz.prog 36 #[.agg #[.int .i64 r, .int .i64 c, .slice A n cap]] w (MV r c xs w) := by
  have H2 := Lib.hid (h.more hB)
  clear h
  go_enter Tryz.func36, Tryz.ntmps36
  go_wp2_with (at_builtin; refine wpList_append_ints _ rfl (.tmp 3) (.tmp 5) rfl (w.heap.size + 1 + 1) _ [] rfl ?c1 w.heap.size A n cap xs rfl ?c2 ?c3 ?c4 ?_; rotate_right; intro v1 w1 hown hgr hat; simp only [List.nil_append] at hown; go_loud (obtain ⟨g, cap1, rfl, hg1, hg2⟩ := hown.notNil hat); go_loud (have hb1 : Below (w.heap.size + 1 + 1) _ w1 := only_below hgr Ks (by intro g h; cases h; exact Nat.le_refl _)); obtain ⟨k0, f0, l0⟩ := bkeepB w.heap.size hb1 (by omega) Ks; obtain ⟨k1, f1, l1⟩ := bkeepB (w.heap.size + 1) hb1 (by omega) Ks; clear hgr hat; have k00 : w1.cell? ⟨w.heap.size, 0, none⟩ = some (.int .i64 r) := by { rw [k0]; simp [go_sem] }; have k01 : w1.cell? ⟨w.heap.size, 1, none⟩ = some (.int .i64 c) := by { rw [k0]; simp [go_sem] }; have k02 : w1.cell? ⟨w.heap.size, 2, none⟩ = some (.slice A n cap) := by { rw [k0]; simp [go_sem] }; have k10 : w1.cell? ⟨w.heap.size + 1, 0, none⟩ = some (.int .i64 0) := by { rw [k1]; simp [go_sem] }; have k11 : w1.cell? ⟨w.heap.size + 1, 1, none⟩ = some (.int .i64 0) := by { rw [k1]; simp [go_sem] }; have k12 : w1.cell? ⟨w.heap.size + 1, 2, none⟩ = some (.slice none 0 0) := by { rw [k1]; simp [go_sem] }; clear k0 k1)
  case c1 => exact OR.empty' _ (w.heap.size + 1 + 1) (by simp) Ks
  case c2 => (with_reducible (repeat (first | exact H2.out | refine RI.drew ?_ | refine RI.drewN ?_ _ | refine RI.a_ ?_ | refine RI.s_ ?_ | refine RI.b_ ?_)))
  case c3 => first | omega | (simp; omega)
  case c4 => exact Ks
  have hbw : Below w.heap.size w w1 := by
    refine Below.trans ?_ (hb1.mono (by omega))
    (repeat (first | (with_reducible (first | exact Below.refl _ _ | assumption | refine below_drewN ?_ _ | refine Below.drew ?_ | refine Below.alloc ?_ ?_ _ | refine Below.setCell ?_ ?_ _ | refine below_i ?_)) | go_size))
  refine bodyPost_ret (v := .agg #[.int .i64 r, .int .i64 c, .slice (some ⟨g, 0, none⟩) xs.length cap1]) (by simp [results, Tryz.results36, go_sem, k10, k11, k12]) rfl ?_
  refine ⟨some ⟨g, 0, none⟩, _, cap1, rfl, rfl, OR.mono (B := w.heap.size + 1 + 1) ?_ (by omega), Kw⟩
  have hown' : OR w1 (w.heap.size + 1 + 1) (.slice (some ⟨g, 0, none⟩) xs.length cap1) xs := by simpa using hown
  (with_reducible (repeat (first | exact hown' | refine OR.drew ?_ | refine OR.drewN ?_ _ | refine OR.alloc ?_ _ | refine OR.b_ ?_ | refine OR.l_ ?_)))
end Go.Proofs.YtlggfmfelakadaaGreatDoor

/-
  DERIVED. The library's variables that a text needs, kept; the library's contracts over them. FormatInt and ParseInt.
-/
namespace Go.Proofs.YtlggfmfelakadaaGreatDoor
open Go.RowKit
set_option linter.unusedVariables false
set_option linter.unusedSimpArgs false
/-- The name of the table of powers, as the given row lists it. -/
def powName : String := ((Rows.fnCoreRow.laid[2]?).map (·.1)).getD ""
abbrev bs (l : Bs) : ByteArray := ⟨l.toArray⟩
theorem bs_list (l : Bs) : (bs l).data.toList = l := rfl
theorem bs_size (l : Bs) : (bs l).size = l.length := rfl
theorem bs_app (a b : Bs) : bs a ++ bs b = bs (a ++ b) := by
  apply ByteArray.ext
  simp
/-- What the calls read of the library's variables. -/
structure LV (w : World) : Prop where
  tab : Lib.TabIs Tryz.prog w powName .u64 Lib.pow10Tab
  mx : ∃ m, w.cell? ⟨0, 0, none⟩ = some (.int .i64 m)
  syn : ∃ ev, w.cell? ⟨1, 0, none⟩ = some ev ∧ (ev = .nilIface ∨ ∃ te pe, ev = .iface te pe)
  lo : 4 ≤ w.heap.size
theorem pow_at : Tryz.prog.globalNamed powName = some 3 := by kernel_rfl
theorem LV.below {w w' : World} {C : Nat} (h : LV w) (hb : Below C w w') (hC : 4 ≤ C) : LV w' where
  tab := var?_below hb pow_at (by omega) h.tab
  mx := by
    obtain ⟨m, hm⟩ := h.mx
    exact ⟨m, hb.cell (p := ⟨0, 0, none⟩) (show 0 < C by omega) |>.trans hm⟩
  syn := by
    obtain ⟨ev, he, h2⟩ := h.syn
    exact ⟨ev, hb.cell (p := ⟨1, 0, none⟩) (show 1 < C by omega) |>.trans he, h2⟩
  lo := Nat.le_trans h.lo hb.size
theorem below_grow (w : World) (k : Nat) (os : Array Obj) : Below w.heap.size w (Sort.grow (w.drewN k) os) :=
  ⟨rfl, rfl, rfl, by show w.heap.size ≤ (w.heap ++ os).size; rw [Array.size_append]; omega, fun j hj => by show (w.heap ++ os)[j]? = w.heap[j]?; rw [Array.getElem?_append_left hj]⟩
/-- The call returned v; the world behind it keeps what lay. -/
def GV (v : Value) (w : World) (e : Ending) (w' : World) : Prop := e = .returned v ∧ Below w.heap.size w w'
theorem c_Itoa (n : Int) (h : -400000000 ≤ n ∧ n ≤ 400000000) (w : World) (hv : LV w) : Calls Tryz.prog 53 #[.int .i64 n] w (GV (.string (bs (Lib.itoa n))) w) := by
  refine (Tryz.strconv_Itoa n (by omega) (by omega) w hv.tab).mono ?_
  rintro e w' ⟨rfl, k, os, rfl⟩
  exact ⟨rfl, below_grow w k os⟩
theorem c_Cut (s sep : Bs) (w : World) (hv : LV w) (hs : s.length < 4294967281) : Calls Tryz.prog 23 #[.string (bs s), .string (bs sep)] w (GV (.tuple #[.string (bs (Lib.cut s sep).1), .string (bs (Lib.cut s sep).2.1), .bool (Lib.cut s sep).2.2]) w) := by
  obtain ⟨m, hm⟩ := hv.mx
  refine (Tryz.strings_Cut (bs s) (bs sep) m w hs hm).mono ?_
  rintro e w' ⟨rfl, n, rfl⟩
  exact ⟨rfl, below_drewN (Below.refl _ _) n⟩
theorem c_HasSuffix (s p : Bs) (w : World) (hs : s.length ≤ 1000000) : Calls Tryz.prog 25 #[.string (bs s), .string (bs p)] w (GV (.bool (Lib.hasSuffix s p)) w) := by
  refine (Tryz.strings_HasSuffix (bs s) (bs p) w (by rw [bs_size]; omega)).mono ?_
  rintro e w' ⟨rfl, rfl⟩
  exact ⟨rfl, Below.refl _ _⟩
theorem c_Atoi (n : Int) (h : -400000000 ≤ n ∧ n ≤ 400000000) (w : World) : Calls Tryz.prog 58 #[.string (bs (Lib.itoa n))] w (GV (.tuple #[.int .i64 n, .nilIface]) w) := by
  refine (Tryz.strconv_Atoi (bs (Lib.itoa n)) n (by rw [bs_size]; have := itoa_len h; omega) (atoi_itoa n) w).mono ?_
  rintro e w' ⟨rfl, t, rfl⟩
  exact ⟨rfl, Lib.bytesWorld_below w 5 t⟩
theorem c_AtoiNil (w : World) (hv : LV w) : Calls Tryz.prog 58 #[.string (bs [])] w fun e w' => ∃ N, e = .returned (.tuple #[.int .i64 0, .iface 122 (.pointer (some ⟨N, 0, none⟩))]) ∧ Below w.heap.size w w' := by
  obtain ⟨ev, he, h2⟩ := hv.syn
  refine (Tryz.strconv_Atoi_err (bs []) (by rw [bs_size]; simp) rfl ev w he h2).mono ?_
  rintro e w' ⟨N, rfl, _, _, hb⟩
  exact ⟨N, rfl, hb⟩
theorem impl_FormatInt (n : Int) (h : -400000000 ≤ n ∧ n ≤ 400000000) (w : World) (hv : LV w) : Calls Tryz.prog 21 #[.int .i64 n] w (GV (.string (bs (Lib.itoa n))) w) := by
  go_enter Tryz.func21, Tryz.ntmps21
  go_wp2_with (go_at_call 53; refine (c_Itoa n h _ hv).mono ?_; rintro e w1 ⟨rfl, hb⟩)
  go_ret
  exact ⟨rfl, hb⟩
theorem impl_ParseInt (n : Int) (h : -400000000 ≤ n ∧ n ≤ 400000000) (w : World) (hv : LV w) : Calls Tryz.prog 24 #[.string (bs (Lib.itoa n))] w (GV (.tuple #[.int .i64 n, .bool true]) w) := by
  go_enter Tryz.func24, Tryz.ntmps24
  go_wp2_with (first | (go_at_call 58; refine (c_Atoi n h _).mono ?_; rintro e w1 ⟨rfl, hb⟩) | (go_at_call 42; refine (impl_IsNumber_yes n _ h).mono ?_; rintro e w2 ⟨rfl, rfl⟩) | (go_at_call 21; refine (impl_FormatInt n h _ (hv.below hb hv.lo)).mono ?_; rintro e w3 ⟨rfl, hb3⟩))
  go_ret2
  exact ⟨rfl, hb.trans (hb3.mono hb.size)⟩
theorem impl_ParseInt_nil (w : World) (hv : LV w) : Calls Tryz.prog 24 #[.string (bs [])] w (GV (.tuple #[.int .i64 0, .bool false]) w) := by
  go_enter Tryz.func24, Tryz.ntmps24
  go_wp2_with (first | (go_at_call 58; refine (c_AtoiNil _ hv).mono ?_; rintro e w1 ⟨N, rfl, hb⟩))
  go_ret2
  exact ⟨rfl, hb⟩
end Go.Proofs.YtlggfmfelakadaaGreatDoor

/-
  DERIVED. The contracts of AreModuli, both.
-/
namespace Go.Proofs.YtlggfmfelakadaaGreatDoor
open Go.RowKit
set_option linter.unusedVariables false
theorem drop_cons {xs : List Int} {k : Nat} (h : k < xs.length) : xs.drop k = xs.getD k 0 :: xs.drop (k + 1) := by
  rw [List.drop_eq_getElem_cons h]
  simp [List.getD, h]

theorem any_take {xs : List Int} {p : Int → Bool} {j : Nat} (h : j < xs.length) : (xs.take (j + 1)).any p = ((xs.take j).any p || p (xs.getD j 0)) := by
  rw [List.take_add_one, List.any_append, getD_some h]; simp
theorem take_snoc {xs : List Int} {k : Nat} (h : k < xs.length) : xs.take k ++ [xs.getD k 0] = xs.take (k + 1) := by
  rw [List.take_add_one, getD_some h]; rfl
theorem take_take_any {xs : List Int} {p : Int → Bool} {k : Nat} (h : k ≤ xs.length) {j : Nat} (hj : j < k) (hp : p (xs.getD j 0) = true) : (xs.take k).any p = true := by
  rw [List.any_eq_true]
  refine ⟨xs.getD j 0, ?_, hp⟩
  rw [List.mem_take_iff_getElem]
  exact ⟨j, by omega, by simp [List.getD, show j < xs.length by omega]⟩
/-- The numbers seen are within the limit. -/
def Seen (xs : List Int) (k : Nat) : Prop := ∀ j, j < k → -400000000 ≤ xs.getD j 0 ∧ xs.getD j 0 ≤ 400000000
theorem Seen.zero (xs : List Int) : Seen xs 0 := fun j h => absurd h (by omega)
theorem Seen.succ {xs : List Int} {k : Nat} (h : Seen xs k) {x : Int} (e : xs.getD k 0 = x) (hx : -400000000 ≤ x ∧ x ≤ 400000000) : Seen xs (k + 1) := fun j hj => by
  rcases Nat.lt_or_ge j k with h1 | h1
  · exact h j h1
  · obtain rfl : j = k := by omega
    rw [e]; exact hx
set_option maxHeartbeats 1000000 in
theorem impl_AreModuli (A : Option Addr) (n cap : Nat) (xs : List Int) (w : World) {C : Nat} (h : RI w C A n xs) (hn : n ≤ 1048576) (hnc : n ≤ cap) :
    Calls Tryz.prog 70 #[.slice A n cap] w (DV (.bool (modsOk xs)) w) := by
  rw [← imF_mods]
  have hlen := h.len
  have H := Lib.hid h
  clear h
  have hlx : xs.length ≤ n ∧ n ≤ xs.length := by omega
  have HL := Lib.hid hlen
  clear hlen
  go_enter Tryz.func70, Tryz.ntmps70
  go_wp2
  go_loopw [3, 10] (fun u v wr => ∃ (k nd : Nat) (p : Int), u = .int .i64 p ∧ v = .int .i64 k ∧ k ≤ n ∧ 1 ≤ p ∧ p ≤ 400000000 ∧ imF (xs.take k) p (xs.drop k) = imF [] 1 xs ∧ Seen xs k ∧ wr = w.drewN nd) (fun _ v _ => n - (intOf v).toNat)
  case atStart => exact ⟨0, 0, 1, rfl, rfl, Nat.zero_le _, by omega, by omega, rfl, Seen.zero xs, rfl⟩
  case round =>
    obtain ⟨k, nd, p, rfl, rfl, hk, hp1, hp2, hs0, hseen, rfl⟩ := hrel
    by_cases hlt : k < n
    · obtain ⟨b, o, rfl, hbb, hcells⟩ := H.out.2 (by omega)
      have c1 := hcells k hlt
      have HC := Lib.hid hcells
      clear hcells
      rw [drop_cons (by omega), imF, take_snoc (by omega)] at hs0
      have hsx := Lib.hid (fun (x : Int) (e : xs.getD k 0 = x) => Seen.succ hseen e)
      generalize hxe : xs.getD k 0 = x at c1 hs0
      have hsn := Lib.hid (hsx.out x hxe)
      clear hsx hxe
      by_cases hx : x < 2 ∨ isNum x = false
      · rw [if_pos hx] at hs0
        have hs := Lib.hid hs0
        clear hs0
        by_cases hx2 : x < 2
        · go_wp2_with (first | (go_at_call 42; (first | refine (impl_IsNumber_yes _ _ (by omega)).mono ?_ | refine (impl_IsNumber_no _ _ (by omega)).mono ?_ | refine (impl_IsNumber _ _).mono ?_); rintro e w' ⟨rfl, rfl⟩))
          go_ret
          exact DV.mk nd (vbool hs.out)
        · have hx3 := (isNum_not x).1 (hx.resolve_left hx2)
          go_wp2_with (first | (go_at_call 42; (first | refine (impl_IsNumber_yes _ _ (by omega)).mono ?_ | refine (impl_IsNumber_no _ _ (by omega)).mono ?_ | refine (impl_IsNumber _ _).mono ?_); rintro e w' ⟨rfl, rfl⟩))
          go_ret
          exact DV.mk nd (vbool hs.out)
      · rw [if_neg hx] at hs0
        have hx1 : 2 ≤ x := by omega
        have hx2 := (isNum_iff x).1 (by simpa using fun h => hx (.inr h))
        clear hx
        obtain ⟨q1, q2⟩ := mul_bd p x 400000000 400000000 (by omega) hp2 (by omega) (by omega)
        by_cases hm : isNum (p * x) = false
        · rw [if_pos hm] at hs0
          have hs := Lib.hid hs0
          have hm' := (isNum_not _).1 hm
          clear hs0 hm
          go_wp2_with (first | (go_at_call 42; (first | refine (impl_IsNumber_yes _ _ (by omega)).mono ?_ | refine (impl_IsNumber_no _ _ (by omega)).mono ?_ | refine (impl_IsNumber _ _).mono ?_); rintro e w' ⟨rfl, rfl⟩))
          go_ret
          exact DV.mk nd (vbool hs.out)
        · rw [if_neg hm] at hs0
          have hm' := (isNum_iff (p * x)).1 (by simpa using hm)
          have hpos := Int.mul_le_mul hp1 (show (1 : Int) ≤ x by omega) (by omega) (by omega)
          clear hm
          have hs := Lib.hid hs0
          clear hs0
          go_wp2_with (first | (go_at_call 42; (first | refine (impl_IsNumber_yes _ _ (by omega)).mono ?_ | refine (impl_IsNumber_no _ _ (by omega)).mono ?_ | refine (impl_IsNumber _ _).mono ?_); rintro e w' ⟨rfl, rfl⟩))
          go_loopw [32] (fun v wr => ∃ (j nd' : Nat), v = .int .i64 j ∧ j ≤ k ∧ (xs.take j).any (fun y => decide (1 < Int.gcd x y)) = false ∧ wr = w.drewN nd') (fun v _ => k - (intOf v).toNat)
          case atStart => exact ⟨0, nd, rfl, Nat.zero_le _, by simp, rfl⟩
          case round =>
            obtain ⟨j, nd', rfl, hj, hany0, rfl⟩ := hrel
            have hany := Lib.hid hany0
            clear hany0
            by_cases hjk : j < k
            · have c2 := HC.out j (by omega)
              have hat := any_take (xs := xs) (p := fun y => decide (1 < Int.gcd x y)) (show j < xs.length by omega)
              have hta := take_take_any (xs := xs) (p := fun y => decide (1 < Int.gcd x y)) (show k ≤ xs.length by omega) hjk
              rw [hany.out, Bool.false_or] at hat
              have hyb : -400000000 ≤ xs.getD j 0 ∧ xs.getD j 0 ≤ 400000000 := hseen j hjk
              generalize xs.getD j 0 = y at c2 hat hta hyb
              by_cases hg : 1 < Int.gcd x y
              · have hgi : (1 : Int) < ((Int.gcd x y : Nat) : Int) := by omega
                have hfin := Lib.hid (show false = imF [] 1 xs by rw [← hs.out, if_pos (hta (by simpa using hg))])
                clear hat hta
                go_wp2_with (first | (go_at_call 69; refine (impl_gcd _ _ _ (by omega) (by omega) (by omega) (by omega)).mono ?_; rintro e w' ⟨rfl, nd, rfl⟩))
                go_ret
                exact DV.mk _ (vbool hfin.out)
              · have hgi : ¬ (1 : Int) < ((Int.gcd x y : Nat) : Int) := by omega
                have hn2 := Lib.hid (show (xs.take (j + 1)).any (fun y => decide (1 < Int.gcd x y)) = false by rw [hat]; simpa using hg)
                clear hat hta
                go_wp2_with (first | (go_at_call 69; refine (impl_gcd _ _ _ (by omega) (by omega) (by omega) (by omega)).mono ?_; rintro e w' ⟨rfl, nd, rfl⟩))
                go_roundw
                case rel => exact ⟨j + 1, _, by go_num, by omega, hn2.out, rfl⟩
                case measure => simp only [intOf]; omega
            · obtain rfl : j = k := by omega
              have hfin := Lib.hid (show imF (xs.take (j + 1)) (p * x) (xs.drop (j + 1)) = imF [] 1 xs by rw [← hs.out, if_neg (by rw [hany.out]; simp)])
              go_wp2
              go_roundw
              case rel => exact ⟨j + 1, _, p * x, rfl, by go_num, by omega, by omega, by omega, hfin.out, hsn.out (by omega), rfl⟩
              case measure => simp only [intOf]; omega
    · have hend : imF (xs.take k) p (xs.drop k) = decide ((n : Int) ≤ 8) := by
        rw [List.drop_of_length_le (by omega), List.take_of_length_le (by omega), imF, HL.out]
        rw [Bool.eq_iff_iff]; simp; omega
      have hs := Lib.hid (hend.symm.trans hs0)
      clear hs0 hend
      go_wp2
      go_ret
      exact DV.mk nd (vbool hs.out)
end Go.Proofs.YtlggfmfelakadaaGreatDoor

/-
  DERIVED. Small words on owned slices and struct boxes.
-/
namespace Go.Proofs.YtlggfmfelakadaaGreatDoor
open Go.RowKit
set_option linter.unusedVariables false
theorem OR.nil_ (w : World) (B : Nat) : OR w B (.slice none 0 0) [] := World.ownsRow_nil w B _ _
/-- An owned slice that holds something begins a block. -/
theorem OR.begins {w : World} {B n cap : Nat} {A : Option Addr} {xs : List Int} (h : OR w B (.slice A n cap) xs) (hp : 0 < xs.length) : ∃ g, A = some ⟨g, 0, none⟩ ∧ B ≤ g ∧ g < w.heap.size := by
  rcases h.form with ⟨h1, h2⟩ | ⟨g, cap', h1, h2, h3, _⟩
  · subst h2; simp at hp
  · injection h1 with e1 e2 e3
    exact ⟨g, e1, h2, h3⟩
theorem OR.lenEq {w : World} {B n cap : Nat} {A : Option Addr} {xs : List Int} (h : OR w B (.slice A n cap) xs) : n = xs.length := by
  rcases h.form with ⟨h1, h2⟩ | ⟨g, cap', h1, h2, h3, _⟩
  · injection h1 with e1 e2 e3
    subst h2; exact e2
  · injection h1
theorem OR.as {w : World} {B : Nat} {v : Value} {xs ys : List Int} (h : OR w B v xs) (e : xs = ys) : OR w B v ys := e ▸ h
theorem still_EV {P : Program} {f : FuncId} {args : Array Value} {w : World} {v : Value} (h : Calls P f args w (EV v w)) : Calls P f args w fun e w'' => e = .returned v ∧ w'' = w :=
  h.mono fun _ _ ⟨he, hw⟩ => ⟨he, hw.symm⟩
theorem still_ev {P : Program} {f : FuncId} {args : Array Value} {w : World} {v : Value} (h : Calls P f args w fun e w'' => e = .returned v ∧ w = w'') : Calls P f args w fun e w'' => e = .returned v ∧ w'' = w :=
  h.mono fun _ _ ⟨he, hw⟩ => ⟨he, hw.symm⟩
/-- Block b is a variable (of struct type t) that holds this matrix. -/
def BX (t : TypeId) (w : World) (b : Nat) (r c : Int) (A : Option Addr) (n cap : Nat) : Prop := Blk w b t #[.int .i64 r, .int .i64 c, .slice A n cap]
/-- Block b is a variable of three cells. -/
def B3 (t : TypeId) (w : World) (b : Nat) : Prop := ∃ v0 v1 v2 : Value, Blk w b t #[v0, v1, v2]
abbrev BM := BX 26
/-- The block that the slice value owns, if any, lies from lo on and below hi. -/
def Own (v : Value) (lo hi : Nat) : Prop := ∀ g, v.ownBlock = some g → lo ≤ g ∧ g < hi
theorem OR.own {w : World} {B : Nat} {v : Value} {xs : List Int} (h : OR w B v xs) : Own v B w.heap.size := by
  intro g hg
  rcases h.form with ⟨h1, h2⟩ | ⟨g', cap', h1, h2, h3, _⟩
  · subst h1; cases hg
  · subst h1
    have e : g' = g := by simpa [Value.ownBlock] using hg
    subst e; exact ⟨h2, h3⟩
theorem Own.wide {v : Value} {lo hi lo' hi' : Nat} (h : Own v lo hi) (h1 : lo' ≤ lo) (h2 : hi ≤ hi') : Own v lo' hi' := fun g hg => by have := h g hg; omega
theorem OR.keptOwn {w w' : World} {B : Nat} {v sv : Value} {xs : List Int} {lo hi lo' hi' : Nat} (h : OR w B v xs) (hg : w.grownBy w' sv.ownBlock) (a : Own v lo hi) (b : Own sv lo' hi') (hd : hi ≤ lo' ∨ hi' ≤ lo) : OR w' B v xs := by
  refine h.kept hg ?_
  cases h1 : v.ownBlock with
  | none => exact .inl rfl
  | some g =>
    refine .inr fun e => ?_
    have h2 := a g h1
    have h3 := b g e.symm
    omega
theorem RI.keptOwn {w w' : World} {B n : Nat} {A : Option Addr} {sv : Value} {xs : List Int} {lo hi : Nat} (h : RI w B A n xs) (hg : w.grownBy w' sv.ownBlock) (b : Own sv lo hi) (hB : B ≤ lo) (hB' : B ≤ w.heap.size) : RI w' B A n xs :=
  h.grown hg hB' fun g e => by have := b g e; omega
theorem below_keptOwn {w w' : World} {B : Nat} {sv : Value} {lo hi : Nat} (hg : w.grownBy w' sv.ownBlock) (b : Own sv lo hi) (hB : B ≤ lo) (hB' : B ≤ w.heap.size) : Below B w w' :=
  only_below hg hB' fun g e => by have := b g e; omega
section
variable {w w' : World} {t : TypeId} {b n cap B : Nat} {r c : Int} {A : Option Addr}
theorem BX.mx (h : BX t w b r c A n cap) : w.cell? ⟨b, 0, none⟩ = some (.int .i64 r) ∧ w.cell? ⟨b, 1, none⟩ = some (.int .i64 c) ∧ w.cell? ⟨b, 2, none⟩ = some (.slice A n cap) ∧ (∀ o, w.frozen? ⟨b, o, none⟩ = false) ∧ b < w.heap.size :=
  ⟨Blk.cell h 0, Blk.cell h 1, Blk.cell h 2, Blk.frozen h, Blk.lt h⟩
theorem BX.new (w : World) (t : TypeId) (r c : Int) (A : Option Addr) (n cap : Nat) (b : Nat) (hb : b = w.heap.size) : BX t (w.alloc (.cells #[.int .i64 r, .int .i64 c, .slice A n cap] t)) b r c A n cap := by
  subst hb; exact Blk.new w _ _
theorem BX.drew (h : BX t w b r c A n cap) : BX t w.drew b r c A n cap := h
theorem BX.drewN (h : BX t w b r c A n cap) (k : Nat) : BX t (w.drewN k) b r c A n cap := h
theorem BX.alloc (h : BX t w b r c A n cap) (o : Obj) : BX t (w.alloc o) b r c A n cap := Blk.alloc h o
theorem BX.far (h : BX t w b r c A n cap) {p : Addr} (hp : b ≠ p.block) (u : Value) : BX t (w.setCell p u) b r c A n cap := Blk.far h hp u
theorem BX.below (h : BX t w b r c A n cap) (hb : Below B w w') (hg : b < B) : BX t w' b r c A n cap := Blk.below h hb hg
theorem BX.grown {row : Option Nat} (h : BX t w b r c A n cap) (hb : w.grownBy w' row) (hg : some b ≠ row) : BX t w' b r c A n cap := Blk.grown h hb hg
theorem BX.keptOwn {sv : Value} {lo hi : Nat} (h : BX t w b r c A n cap) (hg : w.grownBy w' sv.ownBlock) (o : Own sv lo hi) (hd : b < lo ∨ hi ≤ b) : BX t w' b r c A n cap :=
  h.grown hg fun e => by have := o b e.symm; omega
theorem BX.lt (h : BX t w b r c A n cap) : b < w.heap.size := Blk.lt h
theorem B3.of (h : BX t w b r c A n cap) : B3 t w b := ⟨_, _, _, h⟩
theorem B3.new (w : World) (t : TypeId) (v0 v1 v2 : Value) (b : Nat) (hb : b = w.heap.size) : B3 t (w.alloc (.cells #[v0, v1, v2] t)) b := by
  subst hb; exact ⟨v0, v1, v2, Blk.new w _ _⟩
theorem B3.drew (h : B3 t w b) : B3 t w.drew b := h
theorem B3.drewN (h : B3 t w b) (k : Nat) : B3 t (w.drewN k) b := h
theorem B3.alloc (h : B3 t w b) (o : Obj) : B3 t (w.alloc o) b := let ⟨_, _, _, k⟩ := h; ⟨_, _, _, Blk.alloc k o⟩
theorem B3.far (h : B3 t w b) {p : Addr} (hp : b ≠ p.block) (u : Value) : B3 t (w.setCell p u) b := let ⟨_, _, _, k⟩ := h; ⟨_, _, _, Blk.far k hp u⟩
theorem B3.below (h : B3 t w b) (hb : Below B w w') (hg : b < B) : B3 t w' b := let ⟨_, _, _, k⟩ := h; ⟨_, _, _, Blk.below k hb hg⟩
theorem B3.grown {row : Option Nat} (h : B3 t w b) (hb : w.grownBy w' row) (hg : some b ≠ row) : B3 t w' b := let ⟨_, _, _, k⟩ := h; ⟨_, _, _, Blk.grown k hb hg⟩
theorem BX.put (h : B3 t w b) : BX t (((w.setCell ⟨b, 0, none⟩ (.int .i64 r)).setCell ⟨b, 1, none⟩ (.int .i64 c)).setCell ⟨b, 2, none⟩ (.slice A n cap)) b r c A n cap := by
  obtain ⟨_, _, _, k⟩ := h
  exact (((Blk.set_ k 0 (.int .i64 r)).set_ 1 (.int .i64 c)).set_ 2 (.slice A n cap)).as rfl
theorem BX.put2 (h : BX t w b r c A n cap) {A' : Option Addr} {n' cap' : Nat} : BX t (w.setCell ⟨b, 2, none⟩ (.slice A' n' cap')) b r c A' n' cap' := (Blk.set_ h 2 _).as rfl
theorem BX.n_ {w : World} {t : TypeId} {r c : Int} {A : Option Addr} {n cap b : Nat} (hb : b = w.heap.size := by first | omega | (simp; done) | (simp; omega)) : BX t (w.alloc (.cells #[.int .i64 r, .int .i64 c, .slice A n cap] t)) b r c A n cap := BX.new w t r c A n cap b hb
theorem BX.b_ {w w' : World} {t : TypeId} {b n cap B : Nat} {r c : Int} {A : Option Addr} (h : BX t w b r c A n cap) (hb : Below B w w' := by assumption) (hg : b < B := by first | omega | (simp; done) | (simp; omega)) : BX t w' b r c A n cap := BX.below h hb hg
theorem BX.f_ {w : World} {t : TypeId} {b n cap : Nat} {r c : Int} {A : Option Addr} {p : Addr} {u : Value} (h : BX t w b r c A n cap) (hp : b ≠ p.block := by simp only [ne_eq]; omega) : BX t (w.setCell p u) b r c A n cap := BX.far h hp u
theorem B3.n_ {w : World} {t : TypeId} {v0 v1 v2 : Value} {b : Nat} (hb : b = w.heap.size := by first | omega | (simp; done) | (simp; omega)) : B3 t (w.alloc (.cells #[v0, v1, v2] t)) b := B3.new w t v0 v1 v2 b hb
theorem B3.b_ {w w' : World} {t : TypeId} {b B : Nat} (h : B3 t w b) (hb : Below B w w' := by assumption) (hg : b < B := by first | omega | (simp; done) | (simp; omega)) : B3 t w' b := B3.below h hb hg
theorem B3.f_ {w : World} {t : TypeId} {b : Nat} {p : Addr} {u : Value} (h : B3 t w b) (hp : b ≠ p.block := by simp only [ne_eq]; omega) : B3 t (w.setCell p u) b := B3.far h hp u
theorem Kb {P Q : Prop} (h : Q) (k : Q → P := by intro h; (with_reducible (repeat (first | exact h | refine BX.n_ | refine BX.b_ ?_ | apply BX.drew | apply BX.drewN | refine BX.put ?_ | refine BX.put2 ?_ | refine BX.f_ ?_ | apply BX.alloc | refine B3.n_ | exact B3.of h | refine B3.b_ ?_ | apply B3.drew | apply B3.drewN | refine B3.f_ ?_ | apply B3.alloc)))) : P := k h
theorem Ka {P : Prop} (h : P := by (with_reducible (repeat (first | assumption | refine BX.n_ | refine BX.b_ ?_ | apply BX.drew | apply BX.drewN | refine BX.put ?_ | refine BX.put2 ?_ | refine BX.f_ ?_ | apply BX.alloc | refine B3.n_ | refine B3.of (by assumption) | refine B3.b_ ?_ | apply B3.drew | apply B3.drewN | refine B3.f_ ?_ | apply B3.alloc)))) : P := h
end
/-- A function that returns a matrix, out of its variable b. -/
theorem ret_M {fn : Func} {R : Ending → World → Prop} {a : Act} {w : World} {t : Tmp} {b n cap : Nat} {r c : Int} {A : Option Addr} (hr : fn.results = #[.cell t 26])
    (ht : a.tmps.getD t undef = .pointer (some ⟨b, 0, none⟩)) (h : BM w b r c A n cap) (hd : a.defers = []) (hR : R (.returned (.agg #[.int .i64 r, .int .i64 c, .slice A n cap])) w) : bodyPost Tryz.prog fn R .ret a w :=
  bodyPost_ret (v := .agg #[.int .i64 r, .int .i64 c, .slice A n cap]) (by
    obtain ⟨r0, r1, r2, rf, rl⟩ := h.mx
    have ht' := ht
    simp only [Array.getD_eq_getD_getElem?] at ht'
    simp [results, hr, ht', go_sem, r0, r1, r2]) hd hR
theorem ret_MB {fn : Func} {R : Ending → World → Prop} {a : Act} {w : World} {t s : Tmp} {b n cap : Nat} {r c : Int} {A : Option Addr} (hr : fn.results = #[.cell t 26, .tmp s])
    (ht : a.tmps.getD t undef = .pointer (some ⟨b, 0, none⟩)) (h : BM w b r c A n cap) (hd : a.defers = []) (hR : R (.returned (.tuple #[.agg #[.int .i64 r, .int .i64 c, .slice A n cap], a.tmps.getD s undef])) w) : bodyPost Tryz.prog fn R .ret a w :=
  bodyPost_ret (v := .tuple #[.agg #[.int .i64 r, .int .i64 c, .slice A n cap], a.tmps.getD s undef]) (by
    obtain ⟨r0, r1, r2, rf, rl⟩ := h.mx
    have ht' := ht
    simp only [Array.getD_eq_getD_getElem?] at ht'
    simp [results, hr, ht', go_sem, r0, r1, r2]) hd hR
/-- A matrix: rows, columns, cells. -/
structure Mx where
  r : Int
  c : Int
  xs : List Int
def Mx.none : Mx := ⟨0, 0, []⟩
/-- The call returned this matrix, its cells its own. -/
def MR (m : Mx) (w : World) (e : Ending) (w' : World) : Prop :=
  ∃ A n cap, e = .returned (.agg #[.int .i64 m.r, .int .i64 m.c, .slice A n cap]) ∧ OR w' w.heap.size (.slice A n cap) m.xs ∧ Below w.heap.size w w'
/-- The call returned this matrix, its cells its own, and the flag. -/
def MBR (m : Mx) (b : Bool) (w : World) (e : Ending) (w' : World) : Prop :=
  ∃ A n cap, e = .returned (.tuple #[.agg #[.int .i64 m.r, .int .i64 m.c, .slice A n cap], .bool b]) ∧ OR w' w.heap.size (.slice A n cap) m.xs ∧ Below w.heap.size w w'
theorem MBR.mk {m : Mx} {b : Bool} {r c : Int} {xs : List Int} {A : Option Addr} {n cap : Nat} {w w' : World} (hm : m = ⟨r, c, xs⟩) (ho : OR w' w.heap.size (.slice A n cap) xs) (hb : Below w.heap.size w w') :
    MBR m b w (.returned (.tuple #[.agg #[.int .i64 r, .int .i64 c, .slice A n cap], .bool b])) w' := by
  subst hm; exact ⟨A, n, cap, rfl, ho, hb⟩
theorem MR.mk {m : Mx} {r c : Int} {xs : List Int} {A : Option Addr} {n cap : Nat} {w w' : World} (hm : m = ⟨r, c, xs⟩) (ho : OR w' w.heap.size (.slice A n cap) xs) (hb : Below w.heap.size w w') :
    MR m w (.returned (.agg #[.int .i64 r, .int .i64 c, .slice A n cap])) w' := by
  subst hm; exact ⟨A, n, cap, rfl, ho, hb⟩
theorem MR.of_MV {r c : Int} {xs : List Int} {w w' : World} {e : Ending} (h : MV r c xs w e w') : MR ⟨r, c, xs⟩ w e w' := by
  obtain ⟨A, n, cap, h1, h2, h3, h4⟩ := h
  exact ⟨A, n, cap, h1, h3, h4⟩
end Go.Proofs.YtlggfmfelakadaaGreatDoor

/-
  DERIVED. The contract of l3Copy.
-/
namespace Go.Proofs.YtlggfmfelakadaaGreatDoor
open Go.RowKit
set_option linter.unusedVariables false
end Go.Proofs.YtlggfmfelakadaaGreatDoor

/-
  DERIVED. Words for the laws: comparing, marking and holding slices and matrices of the call's own.
-/
namespace Go.Proofs.YtlggfmfelakadaaGreatDoor
open Go.RowKit
set_option linter.unusedVariables false
theorem eqB_refl (xs : List Int) : eqB xs xs = true := by simp [eqB]
theorem eqM_refl (r c : Int) (xs : List Int) : eqM r c r c xs xs = true := by simp [eqM, eqB]
/-- The call returned the int, having written just the block of an own slice, which now holds ys. -/
def WI (k : Int) (sv : Value) (B : Nat) (ys : List Int) (w : World) (e : Ending) (w' : World) : Prop :=
  e = .returned (.int .i64 k) ∧ OR w' B sv ys ∧ w.grownBy w' sv.ownBlock ∧ w.heap.size ≤ w'.heap.size
/-- The call returned a slice of its own that holds ys. -/
def IR (ys : List Int) (w : World) (e : Ending) (w' : World) : Prop := ∃ A n cap, e = .returned (.slice A n cap) ∧ OR w' w.heap.size (.slice A n cap) ys ∧ Below w.heap.size w w'
end Go.Proofs.YtlggfmfelakadaaGreatDoor

/-
  DERIVED. append of one int onto a slice of the call's own.
-/
namespace Go.Proofs.YtlggfmfelakadaaGreatDoor
open Go.RowKit
set_option linter.unusedVariables false
theorem RI.one {w : World} {g : Nat} {y : Int} (hc : w.cell? ⟨g, 0, none⟩ = some (.int .i64 y)) : RI w (g + 1) (some ⟨g, 0, none⟩) 1 [y] :=
  ⟨rfl, fun _ => ⟨g, 0, rfl, by omega, fun k hk => by
    obtain rfl : k = 0 := by omega
    simpa using hc⟩⟩
/-- Two slice values own no block in common. -/
def Apart (v v' : Value) : Prop := ∀ g, v.ownBlock = some g → v'.ownBlock ≠ some g
theorem Apart.symm {v v' : Value} (h : Apart v v') : Apart v' v := fun g h1 h2 => h g h2 h1
theorem Apart.ne {v v' : Value} (h : Apart v v') : v.ownBlock = none ∨ v.ownBlock ≠ v'.ownBlock := by
  cases h1 : v.ownBlock with
  | none => exact .inl rfl
  | some g => exact .inr fun e => h g h1 e.symm
theorem Apart.of_own {v v' : Value} {lo hi lo' hi' : Nat} (a : Own v lo hi) (b : Own v' lo' hi') (hd : hi ≤ lo' ∨ hi' ≤ lo) : Apart v v' := fun g h1 h2 => by
  have := a g h1; have := b g h2; omega
/-- Behind an append: the new value is apart from whatever the old one was apart from and that was there. -/
theorem Apart.grown {v v' u : Value} {w : World} {B : Nat} {us : List Int} (h : Apart v u) (hu : OR w B u us) (hat : v'.ownBlock = v.ownBlock ∨ v'.ownBlock = some w.heap.size) : Apart v' u := fun g h1 h2 => by
  rcases hat with e | e
  · exact h g (e ▸ h1) h2
  · have h3 := (hu.own g h2).2
    rw [e] at h1
    injection h1 with h1
    omega
theorem OR.ne_low {w : World} {B b : Nat} {v : Value} {xs : List Int} (h : OR w B v xs) (hb : b < B) : some b ≠ v.ownBlock := fun e => by
  have := (h.own b e.symm).1; omega
theorem OR.below_grown {w w' : World} {B : Nat} {v : Value} {xs : List Int} (h : OR w B v xs) (hg : w.grownBy w' v.ownBlock) (hB : B ≤ w.heap.size) : Below B w w' :=
  only_below hg hB fun g e => (h.own g e).1
section
variable (w : World)
theorem wpList_append_one {ops : Array Oper} {rest : List Oper} {o : Oper} {a : Act} {Q : Exit → Act → World → Prop} (hgd : o.guard = none) (s x : Operand)
    (ho : o.op = .call { callee := .builtin .append, args := #[s, x], argTypes := #[24, 24] })
    (B : Nat) (v : Value) (xs : List Int) (hs : a.eval s = v) (hown : OR w B v xs) (g : Nat) (y : Int) (hx : a.eval x = .slice (some ⟨g, 0, none⟩) 1 1) (hc : w.cell? ⟨g, 0, none⟩ = some (.int .i64 y))
    (h63 : xs.length ≤ 100000000000) (hbase : B ≤ w.heap.size)
    (h : ∀ v' w', OR w' B v' (xs ++ [y]) → w.grownBy w' v.ownBlock → (v'.ownBlock = v.ownBlock ∨ v'.ownBlock = some w.heap.size) → wpList Tryz.prog ops Q rest (a.put o.dst v') w') : wpList Tryz.prog ops Q (o :: rest) a w :=
  wpList_append_ints w hgd s x ho B v xs hs hown (g + 1) (some ⟨g, 0, none⟩) 1 1 [y] hx (RI.one hc) (by omega) hbase h
theorem step_append_one {ops : Array Oper} {o : Oper} {a : Act} {K : Act → World → Prop} {Q : Exit → Act → World → Prop} {E : Prop} (hgd : o.guard = none) (s x : Operand)
    (ho : o.op = .call { callee := .builtin .append, args := #[s, x], argTypes := #[24, 24] })
    (B : Nat) (v : Value) (xs : List Int) (hs : a.eval s = v) (hown : OR w B v xs) (g : Nat) (y : Int) (hx : a.eval x = .slice (some ⟨g, 0, none⟩) 1 1) (hc : w.cell? ⟨g, 0, none⟩ = some (.int .i64 y))
    (h63 : xs.length ≤ 100000000000) (hbase : B ≤ w.heap.size)
    (h : ∀ v' w', OR w' B v' (xs ++ [y]) → w.grownBy w' v.ownBlock → (v'.ownBlock = v.ownBlock ∨ v'.ownBlock = some w.heap.size) → K (a.put o.dst v') w') :
    if Region.wanted o (yielded ops a.tmps) = true then Oper.wp Tryz.prog o a w K Q else E :=
  step_append_ints w hgd s x ho B v xs hs hown (g + 1) (some ⟨g, 0, none⟩) 1 1 [y] hx (RI.one hc) (by omega) hbase h
end
end Go.Proofs.YtlggfmfelakadaaGreatDoor

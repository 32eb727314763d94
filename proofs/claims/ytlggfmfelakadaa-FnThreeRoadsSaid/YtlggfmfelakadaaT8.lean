/-
  DERIVED. Several small texts in one: PlMpL, PlTr.
-/
import Derived.Test.YtlggfmfelakadaaPlMpt
import Derived.Test.YtlggfmfelakadaaT6
import Derived.Test.YtlggfmfelakadaaT7
import Derived.Test.YtlggfmfelakadaaDetSt
/-
  DERIVED. What DeterminantMod and RankMod answer, beside DeterminantOf and RankOf. No program in sight.
-/
namespace Go.Proofs.Ytlggfmfelakadaa
set_option linter.unusedVariables false
structure IMG (R : Nat) (xs : List Int) (p : Int) : Prop where
  red : redB R R xs p = true
  R24 : R ≤ 24
  p2 : 2 ≤ p
  p4 : p ≤ 10000
  d0 : 0 ≤ detM R R xs p
  dp : detM R R xs p < p
  dz : (detM R R xs p == 0) = decide (rankM R R xs p < R)
  r0 : 0 ≤ rankM R R xs p
  rR : rankM R R xs p ≤ R
  dD : p ∣ Dt R (fun i j => cel xs R i j) - detM R R xs p
  det : ∀ e, dtO R R xs = some e → p ∣ e - detM R R xs p
  rk : ∀ s, eoX R R xs = some s → rankM R R xs p ≤ s.ps.length
theorem img_all {r c : Int} {xs : List Int} {p : Int} (h : detMB r c xs p = true) : ∃ R : Nat, r = R ∧ c = R ∧ IMG R xs p := by
  have h0 := h
  unfold detMB at h0
  rw [Bool.and_eq_true] at h0
  obtain ⟨hr, hc⟩ := h0
  have hc := of_decide_eq_true hc
  subst hc
  have K := redOk hr
  have M := K.m
  have h1 := M.r1
  obtain ⟨R, rfl⟩ := nat_of M.r0
  have hlen : xs.length = R * R := by have := M.len; rw [← Int.natCast_mul] at this; omega
  refine ⟨R, rfl, rfl, ?_⟩
  have hok := K.ok
  obtain ⟨pv, H⟩ := runE_mp (R := R) (C := R) K.pr K.f0
  have hs : runE R R p (rmF R xs p) = rmS R R xs p := by unfold rmS; simp only [Int.toNat_natCast]
  rw [hs] at H
  have hmod : ∀ i j, i < R → j < R → p ∣ rmF R xs p i j - cel xs R i j := fun i j hi hj => by
    unfold rmF
    simp only [Int.toNat_natCast]
    rw [cel_nat, cel_nat]
    have hk : i * R + j < xs.length := by rw [hlen]; exact idx_nat hi hj
    have e : (redL xs p).getD (i * R + j) 0 = xs.getD (i * R + j) 0 % p := by simp [redL, List.getD, hk]
    rw [e]; exact dvd_emod _ _
  have hDm := Dt_mod R hmod
  have hd1 : (rmS R R xs p).d ≠ 0 := by
    unfold rmS
    exact colsE_d K.pr _ _ _ ⟨K.f0, Nat.zero_le _, by show (0 : Int) ≤ 1 ∧ (1 : Int) < p; have := K.pb; omega⟩ (by show (1 : Int) ≠ 0; decide)
  have ht : (rmS R R xs p).t ≤ R := by have := hok.t0; simpa using this
  have hdb := hok.d0
  have hrm : rankM R R xs p = ((rmS R R xs p).t : Int) := by unfold rankM; rw [if_pos hr]
  have hdm : detM R R xs p = if ((rmS R R xs p).t : Int) < R then 0 else (rmS R R xs p).d := by unfold detM; rw [if_pos h]
  have hp := K.pb
  have hDD : p ∣ Dt R (fun i j => cel xs R i j) - detM R R xs p := by
    rw [hdm]
    by_cases h2 : ((rmS R R xs p).t : Int) < R
    · rw [if_pos h2, Int.sub_zero]
      have h3 := H.img.1 (by omega)
      have := Int.dvd_sub h3 hDm
      rwa [show Dt R (rmF R xs p) - (Dt R (rmF R xs p) - Dt R (fun i j => cel xs R i j)) = Dt R (fun i j => cel xs R i j) by omega] at this
    · rw [if_neg h2]
      have h3 := H.img.2 (by omega)
      have := Int.dvd_sub h3 hDm
      rwa [show Dt R (rmF R xs p) - (rmS R R xs p).d - (Dt R (rmF R xs p) - Dt R (fun i j => cel xs R i j)) = Dt R (fun i j => cel xs R i j) - (rmS R R xs p).d by omega] at this
  refine ⟨hr, by omega, hp.1, hp.2, ?_, ?_, ?_, by rw [hrm]; omega, by rw [hrm]; omega, ?_, fun e he => ?_, fun s hs => ?_⟩
  · rw [hdm]; split <;> omega
  · rw [hdm]; split <;> omega
  · rw [hdm, hrm]
    by_cases h2 : ((rmS R R xs p).t : Int) < R
    · rw [if_pos h2, decide_eq_true h2]; rfl
    · rw [if_neg h2, decide_eq_false h2]; simpa using hd1
  · exact hDD
  · have he2 : e = Dt R (fun i j => cel xs R i j) := by
      unfold dtO at he
      split at he
      · simp only [Int.toNat_natCast] at he
        exact detL_Dt R xs e hlen he
      · cases he
    rw [he2]; exact hDD
  · rw [hrm]
    have := H.rank hp.1 hmod (eo_rk hs).1
    omega
end Go.Proofs.Ytlggfmfelakadaa

/-
  DERIVED. The determinant is no greater than the product of the rows' sums; put together out of its images it is the determinant. No program in sight.
-/
namespace Go.Proofs.Ytlggfmfelakadaa
set_option linter.unusedVariables false
/-- The sum of a row's absolute values. -/
def rs_ (n : Nat) (f : Fn2) (i : Nat) : Int := sumTo (fun j => ((f i j).natAbs : Int)) n
theorem sumTo_le {f g : Nat → Int} : ∀ n, (∀ k, k < n → f k ≤ g k) → sumTo f n ≤ sumTo g n
  | 0, _ => Int.le_refl _
  | n + 1, h => by
    rw [sumTo_succ, sumTo_succ]
    have := sumTo_le n fun k hk => h k (by omega)
    have := h n (by omega)
    omega
theorem sumTo_nn {f : Nat → Int} (n : Nat) (h : ∀ k, k < n → 0 ≤ f k) : 0 ≤ sumTo f n := by
  have := sumTo_le (f := fun _ => 0) n h
  have e : sumTo (fun _ => 0) n = 0 := sumTo_null n fun _ _ => rfl
  omega
theorem sumTo_natAbs {f : Nat → Int} : ∀ n, ((sumTo f n).natAbs : Int) ≤ sumTo (fun k => ((f k).natAbs : Int)) n
  | 0 => by show (((0 : Int)).natAbs : Int) ≤ 0; decide
  | n + 1 => by
    rw [sumTo_succ, sumTo_succ]
    have := sumTo_natAbs (f := f) n
    omega
theorem sumTo_skipLe {g : Nat → Int} (n j : Nat) (hj : j < n + 1) (h : ∀ k, 0 ≤ g k) : sumTo (fun b => g (sk j b)) n ≤ sumTo g (n + 1) := by
  have h1 := sumTo_skip (g := g) n hj
  rw [h1]
  refine sumTo_le (n + 1) fun k _ => ?_
  have := h k
  split <;> omega
theorem prodTo_le {d e : Nat → Int} : ∀ n, (∀ i, i < n → 0 ≤ d i ∧ d i ≤ e i) → 0 ≤ prodTo d n ∧ prodTo d n ≤ prodTo e n
  | 0, _ => ⟨by show (0 : Int) ≤ 1; decide, Int.le_refl _⟩
  | n + 1, h => by
    obtain ⟨h1, h2⟩ := prodTo_le n fun i hi => h i (by omega)
    obtain ⟨h3, h4⟩ := h n (by omega)
    exact ⟨Int.mul_nonneg h1 h3, Int.mul_le_mul h2 h4 h3 (by omega)⟩
theorem prodTo_head (d : Nat → Int) : ∀ n, prodTo d (n + 1) = d 0 * prodTo (fun i => d (i + 1)) n
  | 0 => by show 1 * d 0 = d 0 * 1; omega
  | n + 1 => by
    show prodTo d (n + 1) * d (n + 1) = d 0 * (prodTo (fun i => d (i + 1)) n * d (n + 1))
    rw [prodTo_head d n, Int.mul_assoc]
theorem Dt_bound : ∀ (n : Nat) (f : Fn2), ((Dt n f).natAbs : Int) ≤ prodTo (rs_ n f) n
  | 0, f => by show (((1 : Int)).natAbs : Int) ≤ 1; decide
  | n + 1, f => by
    rw [Dt_succ, prodTo_head]
    refine Int.le_trans (sumTo_natAbs (n + 1)) ?_
    have hP : ∀ j, j < n + 1 → ((Dt n (mnr f j)).natAbs : Int) ≤ prodTo (fun i => rs_ (n + 1) f (i + 1)) n := fun j hj => by
      refine Int.le_trans (Dt_bound n (mnr f j)) (prodTo_le n fun i hi => ⟨sumTo_nn n fun k _ => by omega, ?_⟩).2
      exact sumTo_skipLe (g := fun b => ((f (i + 1) b).natAbs : Int)) n j hj fun k => by omega
    generalize prodTo (fun i => rs_ (n + 1) f (i + 1)) n = P at *
    show _ ≤ sumTo (fun j => ((f 0 j).natAbs : Int)) (n + 1) * P
    rw [← sumTo_mul]
    refine sumTo_le (n + 1) fun j hj => ?_
    have h1 := hP j hj
    have h2 : (sg j * f 0 j * Dt n (mnr f j)).natAbs = (f 0 j).natAbs * (Dt n (mnr f j)).natAbs := by
      rw [Int.natAbs_mul, Int.natAbs_mul]
      have : (sg j).natAbs = 1 := by unfold sg; split <;> rfl
      rw [this, Nat.one_mul]
    rw [h2, Int.natCast_mul]
    exact Int.mul_le_mul_of_nonneg_left h1 (by omega)
theorem bndI_val {p b : Int} : ∀ (l : List Int) (p : Int), bndI p l = some b → b = p * prodTo (fun i => l.getD i 0) l.length
  | [], p, h => by
    have : p = b := by injection h
    subst this
    show p = p * 1
    omega
  | s :: l, p, h => by
    have h' : (if isNum s = true ∧ isNum (p * s) = true then bndI (p * s) l else none) = some b := h
    split at h'
    · have ih := bndI_val (p := p) l (p * s) h'
      rw [ih]
      show p * s * prodTo (fun i => l.getD i 0) l.length = p * prodTo (fun i => (s :: l).getD i 0) (l.length + 1)
      rw [prodTo_head]
      show p * s * prodTo (fun i => l.getD i 0) l.length = p * (s * prodTo (fun i => l.getD i 0) l.length)
      rw [Int.mul_assoc]
    · cases h'
theorem dvd_coprime {p n z : Int} (h1 : p ∣ z) (h2 : n ∣ z) (hg : Int.gcd p n = 1) : p * n ∣ z := by
  have h3 : p.natAbs * n.natAbs ∣ z.natAbs := Nat.Coprime.mul_dvd_of_dvd_of_dvd hg (Int.natAbs_dvd_natAbs.2 h1) (Int.natAbs_dvd_natAbs.2 h2)
  rw [← Int.natAbs_mul] at h3
  exact Int.natAbs_dvd_natAbs.1 h3
theorem spF_dvd {z : Int} : ∀ (ms : List Int) (p : Int), spF p ms = true → p ∣ z → (∀ m ∈ ms, m ∣ z) → ms.foldl (· * ·) p ∣ z
  | [], p, _, h, _ => h
  | n :: ms, p, hs, h, hm => by
    have hg := spF_gcd hs
    have hs' : spF (p * n) ms = true := by
      have h0 : (if n < 2 ∨ 400000000 < n then false else if Int.gcd p n ≠ 1 then false else if isNum (p * n) = false then false else spF (p * n) ms) = true := hs
      split at h0
      · cases h0
      · split at h0
        · cases h0
        · split at h0
          · cases h0
          · exact h0
    exact spF_dvd ms (p * n) hs' (dvd_coprime h (hm n (List.mem_cons_self ..)) hg) fun m hm' => hm m (List.mem_cons_of_mem _ hm')
theorem plK_pr : ∀ (n : Nat) (x : Int), x ∈ plK n → isPr x = true
  | 0, x, h => by cases h
  | n + 1, x, h => by
    rcases hp : isPr (101 + (n : Int)) with _ | _
    · rw [plK_no hp] at h; exact plK_pr n x h
    · rw [plK_yes hp] at h
      rcases List.mem_append.1 h with h | h
      · exact plK_pr n x h
      · rw [List.mem_singleton.1 h]; exact hp
theorem dbG_out {b : Int} : ∀ (k n m : Nat), dbG b k n = some m → n + k ≤ 13 → 2 * b < ppK m ∧ m ≤ 12
  | 0, n, m, h, _ => by cases h
  | k + 1, n, m, h, hk => by
    by_cases h1 : 2 * b < ppK n
    · rw [dbG_stop h1] at h
      injection h with h
      subst h
      exact ⟨h1, by omega⟩
    · rcases hp : isPr (101 + (n : Int)) with _ | _
      · rw [dbG_no h1 hp] at h; exact dbG_out k (n + 1) m h (by omega)
      · rcases hq : isNum (ppK n * (101 + (n : Int))) with _ | _
        · rw [dbG_bad h1 hp hq] at h; cases h
        · rw [dbG_yes h1 hp hq] at h; exact dbG_out k (n + 1) m h (by omega)
theorem absSum_sum (l : List Int) : ∀ n, absSum l n = sumTo (fun j => ((l.getD j 0).natAbs : Int)) n
  | 0 => rfl
  | n + 1 => by
    show absSum l n + _ = _
    rw [sumTo_succ, absSum_sum l n]
theorem row_bound {r c : Int} {xs : List Int} {b : Int} (h : bndRes r c xs = some b) : ∃ R : Nat, r = R ∧ c = R ∧ isMat R R xs = true ∧ ((Dt R (fun i j => cel xs R i j)).natAbs : Int) ≤ b := by
  unfold bndRes at h
  split at h
  · rename_i hs
    obtain ⟨hm, he, -⟩ := isSq_iff.1 hs
    subst he
    obtain ⟨R, rfl⟩ := nat_of hm.r0
    simp only [Int.toNat_natCast] at h
    refine ⟨R, rfl, rfl, isMat_iff.2 hm, ?_⟩
    have hb := bndI_val (p := 1) _ 1 h
    have hl : (rowSums xs R R).length = R := by simp [rowSums]
    rw [hl, Int.one_mul] at hb
    have hg : ∀ i, i < R → (rowSums xs R R).getD i 0 = rs_ R (fun i j => cel xs R i j) i := fun i hi => by
      have e : (rowSums xs R R).getD i 0 = absSum (rowL xs R i) R := by simp [rowSums, List.getD, hi]
      rw [e, absSum_sum]
      exact sumTo_congr R fun j hj => by rw [rowL_getD hj]
    rw [hb, prodTo_congr R hg]
    exact Dt_bound R _
  · cases h
/-- The determinant by its images is the determinant. -/
theorem db_det {r c : Int} {xs : List Int} {d : Int} (h : dbV r c xs = some d) : ∃ R : Nat, r = R ∧ c = R ∧ d = Dt R (fun i j => cel xs R i j) := by
  unfold dbV dbN at h
  rcases hb : bndRes r c xs with _ | b
  · rw [hb] at h; cases h
  · obtain ⟨R, rfl, rfl, hm, hD⟩ := row_bound hb
    refine ⟨R, rfl, rfl, ?_⟩
    rw [hb] at h
    have h' : (dbG b 13 0).map (fun n => symOf (chV (dbR R R xs n) (plK n)).1 (chV (dbR R R xs n) (plK n)).2) = some d := h
    rcases hn : dbG b 13 0 with _ | n
    · rw [hn] at h'; cases h'
    · rw [hn] at h'
      have hd : symOf (chV (dbR R R xs n) (plK n)).1 (chV (dbR R R xs n) (plK n)).2 = d := by injection h'
      obtain ⟨h2, h12⟩ := dbG_out 13 0 n hn (by omega)
      obtain ⟨c1, c2, c3, c4⟩ := chV_spec (dbR_ok (r := R) (c := R) (xs := xs) h12)
      rw [(pl_bds n h12).2.2.2] at c1
      have hmods := (pl_bds n h12).2.2.1
      unfold modsOk at hmods
      rw [Bool.and_eq_true] at hmods
      have hP := (pl_bds n h12).1
      obtain ⟨s1, s2, s3⟩ := symOf_spec (x := (chV (dbR R R xs n) (plK n)).1) (m := ppK n) hP.1
      rw [c1] at hd
      rw [hd] at s1 s2 s3
      have hall : ∀ m ∈ plK n, m ∣ Dt R (fun i j => cel xs R i j) - (chV (dbR R R xs n) (plK n)).1 := fun m hmem => by
        obtain ⟨i, hi, rfl⟩ := List.mem_iff_getElem.1 hmem
        have h5 := c4 i hi
        have e1 : (plK n).getD i 0 = (plK n)[i] := by simp [List.getD, hi]
        have e2 : (dbR R R xs n).getD i 0 = detM R R xs (plK n)[i] := by simp [dbR, List.getD, hi]
        rw [e1, e2] at h5
        have hdet : detMB R R xs (plK n)[i] = true := by
          unfold detMB redB
          rw [hm, plK_pr n _ hmem]; simp
        obtain ⟨R', hR', -, G⟩ := img_all hdet
        obtain rfl : R' = R := by omega
        have h6 := G.dD
        have := Int.dvd_sub h6 h5
        rwa [show Dt R' (fun i j => cel xs R' i j) - detM R' R' xs (plK n)[i] - ((chV (dbR R' R' xs n) (plK n)).1 - detM R' R' xs (plK n)[i]) = Dt R' (fun i j => cel xs R' i j) - (chV (dbR R' R' xs n) (plK n)).1 by omega] at this
      have hdv := spF_dvd (plK n) 1 hmods.2 (Int.one_dvd _) hall
      rw [(pl_bds n h12).2.2.2] at hdv
      have h7 := Int.dvd_add hdv s1
      rw [show Dt R (fun i j => cel xs R i j) - (chV (dbR R R xs n) (plK n)).1 + ((chV (dbR R R xs n) (plK n)).1 - d) = Dt R (fun i j => cel xs R i j) - d by omega] at h7
      generalize Dt R (fun i j => cel xs R i j) = D at *
      have h8 : (D - d).natAbs < (ppK n).natAbs := by omega
      have h9 : D - d = 0 := by
        apply Classical.byContradiction
        intro hne
        have := Nat.le_of_dvd (show 0 < (D - d).natAbs by omega) (Int.natAbs_dvd_natAbs.2 h7)
        omega
      omega
end Go.Proofs.Ytlggfmfelakadaa

/-
  DERIVED. Several small texts in one: PlDio, PlDi2.
-/
import Derived.Test.YtmcbhpaajjlmmaaPlSfq
import Derived.Test.YtmcbhpaajjlmmaaZ4
import Derived.Test.YtmcbhpaajjlmmaaZ2
/-
  DERIVED. Solutions and refutations in whole numbers: no program in sight.
-/
namespace Go.Proofs.Ytmcbhpaajjlmmaa
set_option linter.unusedVariables false
theorem tab_ext {n : Nat} {f g : Nat → Int} (h : ∀ k, k < n → f k = g k) : tab n f = tab n g := by
  unfold tab
  exact List.map_congr_left fun k hk => h k (List.mem_range.1 hk)
theorem tab_of {n : Nat} {xs : List Int} (h : xs.length = n) : tab n (fun k => xs.getD k 0) = xs := by
  apply List.ext_getElem?
  intro k
  by_cases hk : k < n
  · unfold tab
    simp [List.getElem?_range hk, List.getD, show k < xs.length by omega]
  · rw [List.getElem?_eq_none (by rw [tab_len]; omega), List.getElem?_eq_none (by omega)]
/-- A matrix times a column, as lists. -/
theorem mulL_col (f : Fn2) {R C : Nat} (z : List Int) : mulL (tb R C f) R C z 1 = tab R fun i => mv C f (fun k => z.getD k 0) i := by
  unfold mulL
  rw [Nat.mul_one]
  refine tab_ext fun q hq => ?_
  rw [Nat.div_one, Nat.mod_one]
  unfold prodAt mv
  refine sumTo_congr C fun k hk => ?_
  rw [cel_tb hq hk, cel_nat, Nat.mul_one, Nat.add_zero]
theorem mulL_cel {xs : List Int} {R C : Nat} (h : xs.length = R * C) (z : List Int) : mulL xs R C z 1 = tab R fun i => mv C (fun i j => cel xs C i j) (fun k => z.getD k 0) i := by
  conv => lhs; rw [tb_of h]
  exact mulL_col _ z
/-- The solution that SolveInteger finds is one. -/
theorem si_solves {R C : Nat} {xs bs x : List Int} (h : siR R C xs bs = (x, 0)) : bs.length = R ∧ x.length = C ∧ ∀ i, i < R → mv C (fun i j => cel xs C i j) (fun k => x.getD k 0) i = bs.getD i 0 := by
  unfold siR at h
  rcases hs : siS R C xs bs with _ | ⟨s, cs⟩
  · rw [hs] at h; cases h
  · rw [hs] at h
    simp only [Int.toNat_natCast] at h
    obtain ⟨k1, k2, k3, k4⟩ := siS_some hs
    rcases hf : fwF (dgF R C s.f) 0 cs with _ | q
    · rw [hf] at h
      dsimp only at h
      split at h
      · rename_i hm
        injection h with h1 _
        have hx : x = tab C fun i => mv C s.h (fun k => (siY R C s cs).getD k 0) i := by
          rw [← h1]
          unfold mulM
          rw [if_pos hm]
          show mulL (tb C C s.h) ((C : Int)).toNat ((C : Int)).toNat _ ((1 : Int)).toNat = _
          rw [Int.toNat_natCast]
          exact mulL_col _ _
        have hcs : cs = tab R fun i => mv R s.g (fun k => bs.getD k 0) i := by rw [k4]; exact mulL_col _ _
        have hcl : cs.length = R := by rw [hcs, tab_len]
        have hdv := fwF_none cs 0 hf
        refine ⟨k2, by rw [hx, tab_len], fun i hi => ?_⟩
        have hdiag := sfX_diag k1
        have key := sf_solves (sfX_umv k1) (b := fun k => bs.getD k 0) (y := fun k => (siY R C s cs).getD k 0) (fun i hi => ?_) i hi
        · rw [← key]
          refine mv_congr (fun _ _ => rfl) fun k hk => ?_
          rw [hx, tab_getD hk]
        · have hc : cs.getD i 0 = mv R s.g (fun k => bs.getD k 0) i := by rw [hcs, tab_getD hi]
          have hd := hdv i (by omega)
          rw [Nat.zero_add] at hd
          rw [← hc]
          by_cases hiC : i < C
          · have e1 : mv C s.f (fun k => (siY R C s cs).getD k 0) i = s.f i i * (siY R C s cs).getD i 0 :=
              sumTo_one (f := fun k => s.f i k * (siY R C s cs).getD k 0) C hiC (fun k hk hne => by
                show s.f i k * _ = 0
                rw [hdiag i k hi hk (fun e => hne e.symm), Int.zero_mul])
            rw [e1]
            unfold siY
            rw [tab_getD hiC]
            rw [dgF_in hi hiC] at hd ⊢
            exact Int.mul_tdiv_cancel' hd
          · rw [dgF_out (by omega)] at hd
            rw [Int.zero_dvd.1 hd]
            exact sumTo_null C fun k hk => by rw [hdiag i k hi hk (by omega), Int.zero_mul]
      · cases h
    · rw [hf] at h
      simp at h
end Go.Proofs.Ytmcbhpaajjlmmaa

/-
  DERIVED. SolveInteger and RefuteInteger together: no program in sight.
-/
namespace Go.Proofs.Ytmcbhpaajjlmmaa
set_option linter.unusedVariables false
theorem lowR_num {n d : Int} (hn : isNum n = true) (hd : isNum d = true) (h0 : d ≠ 0) : ratOk (lowR n d).1 (lowR n d).2 = true := by
  obtain ⟨n1, n2⟩ := (isNum_iff n).1 hn
  obtain ⟨d1, d2⟩ := (isNum_iff d).1 hd
  obtain ⟨g1, g2⟩ := gcd_pos2 (n := n) h0
  have key : ∀ n d : Int, 0 < d → d ≤ 400000000 → n.natAbs ≤ 400000000 → ratOk (lowR n d).1 (lowR n d).2 = true := fun n d hp hq hm => by
    obtain ⟨g1, g2⟩ := gcd_pos2 (n := n) (d := d) (by omega)
    have hr : ratOk (n.tdiv (Int.gcd n d : Nat)) (d.tdiv (Int.gcd n d : Nat)) = true := by
      rw [ratOk_iff]
      have e1 := tdiv_abs n (Int.gcd n d : Nat)
      have e2 := tdiv_abs d (Int.gcd n d : Nat)
      have dv : ((Int.gcd n d : Nat) : Int) ∣ d := Int.gcd_dvd_right ..
      have dn : ((Int.gcd n d : Nat) : Int) ∣ n := Int.gcd_dvd_left ..
      have e3 := Int.tdiv_mul_cancel dv
      have hpos : 0 < d.tdiv (Int.gcd n d : Nat) := by
        refine Int.not_le.1 fun hle => ?_
        have := Int.mul_nonneg (show 0 ≤ -(d.tdiv (Int.gcd n d : Nat)) by omega) (show (0 : Int) ≤ (Int.gcd n d : Nat) by omega)
        rw [Int.neg_mul, e3] at this
        omega
      refine ⟨⟨by omega, by omega⟩, ⟨by omega, by omega⟩, ?_⟩
      rw [Int.tdiv_eq_ediv_of_dvd dn, Int.tdiv_eq_ediv_of_dvd dv]
      exact Int.gcd_ediv_gcd_ediv_gcd (by omega)
    rw [lowR_pos hp, if_pos hr]
    exact hr
  rcases Int.lt_or_le 0 d with hp | hp
  · exact key n d hp d2 (by omega)
  · rw [lowR_flip (by omega)]
    exact key (-n) (-d) (by omega) (by omega) (by omega)
/-- Ratio k of the list. -/
theorem riL_at (R : Nat) (g : Fn2) (k : Nat) (n : Int) : ∀ m j, j < m → fl (riL R g k n m) j = lowR (g k j) n
  | 0, j, h => absurd h (Nat.not_lt_zero _)
  | m + 1, j, h => by
    have hl := riL_len R g k n m
    unfold fl
    show ((riL R g k n m ++ [(lowR (g k m) n).1, (lowR (g k m) n).2]).getD (j * 2) 0, (riL R g k n m ++ [(lowR (g k m) n).1, (lowR (g k m) n).2]).getD (j * 2 + 1) 0) = _
    by_cases e : j = m
    · subst e
      have a1 : ¬ j * 2 < (riL R g k n j).length := by omega
      have a2 : ¬ j * 2 + 1 < (riL R g k n j).length := by omega
      simp only [List.getD, List.getElem?_append, if_neg a1, if_neg a2]
      rw [hl, Nat.sub_self, show j * 2 + 1 - j * 2 = 1 by omega]
      rfl
    · have ih := riL_at R g k n m j (by omega)
      unfold fl at ih
      have a1 : j * 2 < (riL R g k n m).length := by omega
      have a2 : j * 2 + 1 < (riL R g k n m).length := by omega
      simp only [List.getD, List.getElem?_append, if_pos a1, if_pos a2]
      simpa [List.getD] using ih
theorem si_else {r c : Int} {xs bs : List Int} (h : (siR r c xs bs).2 ≠ 0) : (siR r c xs bs).1 = [] := by
  unfold siR at h ⊢
  split
  · rfl
  · rename_i s cs hs
    rw [hs] at h
    dsimp only at h ⊢
    split
    · rfl
    · rename_i hf
      rw [hf] at h
      dsimp only at h
      split
      · rename_i hm
        rw [if_pos hm] at h
        exact absurd rfl h
      · rfl
theorem ri_found {r c : Int} {xs bs : List Int} (h : (siR r c xs bs).2 = 0) : riR r c xs bs = (0, [], 1) := by
  unfold siR at h
  unfold riR
  rcases hs : siS r c xs bs with _ | ⟨s, cs⟩
  · rw [hs] at h; cases h
  · rw [hs] at h
    dsimp only at h ⊢
    rcases hf : fwF (dgF r.toNat c.toNat s.f) 0 cs with _ | k
    · rfl
    · rw [hf] at h; cases h
theorem ri_none {R C : Nat} {xs bs : List Int} (h : (siR R C xs bs).2 = 1) : riR R C xs bs = (0, [], 2) ∨ ((riR R C xs bs).1 = R ∧ (riR R C xs bs).2.2 = 0 ∧ (riR R C xs bs).2.1.length = R * 2 ∧ ∀ j, j < R → ratOk (fl (riR R C xs bs).2.1 j).1 (fl (riR R C xs bs).2.1 j).2 = true) := by
  unfold siR at h
  unfold riR
  rcases hs : siS R C xs bs with _ | ⟨s, cs⟩
  · rw [hs] at h; cases h
  · rw [hs] at h
    simp only [Int.toNat_natCast] at h ⊢
    rcases hf : fwF (dgF R C s.f) 0 cs with _ | k
    · rw [hf] at h
      dsimp only at h
      split at h <;> cases h
    · dsimp only
      by_cases hn : isNum (riN (dgF R C s.f k) (cs.getD k 0)) = true
      · rw [if_pos hn]
        right
        obtain ⟨k1, k2, k3, k4⟩ := siS_some hs
        obtain ⟨_, hR, hC, hg⟩ := sfX_gd k1
        obtain ⟨a, b, d⟩ := fwF_some cs 0 k hf
        rw [Nat.sub_zero] at d
        have hcl : cs.length = R := by rw [k4, mulL_len]; omega
        have h0 : riN (dgF R C s.f k) (cs.getD k 0) ≠ 0 := by
          unfold riN
          split
          · rename_i hz
            intro e
            rw [hz] at d
            exact d (by rw [show cs.getD k 0 = 0 by omega]; exact Int.dvd_zero _)
          · rename_i hz; exact hz
        refine ⟨rfl, rfl, riL_len _ _ _ _ _, fun j hj => ?_⟩
        dsimp only
        rw [riL_at _ _ _ _ _ _ hj]
        exact lowR_num (hg.ok.g k j (by omega) hj).isN hn h0
      · rw [if_neg hn]
        exact .inl rfl
/-- The product with the solution is the right side. -/
theorem si_prod {R C : Nat} {xs bs x : List Int} (h : siR R C xs bs = (x, 0)) (hm : mulB R C xs x.length 1 x = true) : mulM R C xs x.length 1 x = ⟨R, 1, bs⟩ := by
  obtain ⟨h1, h2, h3⟩ := si_solves h
  unfold mulM
  rw [if_pos hm]
  have M : isMat (R : Int) (C : Int) xs = true := by
    unfold mulB at hm
    simp only [Bool.and_eq_true] at hm
    exact hm.1.1.1
  have hl : xs.length = R * C := by
    have := (isMat_iff.1 M).len
    rw [← Int.natCast_mul] at this
    omega
  have e : mulL xs ((R : Int)).toNat ((C : Int)).toNat x ((1 : Int)).toNat = bs := by
    show mulL xs R C x 1 = bs
    rw [mulL_cel hl, tab_ext h3]
    exact tab_of h1
  rw [e]
end Go.Proofs.Ytmcbhpaajjlmmaa

/-
  DERIVED. Several small texts in one: PlRe, PlDl, Det, DetS, DrQ, PlIm, PlMp, PlMpL, DrI, LImages.
-/
import Derived.Test.YtacjonkehcamgaaZS
import Derived.Test.YtacjonkehcamgaaRatioFromq
import Derived.Test.YtacjonkehcamgaaZ1
import Derived.Test.YtacjonkehcamgaaDetWq
import Derived.Deep.LoopGhost
import Derived.Test.YtacjonkehcamgaaDrMq
import Derived.Test.YtacjonkehcamgaaPlainR
import Derived.Test.YtacjonkehcamgaaZ2
import Derived.Test.YtacjonkehcamgaaOwn
/-
  DERIVED. A ratio with small parts comes back from its residue: no program in sight.
-/
namespace Go.Proofs.Ytacjonkehcamgaa
set_option linter.unusedVariables false
theorem invOf_spec {a m : Int} (hm : 1 ≤ m) (hm2 : m ≤ 400000000) (hg : Int.gcd a m = 1) : m ∣ a * invOf a m - 1 := by
  obtain ⟨b1, b2⟩ := emod_bds a m hm
  have hs := egRes_spec (a := a % m) (b := m) (by omega) (by omega)
  have e1 := Int.emod_add_mul_ediv a m
  have hg2 : Int.gcd (a % m) m = 1 := by
    have : Int.gcd (a % m + m * (a / m)) m = Int.gcd (a % m) m := Int.gcd_add_mul_left_left _ _ _
    rw [e1] at this
    omega
  obtain ⟨-, hc, -, -⟩ := hs
  rw [hg2] at hc
  unfold invOf
  generalize (egRes (a % m) m).2.1 = x at *
  generalize (egRes (a % m) m).2.2 = y at *
  have e2 := Int.emod_add_mul_ediv x m
  refine ⟨a / m * (x % m) - a % m * (x / m) - y, ?_⟩
  have h1 : a * (x % m) = a % m * (x % m) + m * (a / m * (x % m)) := by
    conv => lhs; rw [← e1]
    grind
  have h2 : a % m * x = a % m * (x % m) + m * (a % m * (x / m)) := by
    conv => lhs; rw [← e2]
    grind
  rw [Int.mul_sub, Int.mul_sub]
  generalize m * (a / m * (x % m)) = P at *
  generalize m * (a % m * (x / m)) = Q at *
  generalize a % m * (x % m) = S at *
  generalize a % m * x = T at *
  omega
theorem resVal_yes {n d m : Int} (h : resOk n d m = true) : (1 ≤ m ∧ m ≤ 400000000) ∧ ratOk n d = true ∧ 0 ≤ resVal n d m ∧ resVal n d m < m ∧ m ∣ resVal n d m * d - n ∧ Int.gcd d m = 1 := by
  have hv : resVal n d m = (n % m * invOf d m) % m := by unfold resVal; rw [h]; rfl
  simp only [resOk, Bool.and_eq_true, decide_eq_true_eq] at h
  obtain ⟨⟨⟨h1, h2⟩, h3⟩, h4⟩ := h
  obtain ⟨b1, b2⟩ := emod_bds (n % m * invOf d m) m h2
  obtain ⟨k, hk⟩ := invOf_spec h2 h3 h4
  have e1 := Int.emod_add_mul_ediv n m
  have e2 := Int.emod_add_mul_ediv (n % m * invOf d m) m
  rw [hv]
  refine ⟨⟨h2, h3⟩, h1, b1, b2, ⟨n % m * k - (n % m * invOf d m) / m * d - n / m, ?_⟩, h4⟩
  generalize (n % m * invOf d m) / m = q at *
  have e3 : (n % m * invOf d m) % m = n % m * invOf d m - m * q := by omega
  rw [e3]
  have e4 : invOf d m * d = m * k + 1 := by rw [Int.mul_comm]; omega
  have e5 : (n % m * invOf d m - m * q) * d = n % m * (invOf d m * d) - m * (q * d) := by grind
  rw [e5, e4, Int.mul_sub, Int.mul_sub, Int.mul_add]
  have e6 : n % m * (m * k) = m * (n % m * k) := by grind
  rw [e6]
  omega
theorem resVal_img {n d m : Int} (h : resOk n d m = true) : imgOk n d (resVal n d m) m = true := by
  obtain ⟨⟨h1, h2⟩, h3, h4, h5, h6, h7⟩ := resVal_yes h
  exact (imgOk_iff _ _ _ _).2 ⟨h3, ⟨by omega, by omega⟩, ⟨h1, h2⟩, h7, Int.emod_eq_zero_of_dvd h6⟩
/-- The bound that a ratio needs. -/
def rbd (n d : Int) : Int := max 1 (max (n.natAbs : Int) d)
theorem rf_back {n d m : Int} (h : resOk n d m = true) (hb : rbd n d ≤ 20000) (h2 : 2 * rbd n d * rbd n d < m) : rfRes (resVal n d m) m (rbd n d) = some (n, d) := by
  obtain ⟨⟨k1, k2⟩, k3, k4, k5, k6, k7⟩ := resVal_yes h
  obtain ⟨j1, j2, j3, j4⟩ := ratOk_bds k3
  have r1 : 1 ≤ rbd n d ∧ (n.natAbs : Int) ≤ rbd n d ∧ d ≤ rbd n d := by unfold rbd; omega
  generalize rbd n d = b at *
  have g : RfOk (resVal n d m) m b := ⟨by omega, by omega, k1, k2, by omega, hb, h2⟩
  have hG : Good (resVal n d m) m b n d := (good_iff g n d).2 ⟨⟨j1, by omega⟩, by omega, resVal_img h⟩
  have hk : rfOkB (resVal n d m) m b = true := by
    simp only [rfOkB, Bool.and_eq_true, decide_eq_true_eq]
    exact ⟨⟨⟨⟨⟨(isNum_iff _).2 ⟨by omega, by omega⟩, k1⟩, k2⟩, by omega⟩, hb⟩, h2⟩
  unfold rfRes
  rw [if_pos hk]
  rcases hI : rfI (resVal n d m) m b b.toNat 1 with _ | r
  · exact (rfI_none g _ _ hI n d hG hG.d1 (by have := hG.d2; have := hG.d1; omega)).elim
  · have hg := rfI_some g _ _ r (by omega) (by omega) hI
    obtain ⟨e1, e2⟩ := Good.uniq g.bm hG hg
    obtain ⟨a, b⟩ := r
    dsimp only at e1 e2
    rw [e1, e2]
end Go.Proofs.Ytacjonkehcamgaa

/-
  DERIVED. The determinant by its first row, as a list, is that of the matrix: no program in sight.
-/
namespace Go.Proofs.Ytacjonkehcamgaa
set_option linter.unusedVariables false
theorem tab_succ (n : Nat) (f : Nat → Int) : tab (n + 1) f = tab n f ++ [f n] := by
  unfold tab
  rw [List.range_succ, List.map_append]
  rfl
def wcG (xs : List Int) (C j : Nat) (q : Nat) : Int := cel xs C ((q / (C - 1) + 1 : Nat) : Int) (sk j (q % (C - 1)) : Nat)
def wcN (j k : Nat) : Nat := k - (if j < k then 1 else 0)
theorem wcK_tab_row {xs : List Int} {C j i : Nat} (hj : j < C) (hi : 1 ≤ i) (h0 : wcK xs C j (i * C) = tab ((i - 1) * (C - 1)) (wcG xs C j)) : ∀ k, k ≤ C → wcK xs C j (i * C + k) = tab ((i - 1) * (C - 1) + wcN j k) (wcG xs C j)
  | 0, _ => by
    have : wcN j 0 = 0 := by unfold wcN; omega
    rw [this, Nat.add_zero, Nat.add_zero]; exact h0
  | k + 1, hk => by
    have ih := wcK_tab_row hj hi h0 k (by omega)
    by_cases hc : k = j
    · have : wcN j (k + 1) = wcN j k := by unfold wcN; subst hc; rw [if_pos (by omega), if_neg (by omega)]; omega
      rw [wcK_no (by omega) (.inr hc), ih, this]
    · have e1 : wcN j (k + 1) = wcN j k + 1 := by unfold wcN; repeat' split
                                                  all_goals omega
      have e2 : wcN j k < C - 1 := by unfold wcN; split <;> omega
      have e3 : sk j (wcN j k) = k := by unfold sk wcN; repeat' split
                                         all_goals omega
      rw [wcK_yes (by omega) (by omega) hc, ih, e1, ← Nat.add_assoc, tab_succ]
      congr 2
      unfold wcG
      rw [(idx_div e2).1, (idx_div e2).2, e3, Nat.sub_add_cancel hi, cel_nat]
theorem wcK_tab {xs : List Int} {C j : Nat} (hj : j < C) : ∀ i, 1 ≤ i → wcK xs C j (i * C) = tab ((i - 1) * (C - 1)) (wcG xs C j)
  | 0, h => absurd h (by omega)
  | 1, _ => by
    have := wcK_len (xs := xs) hj 1
    rw [Nat.sub_self, Nat.zero_mul] at this ⊢
    exact List.length_eq_zero_iff.1 this
  | i + 2, _ => by
    have ih := wcK_tab (xs := xs) hj (i + 1) (by omega)
    have h := wcK_tab_row hj (by omega) ih C (Nat.le_refl _)
    have e : (i + 2) * C = (i + 1) * C + C := by rw [show i + 2 = (i + 1) + 1 by omega, Nat.add_mul (i + 1) 1 C, Nat.one_mul]
    have e2 : wcN j C = C - 1 := by unfold wcN; rw [if_pos hj]
    rw [e, h, e2]
    congr 1
    rw [show i + 1 - 1 = i by omega, show i + 2 - 1 = i + 1 by omega, Nat.add_mul, Nat.one_mul]
theorem wc_cel {xs : List Int} {n j a b : Nat} (hj : j < n + 1) (ha : a < n) (hb : b < n) : cel (wcK xs (n + 1) j ((n + 1) * (n + 1))) n a b = mnr (fun i j => cel xs (n + 1 : Nat) i j) j a b := by
  have h := wcK_tab (xs := xs) hj (n + 1) (by omega)
  rw [h, cel_nat, Nat.add_sub_cancel, tab_getD (idx_nat ha hb)]
  unfold wcG
  rw [Nat.add_sub_cancel, (idx_div hb).1, (idx_div hb).2]
  rfl
theorem wc_len {xs : List Int} {n j : Nat} (hj : j < n + 1) : (wcK xs (n + 1) j ((n + 1) * (n + 1))).length = n * n := by
  rw [wcK_len hj (n + 1), Nat.add_sub_cancel]
theorem detS_sum {n : Nat} {D : List Int → Option Int} (hD : ∀ ys d, ys.length = n * n → D ys = some d → d = Dt n (fun i j => cel ys n i j)) {xs : List Int} :
    ∀ j s, j ≤ n + 1 → detS D (n + 1) xs j = some s → s = sumTo (fun k => sg k * cel xs (n + 1 : Nat) (0 : Nat) k * Dt n (mnr (fun i j => cel xs (n + 1 : Nat) i j) k)) j
  | 0, s, _, h => by cases h; rfl
  | j + 1, s, hj, h => by
    have h' : (detS D (n + 1) xs j).bind (fun s => if xs.getD j 0 = 0 then some s else (D (wcK xs (n + 1) j ((n + 1) * (n + 1)))).bind fun d => some (s + (if j % 2 = 1 then -(xs.getD j 0) else xs.getD j 0) * d)) = some s := h
    rcases hs : detS D (n + 1) xs j with _ | s0
    · rw [hs] at h'; cases h'
    · rw [hs] at h'
      have ih := detS_sum hD j s0 (by omega) hs
      have ec : cel xs (n + 1 : Nat) (0 : Nat) j = xs.getD j 0 := by rw [cel_nat, Nat.zero_mul, Nat.zero_add]
      rw [sumTo_succ, ← ih, ec]
      simp only [Option.bind_some] at h'
      by_cases h0 : xs.getD j 0 = 0
      · rw [if_pos h0] at h'
        cases h'
        rw [h0]
        grind
      · rw [if_neg h0] at h'
        rcases hd : D (wcK xs (n + 1) j ((n + 1) * (n + 1))) with _ | d
        · rw [hd] at h'; cases h'
        · rw [hd] at h'
          simp only [Option.bind_some] at h'
          have e := hD _ d (wc_len (by omega)) hd
          have e2 : Dt n (fun a b => cel (wcK xs (n + 1) j ((n + 1) * (n + 1))) n a b) = Dt n (mnr (fun i j => cel xs (n + 1 : Nat) i j) j) := Dt_congr n fun a b ha hb => wc_cel (by omega) ha hb
          rw [e2] at e
          cases h'
          rw [e]
          unfold sg
          split
          · grind
          · grind
/-- The determinant that is found is the determinant. -/
theorem detL_Dt : ∀ (n : Nat) (xs : List Int) (d : Int), xs.length = n * n → detL n xs = some d → d = Dt n (fun i j => cel xs n i j)
  | 0, xs, d, _, h => by cases h; rfl
  | n + 1, xs, d, hl, h => by
    unfold detL at h
    rcases hs : detS (detL n) (n + 1) xs (n + 1) with _ | s
    · rw [hs] at h; cases h
    · rw [hs] at h
      simp only [Option.bind_some] at h
      split at h
      · cases h
        have := detS_sum (fun ys d hy hd => detL_Dt n ys d hy hd) (n + 1) _ (Nat.le_refl _) hs
        rw [this]
        rfl
      · cases h
end Go.Proofs.Ytacjonkehcamgaa

/-
  DERIVED. determinant of the program, l6Det of the reference, DeterminantOf of both.
-/
namespace Go.Proofs.Ytacjonkehcamgaa
open Go.RowKit
set_option linter.unusedVariables false
set_option linter.unusedSimpArgs false
section
variable {D : List Int → Option Int} {C j : Nat} {xs : List Int} {s d : Int}
theorem detS_zero (h : detS D C xs j = some s) (hz : xs.getD j 0 = 0) : detS D C xs (j + 1) = some s := by
  unfold detS; rw [h, Option.bind_some, if_pos hz]
theorem detS_bad (hz : ¬ xs.getD j 0 = 0) (hd : D (wcK xs C j (C * C)) = none) : detS D C xs (j + 1) = none := by
  unfold detS
  cases h : detS D C xs j with
  | none => rfl
  | some s => rw [Option.bind_some, if_neg hz, hd]; rfl
theorem detS_next (h : detS D C xs j = some s) (hz : ¬ xs.getD j 0 = 0) (hd : D (wcK xs C j (C * C)) = some d) : detS D C xs (j + 1) = some (s + (if j % 2 = 1 then -(xs.getD j 0) else xs.getD j 0) * d) := by
  unfold detS; rw [h, Option.bind_some, if_neg hz, hd]; rfl
theorem detS_up (h : detS D C xs j = none) : ∀ k, j ≤ k → detS D C xs k = none
  | 0, hk => by
    have e : j = 0 := by omega
    rw [← e]; exact h
  | k + 1, hk => by
    by_cases e : j = k + 1
    · rw [← e]; exact h
    · have := detS_up h k (by omega)
      unfold detS; rw [this]; rfl
end
theorem detL_succ (n : Nat) (xs : List Int) : detL (n + 1) xs = (detS (detL n) (n + 1) xs (n + 1)).bind fun s => if isNum s then some s else none := rfl
/-- What determinant answers. -/
def DetR (o : Option Int) (w : World) (e : Ending) (w' : World) : Prop := (∃ v, e = .returned (.tuple #[.int .i64 v, .bool o.isSome]) ∧ ∀ d, o = some d → v = d) ∧ Below w.heap.size w w'
def detV (o : Option Int) : Int := o.getD bad
theorem rem2_one {j : Nat} (h : j % 2 = 1) : ((j : Int) % 2 == 1) = true := by
  have : (j : Int) % 2 = 1 := by omega
  rw [this]; rfl
theorem rem2_no {j : Nat} (h : ¬ j % 2 = 1) : ((j : Int) % 2 == 1) = false := by
  have : (j : Int) % 2 = 0 := by omega
  rw [this]; rfl
set_option maxRecDepth 100000 in
set_option maxHeartbeats 8000000 in
theorem impl_determinant : ∀ (n : Nat) (A : Option Addr) (m cap : Nat) (xs : List Int) (w : World) {B : Nat}, RI w B A m xs → B ≤ w.heap.size → xs.length = n * n → n ≤ 24 → xs.all isNum = true →
    Calls Try.prog 160 #[.agg #[.int .i64 n, .int .i64 n, .slice A m cap]] w (DetR (detL n xs) w) := by
  intro n
  induction n with
  | zero =>
    intro A m cap xs w B h hB hl hn hnum
    have hv : detL 0 xs = some 1 := rfl
    rw [hv]
    clear h hnum hl hv
    go_enter Try.func160, Try.ntmps160
    go_wp2_with fail
    go_ret2
    exact ⟨⟨1, rfl, fun d hd => by cases hd; rfl⟩, Kw⟩
  | succ n ih =>
    intro A m cap xs w B h hB hl hn hnum
    obtain ⟨C, hCe⟩ : ∃ C, C = n + 1 := ⟨_, rfl⟩
    have hXS : ∀ s, detS (detL n) C xs C = some s → detL (n + 1) xs = if isNum s then some s else none := fun s h => by rw [detL_succ, ← hCe, h]; rfl
    have hXN : ∀ j, j ≤ C → detS (detL n) C xs j = none → detL (n + 1) xs = none := fun j hj h => by rw [detL_succ, ← hCe, detS_up h C hj]; rfl
    have hln := h.len
    have H2 := Lib.hid (h.more hB)
    clear h
    generalize hXX : detL (n + 1) xs = X at hXS hXN ⊢
    clear hXX
    rw [← hCe] at hl hn ⊢
    have HXS := Lib.hid hXS
    have HXN := Lib.hid hXN
    clear hXS hXN
    have hnC : (C : Int) - 1 = (n : Int) := by omega
    have hCC : C * C ≤ 24 * 24 := Nat.mul_le_mul hn hn
    have hmm : m ≤ C * C ∧ C * C ≤ m := by omega
    have hC0 : 0 < C := by omega
    have hjm : ∀ j, j < C → j < m := fun j hj => by have := Nat.le_mul_of_pos_left C hC0; omega
    have HJM := Lib.hid hjm
    have HNUM : Hid (∀ j, Num (xs.getD j 0)) := Lib.hid (getD_num hnum)
    have HWC : Hid (∀ (j : Nat) w', j < C → RI w' w.heap.size A m xs → w.heap.size ≤ w'.heap.size → Calls Try.prog 219 #[.agg #[.int .i64 C, .int .i64 C, .slice A m cap], .int .i64 0, .int .i64 j] w' (MR ⟨n, n, wcK xs C j (C * C)⟩ w')) := Lib.hid (fun j w' hj k1 k2 => by
      have := impl_withoutCross C j A m cap xs w' k1 k2 hl hj hn
      rw [hnC] at this
      exact this)
    have HIH := Lib.hid ih
    have HWL : Hid (∀ j, j < C → (wcK xs C j (C * C)).length = n * n) := Lib.hid (fun j hj => by rw [wcK_len hj, show C - 1 = n by omega])
    have HWN : Hid (∀ j, (wcK xs C j (C * C)).all isNum = true) := Lib.hid (fun j => wcK_num hnum _)
    have HCE := Lib.hid hCe
    have hnn : n ≤ 24 := by omega
    clear ih hnum hl hln hjm hnC hCe
    have HAT : Hid (∀ (j : Nat) w', j < C → RI w' w.heap.size A m xs → w.heap.size ≤ w'.heap.size → Calls Try.prog 117 #[.agg #[.int .i64 C, .int .i64 C, .slice A m cap], .int .i64 0, .int .i64 j] w' (BV (.int .i64 (xs.getD j 0)) w')) := Lib.hid (fun j w' hj k1 k2 => by
      have h1 := HJM.out j hj
      have := impl_at C C 0 j A m cap xs w' k1 k2 (by omega) (by omega) (by omega)
      have e : cel xs C 0 j = xs.getD j 0 := by unfold cel; congr 1; omega
      rw [e] at this
      exact this)
    have hCz : ((C : Int) == 0) = false := by simp; omega
    go_enter Try.func160, Try.ntmps160
    go_wp2_with fail
    go_loopg [4, 5] (C + 1) (fun gn vs vj wr => ∃ (j : Nat) (s : Int), vj = .int .i64 j ∧ vs = .int .i64 s ∧ j ≤ C ∧ C - j < gn ∧ Hid (detS (detL n) C xs j = some s) ∧ -((j : Int) * 160000000000000000) ≤ s ∧ s ≤ (j : Int) * 160000000000000000 ∧ BM wr w.heap.size C C A m cap ∧ Below w.heap.size w wr)
    case atStart => exact ⟨0, 0, rfl, rfl, Nat.zero_le _, by omega, Lib.hid rfl, by omega, by omega, Ka, Kw⟩
    case round =>
      obtain ⟨j, s, rfl, rfl, hj, hgk, HS, hs1, hs2, hM, hbw⟩ := hrel
      obtain ⟨ma, mb, mc, mf, ml⟩ := hM.mx
      have hszr := hbw.size
      by_cases hjC : j < C
      · go_wp2_with fail
        refine (HAT.out j _ hjC (Kr H2.out) Ks).mono ?_
        rintro e w1 ⟨rfl, hb1⟩
        (have hsz_1 := hb1.size); (try simp at hsz_1); (have hM_1 : BM w1 w.heap.size C C A m cap := (Kb hM)); (have hbw_1 : Below w.heap.size w w1 := Kw); clear ma mb mc mf ml; clear hM hbw; (have hM := hM_1); (have hbw := hbw_1); clear hM_1 hbw_1; obtain ⟨ma, mb, mc, mf, ml⟩ := hM.mx
        have hcn := HNUM.out j
        obtain ⟨hc1, hc2⟩ := hcn
        by_cases hz : xs.getD j 0 = 0
        · have HS2 := Lib.hid (detS_zero HS.out hz)
          rw [hz]
          clear hz hc1 hc2
          go_wp2_with fail
          go_roundg (gk - 1)
          case measure => omega
          case rel => exact ⟨j + 1, s, by go_num, rfl, by omega, by omega, HS2, by omega, by omega, Kb hM, Kw⟩
        · have hzb : (xs.getD j 0 == 0) = false := by simpa using hz
          have HDJ : Hid (∀ (A5 : Option Addr) (n5 c5 : Nat) w' B', RI w' B' A5 n5 (wcK xs C j (C * C)) → B' ≤ w'.heap.size → Calls Try.prog 160 #[.agg #[.int .i64 n, .int .i64 n, .slice A5 n5 c5]] w' (DetR (detL n (wcK xs C j (C * C))) w')) := Lib.hid (fun A5 n5 c5 w' B' k1 k2 => HIH.out A5 n5 c5 _ w' k1 k2 (HWL.out j hjC) hnn (HWN.out j))
          have HWJ := Lib.hid (fun w' => HWC.out j w' hjC)
          rcases hd : detL n (wcK xs C j (C * C)) with _ | d
          · rw [hd] at HDJ
            have HX := Lib.hid (HXN.out (j + 1) (by omega) (detS_bad hz hd))
            clear hz hd
            generalize wcK xs C j (C * C) = ys at *
            generalize xs.getD j 0 = c at *
            go_wp2_with fail
            refine (HWJ.out _ (Kr H2.out) Ks).mono ?_
            rintro e w2 ⟨A5, n5, c5, rfl, ho5, hb5⟩
            have HO5 := Lib.hid ho5
            (have hsz_1 := hb5.size); (try simp at hsz_1); (have hM_1 : BM w2 w.heap.size C C A m cap := (Kb hM)); (have hbw_1 : Below w.heap.size w w2 := Kw); clear ma mb mc mf ml; clear hM hbw; (have hM := hM_1); (have hbw := hbw_1); clear hM_1 hbw_1; obtain ⟨ma, mb, mc, mf, ml⟩ := hM.mx
            clear ho5
            go_wp2_with fail
            refine (HDJ.out A5 n5 c5 _ _ (OR.reads (xs := ys) HO5.out) (Nat.le_refl _)).mono ?_
            rintro e w3 ⟨⟨v, rfl, hv⟩, hb6⟩
            (have hsz_1 := hb6.size); (try simp at hsz_1); (have hM_1 : BM w3 w.heap.size C C A m cap := (Kb hM)); (have hbw_1 : Below w.heap.size w w3 := Kw); clear ma mb mc mf ml; clear hM hbw; (have hM := hM_1); (have hbw := hbw_1); clear hM_1 hbw_1; obtain ⟨ma, mb, mc, mf, ml⟩ := hM.mx
            clear hv
            go_wp2_with fail
            go_ret2
            rw [HX.out]
            exact ⟨⟨0, rfl, fun d hd => by cases hd⟩, Kw⟩
          · have hdn := detL_num _ _ _ hd
            have HS2 := Lib.hid (detS_next HS.out hz hd)
            rw [hd] at HDJ
            clear hz hd
            generalize wcK xs C j (C * C) = ys at *
            generalize xs.getD j 0 = c at *
            obtain ⟨hd1, hd2⟩ := hdn
            have hcd := mul_bd4 c d 400000000 400000000 hc1 hc2 hd1 hd2
            have hcd2 := mul_bd4 (-c) d 400000000 400000000 (by omega) (by omega) hd1 hd2
            obtain ⟨k1, k2⟩ := hcd
            obtain ⟨k3, k4⟩ := hcd2
            have wn : IntKind.i64.wrap (-c) = -c := IntWalk.i64_in _ (by omega)
            by_cases hp : j % 2 = 1
            · have hr := rem2_one hp
              rw [if_pos hp] at HS2
              have w1' : IntKind.i64.wrap (-c * d) = -c * d := IntWalk.i64_in _ (by omega)
              have w2' : IntKind.i64.wrap (s + -c * d) = s + -c * d := IntWalk.i64_in _ (by omega)
              clear hp k1 k2
              go_wp2_with fail
              refine (HWJ.out _ (Kr H2.out) Ks).mono ?_
              rintro e w2 ⟨A5, n5, c5, rfl, ho5, hb5⟩
              have HO5 := Lib.hid ho5
              (have hsz_1 := hb5.size); (try simp at hsz_1); (have hM_1 : BM w2 w.heap.size C C A m cap := (Kb hM)); (have hbw_1 : Below w.heap.size w w2 := Kw); clear ma mb mc mf ml; clear hM hbw; (have hM := hM_1); (have hbw := hbw_1); clear hM_1 hbw_1; obtain ⟨ma, mb, mc, mf, ml⟩ := hM.mx
              clear ho5
              go_wp2_with fail
              refine (HDJ.out A5 n5 c5 _ _ (OR.reads (xs := ys) HO5.out) (Nat.le_refl _)).mono ?_
              rintro e w3 ⟨⟨v, rfl, hv⟩, hb6⟩
              obtain rfl := hv d rfl
              (have hsz_1 := hb6.size); (try simp at hsz_1); (have hM_1 : BM w3 w.heap.size C C A m cap := (Kb hM)); (have hbw_1 : Below w.heap.size w w3 := Kw); clear ma mb mc mf ml; clear hM hbw; (have hM := hM_1); (have hbw := hbw_1); clear hM_1 hbw_1; obtain ⟨ma, mb, mc, mf, ml⟩ := hM.mx
              go_wp2_with fail
              go_roundg (gk - 1)
              case measure => omega
              case rel => exact ⟨j + 1, s + -c * v, by go_num, rfl, by omega, by omega, HS2, by omega, by omega, Kb hM, Kw⟩
            · have hr := rem2_no hp
              rw [if_neg hp] at HS2
              have w1' : IntKind.i64.wrap (c * d) = c * d := IntWalk.i64_in _ (by omega)
              have w2' : IntKind.i64.wrap (s + c * d) = s + c * d := IntWalk.i64_in _ (by omega)
              clear hp k3 k4
              go_wp2_with fail
              refine (HWJ.out _ (Kr H2.out) Ks).mono ?_
              rintro e w2 ⟨A5, n5, c5, rfl, ho5, hb5⟩
              have HO5 := Lib.hid ho5
              (have hsz_1 := hb5.size); (try simp at hsz_1); (have hM_1 : BM w2 w.heap.size C C A m cap := (Kb hM)); (have hbw_1 : Below w.heap.size w w2 := Kw); clear ma mb mc mf ml; clear hM hbw; (have hM := hM_1); (have hbw := hbw_1); clear hM_1 hbw_1; obtain ⟨ma, mb, mc, mf, ml⟩ := hM.mx
              clear ho5
              go_wp2_with fail
              refine (HDJ.out A5 n5 c5 _ _ (OR.reads (xs := ys) HO5.out) (Nat.le_refl _)).mono ?_
              rintro e w3 ⟨⟨v, rfl, hv⟩, hb6⟩
              obtain rfl := hv d rfl
              (have hsz_1 := hb6.size); (try simp at hsz_1); (have hM_1 : BM w3 w.heap.size C C A m cap := (Kb hM)); (have hbw_1 : Below w.heap.size w w3 := Kw); clear ma mb mc mf ml; clear hM hbw; (have hM := hM_1); (have hbw := hbw_1); clear hM_1 hbw_1; obtain ⟨ma, mb, mc, mf, ml⟩ := hM.mx
              go_wp2_with fail
              go_roundg (gk - 1)
              case measure => omega
              case rel => exact ⟨j + 1, s + c * v, by go_num, rfl, by omega, by omega, HS2, by omega, by omega, Kb hM, Kw⟩
      · obtain rfl : j = C := by omega
        have HX := Lib.hid (HXS.out s HS.out)
        rcases hi : isNum s with _ | _
        · have HI := Lib.hid hi
          rw [hi] at HX
          clear hi
          go_wp2_with fail
          refine (impl_IsNumber s _).mono ?_
          rw [HI.out]
          rintro e w' ⟨rfl, rfl⟩
          go_wp2_with fail
          go_ret2
          rw [HX.out]
          exact ⟨⟨s, rfl, fun d hd => by cases hd⟩, Kw⟩
        · have HI := Lib.hid hi
          rw [hi] at HX
          clear hi
          go_wp2_with fail
          refine (impl_IsNumber s _).mono ?_
          rw [HI.out]
          rintro e w' ⟨rfl, rfl⟩
          go_wp2_with fail
          go_ret2
          rw [HX.out]
          exact ⟨⟨s, rfl, fun d hd => by cases hd; rfl⟩, Kw⟩
end Go.Proofs.Ytacjonkehcamgaa

/-
  DERIVED. l6Det of the reference; DeterminantOf, both sides.
-/
namespace Go.Proofs.Ytacjonkehcamgaa
open Go.RowKit
set_option linter.unusedVariables false
set_option linter.unusedSimpArgs false
/-- The sign in column j. -/
def sgD (j : Nat) : Int := if j % 2 = 1 then -1 else 1
theorem sgD_succ (j : Nat) : sgD (j + 1) = -sgD j := by unfold sgD; split <;> split <;> omega
theorem sgD_bd (j : Nat) : -1 ≤ sgD j ∧ sgD j ≤ 1 := by unfold sgD; split <;> omega
theorem sgD_mul (j : Nat) (c : Int) : (if j % 2 = 1 then -c else c) = sgD j * c := by unfold sgD; split <;> omega
theorem sgD_cbd {j : Nat} {c : Int} (h : -400000000 ≤ c ∧ c ≤ 400000000) : -400000000 ≤ sgD j * c ∧ sgD j * c ≤ 400000000 := by rw [← sgD_mul]; split <;> omega
theorem detV_of {X : Option Int} {s : Int} (h : X = if isNum s then some s else none) : detV X = fit s := by
  subst h; unfold detV fit; split <;> rfl
set_option maxRecDepth 100000 in
set_option maxHeartbeats 8000000 in
theorem spec_l6Det : ∀ (n : Nat) (A : Option Addr) (m cap : Nat) (xs : List Int) (w : World) {B : Nat}, RI w B A m xs → B ≤ w.heap.size → xs.length = n * n → n ≤ 24 → xs.all isNum = true →
    Calls Try.prog 164 #[.agg #[.int .i64 n, .int .i64 n, .slice A m cap]] w (BV (.int .i64 (detV (detL n xs))) w) := by
  intro n
  induction n with
  | zero =>
    intro A m cap xs w B h hB hl hn hnum
    have hv : detV (detL 0 xs) = 1 := rfl
    rw [hv]
    clear h hnum hl hv
    go_enter Try.func164, Try.ntmps164
    go_wp2_with fail
    go_ret
    exact BV.mk rfl Kw
  | succ n ih =>
    intro A m cap xs w B h hB hl hn hnum
    obtain ⟨C, hCe⟩ : ∃ C, C = n + 1 := ⟨_, rfl⟩
    have hXS : ∀ s, detS (detL n) C xs C = some s → detL (n + 1) xs = if isNum s then some s else none := fun s h => by rw [detL_succ, ← hCe, h]; rfl
    have hXN : ∀ j, j ≤ C → detS (detL n) C xs j = none → detL (n + 1) xs = none := fun j hj h => by rw [detL_succ, ← hCe, detS_up h C hj]; rfl
    have hln := h.len
    have H2 := Lib.hid (h.more hB)
    clear h
    generalize hXX : detL (n + 1) xs = X at hXS hXN ⊢
    clear hXX
    rw [← hCe] at hl hn ⊢
    have HXS := Lib.hid hXS
    have HXN := Lib.hid hXN
    clear hXS hXN
    have hnC : (C : Int) - 1 = (n : Int) := by omega
    have hCC : C * C ≤ 24 * 24 := Nat.mul_le_mul hn hn
    have hmm : m ≤ C * C ∧ C * C ≤ m := by omega
    have hC0 : 0 < C := by omega
    have hjm : ∀ j, j < C → j < m := fun j hj => by have := Nat.le_mul_of_pos_left C hC0; omega
    have HJM := Lib.hid hjm
    have HNUM : Hid (∀ j, Num (xs.getD j 0)) := Lib.hid (getD_num hnum)
    have HWC : Hid (∀ (j : Nat) w', j < C → RI w' w.heap.size A m xs → w.heap.size ≤ w'.heap.size → Calls Try.prog 220 #[.agg #[.int .i64 C, .int .i64 C, .slice A m cap], .int .i64 0, .int .i64 j] w' (MR ⟨n, n, wcK xs C j (C * C)⟩ w')) := Lib.hid (fun j w' hj k1 k2 => by
      have := spec_l6Without C j A m cap xs w' k1 k2 hl hj hn
      rw [hnC] at this
      exact this)
    have HIH := Lib.hid ih
    have HWL : Hid (∀ j, j < C → (wcK xs C j (C * C)).length = n * n) := Lib.hid (fun j hj => by rw [wcK_len hj, show C - 1 = n by omega])
    have HWN : Hid (∀ j, (wcK xs C j (C * C)).all isNum = true) := Lib.hid (fun j => wcK_num hnum _)
    have HCE := Lib.hid hCe
    have hnn : n ≤ 24 := by omega
    clear ih hnum hl hln hjm hnC hCe
    obtain ⟨b, o, rfl, hbb, hcells⟩ := H2.out.2 (by have := Nat.mul_pos hC0 hC0; omega)
    have HCJ : Hid (∀ (j : Nat) w', j < C → Below w.heap.size w w' → w'.cell? ⟨b, o + j, none⟩ = some (.int .i64 (xs.getD j 0))) := Lib.hid (fun j w' hj hb => (hb.cell (p := ⟨b, o + j, none⟩) (by simpa using hbb)).trans (hcells j (HJM.out j hj)))
    have hCz : ((C : Int) == 0) = false := by simp; omega
    clear hcells
    go_enter Try.func164, Try.ntmps164
    go_wp2_with fail
    go_loopg [3, 4, 5] (C + 1) (fun gn vs vg vj wr => ∃ (j : Nat) (s g : Int), vj = .int .i64 j ∧ vs = .int .i64 s ∧ vg = .int .i64 g ∧ Hid (g = sgD j) ∧ j ≤ C ∧ C - j < gn ∧ Hid (detS (detL n) C xs j = some s) ∧ -((j : Int) * 160000000000000000) ≤ s ∧ s ≤ (j : Int) * 160000000000000000 ∧ BM wr w.heap.size C C (some ⟨b, o, none⟩) m cap ∧ Below w.heap.size w wr)
    case atStart => exact ⟨0, 0, 1, rfl, rfl, rfl, Lib.hid rfl, Nat.zero_le _, by omega, Lib.hid rfl, by omega, by omega, Ka, Kw⟩
    case round =>
      obtain ⟨j, s, g, rfl, rfl, rfl, HG, hj, hgk, HS, hs1, hs2, hM, hbw⟩ := hrel
      obtain ⟨ma, mb, mc, mf, ml⟩ := hM.mx
      have hszr := hbw.size
      have hgb := sgD_bd j
      rw [← HG.out] at hgb
      obtain ⟨hg1, hg2⟩ := hgb
      have wg : IntKind.i64.wrap (-g) = -g := IntWalk.i64_in _ (by omega)
      have HG2 : Hid (-g = sgD (j + 1)) := Lib.hid (by rw [sgD_succ, HG.out])
      by_cases hjC : j < C
      · have hjm := HJM.out j hjC
        have cj := HCJ.out j _ hjC hbw
        have hcn := HNUM.out j
        by_cases hz : xs.getD j 0 = 0
        · have HS2 := Lib.hid (detS_zero HS.out hz)
          rw [hz] at cj
          clear hz hcn
          go_wp2_with fail
          go_roundg (gk - 1)
          case measure => omega
          case rel => exact ⟨j + 1, s, -g, by go_num, rfl, rfl, HG2, by omega, by omega, HS2, by omega, by omega, Kb hM, Kw⟩
        · have hzb : (xs.getD j 0 != 0) = true := by simpa using hz
          have HDJ : Hid (∀ (A5 : Option Addr) (n5 c5 : Nat) w' B', RI w' B' A5 n5 (wcK xs C j (C * C)) → B' ≤ w'.heap.size → Calls Try.prog 164 #[.agg #[.int .i64 n, .int .i64 n, .slice A5 n5 c5]] w' (BV (.int .i64 (detV (detL n (wcK xs C j (C * C))))) w')) := Lib.hid (fun A5 n5 c5 w' B' k1 k2 => HIH.out A5 n5 c5 _ w' k1 k2 (HWL.out j hjC) hnn (HWN.out j))
          have HWJ := Lib.hid (fun w' => HWC.out j w' hjC)
          rcases hd : detL n (wcK xs C j (C * C)) with _ | d
          · rw [hd] at HDJ
            have HX := Lib.hid (HXN.out (j + 1) (by omega) (detS_bad hz hd))
            clear hz hd
            generalize wcK xs C j (C * C) = ys at *
            generalize xs.getD j 0 = c at *
            go_wp2_with fail
            refine (HWJ.out _ (Kr H2.out) Ks).mono ?_
            rintro e w2 ⟨A5, n5, c5, rfl, ho5, hb5⟩
            have HO5 := Lib.hid ho5
            (have hsz_1 := hb5.size); (try simp at hsz_1); (have hM_1 : BM w2 w.heap.size C C (some ⟨b, o, none⟩) m cap := (Kb hM)); (have hbw_1 : Below w.heap.size w w2 := Kw); clear ma mb mc mf ml; clear hM hbw; (have hM := hM_1); (have hbw := hbw_1); clear hM_1 hbw_1; obtain ⟨ma, mb, mc, mf, ml⟩ := hM.mx
            clear ho5
            go_wp2_with fail
            refine (HDJ.out A5 n5 c5 _ _ (OR.reads (xs := ys) HO5.out) (Nat.le_refl _)).mono ?_
            rintro e w3 ⟨rfl, hb6⟩
            (have hsz_1 := hb6.size); (try simp at hsz_1); (have hM_1 : BM w3 w.heap.size C C (some ⟨b, o, none⟩) m cap := (Kb hM)); (have hbw_1 : Below w.heap.size w w3 := Kw); clear ma mb mc mf ml; clear hM hbw; (have hM := hM_1); (have hbw := hbw_1); clear hM_1 hbw_1; obtain ⟨ma, mb, mc, mf, ml⟩ := hM.mx
            have hvb : detV none = -4611686018427387904 := rfl
            go_wp2_with fail
            go_ret
            exact BV.mk (vint (by rw [HX.out]; rfl)) Kw
          · have hdn := detL_num _ _ _ hd
            have HS2 := detS_next HS.out hz hd
            rw [sgD_mul, ← HG.out] at HS2
            have hgc := sgD_cbd (j := j) hcn
            rw [← HG.out] at hgc
            have HS3 := Lib.hid HS2
            have hvd : detV (some d) = d := rfl
            rw [hd, hvd] at HDJ
            have hdb : (d == -4611686018427387904) = false := by
              rw [beq_eq_false_iff_ne]
              have := hdn.1
              omega
            have hc2w : ∀ w', Below w.heap.size w w' → w'.cell? ⟨b, o + j, none⟩ = some (.int .i64 (xs.getD j 0)) := fun w' hb => HCJ.out j w' hjC hb
            have HC2 := Lib.hid hc2w
            clear hz hd HS2 hvd hc2w
            generalize wcK xs C j (C * C) = ys at *
            generalize xs.getD j 0 = c at *
            obtain ⟨hd1, hd2⟩ := hdn
            obtain ⟨hgc1, hgc2⟩ := hgc
            have hcd := mul_bd4 (g * c) d 400000000 400000000 hgc1 hgc2 hd1 hd2
            obtain ⟨k1, k2⟩ := hcd
            have w0' : IntKind.i64.wrap (g * c) = g * c := IntWalk.i64_in _ (by omega)
            have w1' : IntKind.i64.wrap (g * c * d) = g * c * d := IntWalk.i64_in _ (by omega)
            have w2' : IntKind.i64.wrap (s + g * c * d) = s + g * c * d := IntWalk.i64_in _ (by omega)
            go_wp2_with fail
            refine (HWJ.out _ (Kr H2.out) Ks).mono ?_
            rintro e w2 ⟨A5, n5, c5, rfl, ho5, hb5⟩
            have HO5 := Lib.hid ho5
            (have hsz_1 := hb5.size); (try simp at hsz_1); (have hM_1 : BM w2 w.heap.size C C (some ⟨b, o, none⟩) m cap := (Kb hM)); (have hbw_1 : Below w.heap.size w w2 := Kw); clear ma mb mc mf ml; clear hM hbw; (have hM := hM_1); (have hbw := hbw_1); clear hM_1 hbw_1; obtain ⟨ma, mb, mc, mf, ml⟩ := hM.mx
            clear ho5
            go_wp2_with fail
            refine (HDJ.out A5 n5 c5 _ _ (OR.reads (xs := ys) HO5.out) (Nat.le_refl _)).mono ?_
            rintro e w3 ⟨rfl, hb6⟩
            (have hsz_1 := hb6.size); (try simp at hsz_1); (have hM_1 : BM w3 w.heap.size C C (some ⟨b, o, none⟩) m cap := (Kb hM)); (have hbw_1 : Below w.heap.size w w3 := Kw); clear ma mb mc mf ml; clear hM hbw; (have hM := hM_1); (have hbw := hbw_1); clear hM_1 hbw_1; obtain ⟨ma, mb, mc, mf, ml⟩ := hM.mx
            clear cj
            have cj := HC2.out _ hbw
            go_wp2_with fail
            go_roundg (gk - 1)
            case measure => omega
            case rel => exact ⟨j + 1, s + g * c * d, -g, by go_num, rfl, rfl, HG2, by omega, by omega, HS3, by omega, by omega, Kb hM, Kw⟩
      · obtain rfl : j = C := by omega
        have HX := Lib.hid (detV_of (HXS.out s HS.out))
        go_wp2_with fail
        refine (spec_l1Fit s _).mono ?_
        rintro e w' ⟨rfl, rfl⟩
        go_wp2_with fail
        go_ret
        exact BV.mk (vint HX.out.symm) Kw
def dtO (r c : Int) (xs : List Int) : Option Int := if isSq r c xs then detL r.toNat xs else none
/-- A number that may lack: 0 where it does, and the flag. -/
def ODV (o : Option Int) (w : World) (e : Ending) (w' : World) : Prop := e = .returned (.tuple #[.int .i64 (o.getD 0), .bool o.isSome]) ∧ Below w.heap.size w w'
theorem dtO_num {r c : Int} {xs : List Int} {d : Int} (h : dtO r c xs = some d) : Num d := by
  unfold dtO at h
  split at h
  · exact detL_num _ _ _ h
  · cases h
set_option maxHeartbeats 4000000 in
theorem impl_DeterminantOf (r c : Int) (A : Option Addr) (n cap : Nat) (xs : List Int) (w : World) {B : Nat} (h : RI w B A n xs) (hB : B ≤ w.heap.size) (hn : n ≤ 1048576) :
    Calls Try.prog 66 #[.agg #[.int .i64 r, .int .i64 c, .slice A n cap]] w (ODV (dtO r c xs) w) := by
  have H2 := Lib.hid (h.more hB)
  clear h
  rcases hq : isSq r c xs with _ | _
  · have hv : dtO r c xs = none := by unfold dtO; rw [hq]; rfl
    rw [hv]
    have HQ := Lib.hid hq
    clear hq hv
    go_enter Try.func66, Try.ntmps66
    go_wp2_with fail
    refine (impl_IsSquare r c A n cap xs _ (B := w.heap.size) (Kr H2.out) Ks hn).mono ?_
    rw [HQ.out]
    rintro e w1 ⟨rfl, hb1⟩
    have hbw : Below w.heap.size w w1 := Kw
    go_wp2_with fail
    go_ret2
    exact ⟨rfl, Kw⟩
  · have S := isSq_iff.1 hq
    have hv : dtO r c xs = detL r.toNat xs := by unfold dtO; rw [hq]; rfl
    rw [hv]
    obtain ⟨R, rfl⟩ := nat_of S.m.r0
    have hc := S.e
    subst hc
    have hR := S.le
    have HLX : Hid (xs.length = R * R) := Lib.hid (by have := S.m.len; rw [← Int.natCast_mul] at this; omega)
    have HNU := Lib.hid S.m.num
    have HQ := Lib.hid hq
    clear hq hv S
    simp only [Int.toNat_natCast]
    have HD : Hid (∀ w', RI w' w.heap.size A n xs → w.heap.size ≤ w'.heap.size → Calls Try.prog 160 #[.agg #[.int .i64 R, .int .i64 R, .slice A n cap]] w' (DetR (detL R xs) w')) := Lib.hid (fun w' k1 k2 => impl_determinant R A n cap xs w' k1 k2 HLX.out (by omega) HNU.out)
    have hdn := detL_num R xs
    generalize detL R xs = X at *
    rcases X with _ | d
    · skip
      go_enter Try.func66, Try.ntmps66
      go_wp2_with fail
      refine (impl_IsSquare R R A n cap xs _ (B := w.heap.size) (Kr H2.out) Ks hn).mono ?_
      rw [HQ.out]
      rintro e w1 ⟨rfl, hb1⟩
      have hsz1 := hb1.size
      (try simp at hsz1)
      have hM : BM w1 w.heap.size R R A n cap := Ka
      have hbw : Below w.heap.size w w1 := Kw
      have hri : RI w1 w.heap.size A n xs := Kr H2.out
      obtain ⟨ma, mb, mc, mf, ml⟩ := hM.mx
      go_wp2_with fail
      refine (HD.out _ (Kr hri) Ks).mono ?_
      rintro e w2 ⟨⟨v, rfl, -⟩, hb2⟩
      have hbw2 : Below w.heap.size w w2 := Kw
      go_wp2_with fail
      go_ret2
      exact ⟨rfl, Kw⟩
    · skip
      go_enter Try.func66, Try.ntmps66
      go_wp2_with fail
      refine (impl_IsSquare R R A n cap xs _ (B := w.heap.size) (Kr H2.out) Ks hn).mono ?_
      rw [HQ.out]
      rintro e w1 ⟨rfl, hb1⟩
      have hsz1 := hb1.size
      (try simp at hsz1)
      have hM : BM w1 w.heap.size R R A n cap := Ka
      have hbw : Below w.heap.size w w1 := Kw
      have hri : RI w1 w.heap.size A n xs := Kr H2.out
      obtain ⟨ma, mb, mc, mf, ml⟩ := hM.mx
      go_wp2_with fail
      refine (HD.out _ (Kr hri) Ks).mono ?_
      rintro e w2 ⟨⟨v, rfl, hv⟩, hb2⟩
      obtain rfl := hv d rfl
      have hbw2 : Below w.heap.size w w2 := Kw
      go_wp2_with fail
      go_ret2
      exact ⟨rfl, Kw⟩
set_option maxHeartbeats 4000000 in
theorem spec_DeterminantOf (r c : Int) (A : Option Addr) (n cap : Nat) (xs : List Int) (w : World) {B : Nat} (h : RI w B A n xs) (hB : B ≤ w.heap.size) (hn : n ≤ 1048576) :
    Calls Try.prog 67 #[.agg #[.int .i64 r, .int .i64 c, .slice A n cap]] w (ODV (dtO r c xs) w) := by
  have H2 := Lib.hid (h.more hB)
  clear h
  rcases hq : isSq r c xs with _ | _
  · have hv : dtO r c xs = none := by unfold dtO; rw [hq]; rfl
    rw [hv]
    have HQ := Lib.hid hq
    clear hq hv
    go_enter Try.func67, Try.ntmps67
    go_wp2_with fail
    refine (spec_IsSquare r c A n cap xs _ (B := w.heap.size) (Kr H2.out) Ks hn).mono ?_
    rw [HQ.out]
    rintro e w1 ⟨rfl, hb1⟩
    have hbw : Below w.heap.size w w1 := Kw
    go_wp2_with fail
    go_ret2
    exact ⟨rfl, Kw⟩
  · have S := isSq_iff.1 hq
    have hv : dtO r c xs = detL r.toNat xs := by unfold dtO; rw [hq]; rfl
    rw [hv]
    obtain ⟨R, rfl⟩ := nat_of S.m.r0
    have hc := S.e
    subst hc
    have hR := S.le
    have HLX : Hid (xs.length = R * R) := Lib.hid (by have := S.m.len; rw [← Int.natCast_mul] at this; omega)
    have HNU := Lib.hid S.m.num
    have HQ := Lib.hid hq
    clear hq hv S
    simp only [Int.toNat_natCast]
    have HD : Hid (∀ w', RI w' w.heap.size A n xs → w.heap.size ≤ w'.heap.size → Calls Try.prog 164 #[.agg #[.int .i64 R, .int .i64 R, .slice A n cap]] w' (BV (.int .i64 (detV (detL R xs))) w')) := Lib.hid (fun w' k1 k2 => spec_l6Det R A n cap xs w' k1 k2 HLX.out (by omega) HNU.out)
    have hdn := detL_num R xs
    generalize detL R xs = X at *
    rcases X with _ | d
    · have hvb : detV none = -4611686018427387904 := rfl
      rw [hvb] at HD
      clear hvb
      go_enter Try.func67, Try.ntmps67
      go_wp2_with fail
      refine (spec_IsSquare R R A n cap xs _ (B := w.heap.size) (Kr H2.out) Ks hn).mono ?_
      rw [HQ.out]
      rintro e w1 ⟨rfl, hb1⟩
      have hsz1 := hb1.size
      (try simp at hsz1)
      have hM : BM w1 w.heap.size R R A n cap := Ka
      have hbw : Below w.heap.size w w1 := Kw
      have hri : RI w1 w.heap.size A n xs := Kr H2.out
      obtain ⟨ma, mb, mc, mf, ml⟩ := hM.mx
      go_wp2_with fail
      refine (HD.out _ (Kr hri) Ks).mono ?_
      rintro e w2 ⟨rfl, hb2⟩
      have hbw2 : Below w.heap.size w w2 := Kw
      go_wp2_with fail
      go_ret2
      exact ⟨rfl, Kw⟩
    · have hvd : detV (some d) = d := rfl
      rw [hvd] at HD
      have hdb : (d == -4611686018427387904) = false := by
        rw [beq_eq_false_iff_ne]
        have := (hdn d rfl).1
        omega
      clear hvd
      go_enter Try.func67, Try.ntmps67
      go_wp2_with fail
      refine (spec_IsSquare R R A n cap xs _ (B := w.heap.size) (Kr H2.out) Ks hn).mono ?_
      rw [HQ.out]
      rintro e w1 ⟨rfl, hb1⟩
      have hsz1 := hb1.size
      (try simp at hsz1)
      have hM : BM w1 w.heap.size R R A n cap := Ka
      have hbw : Below w.heap.size w w1 := Kw
      have hri : RI w1 w.heap.size A n xs := Kr H2.out
      obtain ⟨ma, mb, mc, mf, ml⟩ := hM.mx
      go_wp2_with fail
      refine (HD.out _ (Kr hri) Ks).mono ?_
      rintro e w2 ⟨rfl, hb2⟩
      have hbw2 : Below w.heap.size w w2 := Kw
      go_wp2_with fail
      go_ret2
      exact ⟨rfl, Kw⟩
end Go.Proofs.Ytacjonkehcamgaa

/-
  DERIVED. Square matrices that are drawn, numbers that may be primes; what is drawn for solutions modulo a prime.
-/
namespace Go.Proofs.Ytacjonkehcamgaa
open Go.RowKit
set_option linter.unusedVariables false
set_option linter.unusedSimpArgs false
set_option maxRecDepth 100000 in
set_option maxHeartbeats 8000000 in
theorem spec_l3Square (b n cap : Nat) (A : Option Addr) (xs : List Int) (w : World) {B : Nat} (hct : CT w w B b n cap A xs) :
    Calls Try.prog 121 #[.pointer (some ⟨b, 0, none⟩)] w (DRV (MAny w.heap.size 17) B b n cap A xs w) := by
  have hb := hct.hb
  have hsz := hct.size
  go_enter Try.func121, Try.ntmps121
  go_wp2_with fail
  refine (spec_l1Below b n cap A xs 5 _ (CT.self (w0 := w) (B := B) (by (with_reducible (repeat (first | exact hct | refine CT.drew ?_ | refine CT.drewN ?_ _ | refine CT.alloc ?_ _ | refine CT.far ?_ Ks _ | refine CT.below ?_ (by assumption) Ks)))))).mono ?_
  rintro e w2 ⟨v, rfl, ⟨r, rfl, hr0, hr1⟩, hc1⟩
  have hct_1 : CT w w2 B b n cap A xs := CT.trans (by (with_reducible (repeat (first | exact hct | refine CT.drew ?_ | refine CT.drewN ?_ _ | refine CT.alloc ?_ _ | refine CT.far ?_ Ks _ | refine CT.below ?_ (by assumption) Ks)))) hc1
  have hR1 : BM w2 w.heap.size 0 0 none 0 0 := BX.grown Ka hc1.gr (by simp; omega)
  clear hct hc1
  have hct := hct_1
  clear hct_1
  have hR2 := hR1
  have hs2 := hct.size
  go_wp2_with fail
  refine (spec_l1PickInt b n cap A xs (some ⟨w2.heap.size, 0, none⟩) _ _ [1, 3, 9] _ (B2 := w2.heap.size + 1) (CT.self (w0 := w) (B := B) (by (with_reducible (repeat (first | exact hct | refine CT.drew ?_ | refine CT.drewN ?_ _ | refine CT.alloc ?_ _ | refine CT.far ?_ Ks _ | refine CT.below ?_ (by assumption) Ks))))) ?h2 ?h3 ?h4 ?h5 ?h6).mono ?h7
  case h2 => exact RI.lit (Blk.new _ _ _)
  case h3 => exact Ks
  case h4 => exact not_at Ks
  case h5 => decide
  case h6 => decide
  rintro e w3 ⟨v, rfl, ⟨most, rfl, hy⟩, hc1⟩
  have hmost : 0 ≤ most ∧ most ≤ 100 := by
    simp only [List.mem_cons, List.not_mem_nil, or_false] at hy
    omega
  have hct_1 : CT w w3 B b n cap A xs := CT.trans (by (with_reducible (repeat (first | exact hct | refine CT.drew ?_ | refine CT.drewN ?_ _ | refine CT.alloc ?_ _ | refine CT.far ?_ Ks _ | refine CT.below ?_ (by assumption) Ks)))) hc1
  have hR3 : BM w3 w.heap.size 0 0 none 0 0 := BX.grown (Kb hR2) hc1.gr (by simp; omega)
  clear hct hc1 hR2 hy
  have hct := hct_1
  clear hct_1
  have hs3 := hct.size
  have hrr : r < 5 := by omega
  obtain ⟨R, rfl⟩ := nat_of hr0
  have hR5 : R ≤ 4 := by omega
  have hRC : R * R ≤ 4 * 4 := Nat.mul_le_mul hR5 hR5
  clear hr0 hr1 hrr hR1
  go_wp2_with fail
  refine (spec_l3Draw b n cap A xs R R most _ (CT.self (w0 := w) (B := B) (by (with_reducible (repeat (first | exact hct | refine CT.drew ?_ | refine CT.drewN ?_ _ | refine CT.alloc ?_ _ | refine CT.far ?_ Ks _ | refine CT.below ?_ (by assumption) Ks))))) (by omega) (by omega) hmost).mono ?_
  rintro e w4 ⟨v, rfl, ⟨Am, nm, cm, ys, rfl, ho_, hl, -⟩, hc1⟩
  have hsz4 := hc1.size
  have hRl := hR3.lt
  have HR3 := Lib.hid hR3
  have HCW := Lib.hid hct
  have hb3 : b < w3.heap.size := hc1.hb
  have hM : BM (w4.alloc (.cells #[.int .i64 R, .int .i64 R, .slice Am nm cm] 26)) w4.heap.size R R Am nm cm := Ka
  have ho : OR (w4.alloc (.cells #[.int .i64 R, .int .i64 R, .slice Am nm cm] 26)) w3.heap.size (.slice Am nm cm) ys := ho_.alloc _
  have hct2 : CT w3 (w4.alloc (.cells #[.int .i64 R, .int .i64 R, .slice Am nm cm] 26)) B b n cap A xs := hc1.alloc _
  have HOW := Lib.hid ho_.own
  have hl1 := ho_.lenEq
  have hl2 : nm ≤ R * R ∧ R * R ≤ nm := by omega
  have HL := Lib.hid hl
  have hs5 : w3.heap.size ≤ (w4.alloc (.cells #[.int .i64 R, .int .i64 R, .slice Am nm cm] 26)).heap.size := by simp; omega
  clear hct hc1 hR3 ho_ hl hl1
  have hct := hct2
  clear hct2
  obtain ⟨oa, ob, oc, of, ol⟩ := hM.mx
  by_cases hR1 : 1 < R
  · skip
    go_wp2_with fail
    generalize (w4.alloc (.cells #[.int .i64 R, .int .i64 R, .slice Am nm cm] 26)) = w5 at *
    generalize hbm : w4.heap.size = bM at *
    have hbM : w3.heap.size ≤ bM := by omega
    have hlM := hM.lt
    clear hbm
    refine (spec_l1Once b n cap A xs 6 _ (CT.self (w0 := w3) (B := B) (by (with_reducible (repeat (first | exact hct | refine CT.drew ?_ | refine CT.drewN ?_ _ | refine CT.alloc ?_ _ | refine CT.far ?_ Ks _ | refine CT.below ?_ (by assumption) Ks)))))).mono ?_
    rintro e w6 ⟨v, rfl, ⟨q, rfl⟩, hc1⟩
    have hs6 := hc1.size
    have hct_1 : CT w3 w6 B b n cap A xs := CT.trans (by (with_reducible (repeat (first | exact hct | refine CT.drew ?_ | refine CT.drewN ?_ _ | refine CT.alloc ?_ _ | refine CT.far ?_ Ks _ | refine CT.below ?_ (by assumption) Ks)))) hc1
    have hM_1 : BM w6 bM R R Am nm cm := BX.grown (Kb hM) hc1.gr (by simp; omega)
    have ho_1 : OR w6 w3.heap.size (.slice Am nm cm) ys := OR.turned (Ko ho) hc1 (by omega)
    clear hct hM ho hc1 oa ob oc of ol
    have hct := hct_1
    have hM := hM_1
    have ho := ho_1
    clear hct_1 hM_1 ho_1
    obtain ⟨oa, ob, oc, of, ol⟩ := hM.mx
    rcases q with _ | _
    · go_wp2_with fail
      refine (spec_l3Spoil b n cap A xs R R Am nm cm ys w3 _ (B := B) (B1 := w3.heap.size) (by (with_reducible (repeat (first | exact hct | refine CT.drew ?_ | refine CT.drewN ?_ _ | refine CT.alloc ?_ _ | refine CT.far ?_ Ks _ | refine CT.below ?_ (by assumption) Ks)))) (Ko ho) (Nat.le_refl _) (by omega) (by omega) (by omega) (by have := HL.out; omega)).mono ?_
      rintro e w9 ⟨v, rfl, ⟨r9, c9, A9, n9, cap9, y9, rfl, ho9, hl9, hr9, hc9⟩, hct9⟩
      have hR9 : BM w9 w.heap.size 0 0 none 0 0 := BX.grown HR3.out hct9.gr (by simp; omega)
      have hctw : CT w w9 B b n cap A xs := CT.trans HCW.out hct9
      have hvr := B3.of hR9
      obtain ⟨ra, rb, rc, rf, rl⟩ := hR9.mx
      have hl17 : y9.length ≤ 17 := by have := HL.out; omega
      have hct := hctw
      clear hl9 hct9
      go_wp2_with fail
      refine ret_M (b := w.heap.size) Try.results121 rfl (Kb hvr) rfl ?_
      exact ⟨_, rfl, ⟨r9, c9, A9, n9, cap9, y9, rfl, OR.mono (B := w3.heap.size) (Ko ho9) (by omega), hl17, hr9, hc9⟩, by (with_reducible (repeat (first | exact hct | refine CT.drew ?_ | refine CT.drewN ?_ _ | refine CT.alloc ?_ _ | refine CT.far ?_ Ks _ | refine CT.below ?_ (by assumption) Ks)))⟩
    · go_wp2_with fail
      go_loopw [5] (fun v wr => ∃ (i : Nat) (ys : List Int), v = .int .i64 i ∧ i ≤ R ∧ CT w3 wr B b n cap A xs ∧ BM wr bM R R Am nm cm ∧ OR wr w3.heap.size (.slice Am nm cm) ys ∧ Hid (ys.length = R * R)) (fun v _ => R - (intOf v).toNat)
      case atStart => exact ⟨0, ys, rfl, Nat.zero_le _, by (with_reducible (repeat (first | exact hct | refine CT.drew ?_ | refine CT.drewN ?_ _ | refine CT.alloc ?_ _ | refine CT.far ?_ Ks _ | refine CT.below ?_ (by assumption) Ks))), Kb hM, Ko ho, HL⟩
      case round =>
        clear hct hM ho oa ob oc of ol HL
        obtain ⟨i, zs, rfl, hi, hct, hM, ho, HL⟩ := hrel
        obtain ⟨oa, ob, oc, of, ol⟩ := hM.mx
        have hs7 := hct.size
        by_cases hlt : i < R
        · have hRR2 : R + R ≤ R * R := by have := Nat.mul_le_mul_right R (show 2 ≤ R by omega); omega
          obtain ⟨g1, rfl, hg1, hg2⟩ := ho.begins (by have := HL.out; omega)
          have hgo := (HOW.out g1 rfl).2
          have c0 := ho.cell (R + i) (by have := HL.out; omega)
          have c1 := ho.cell i (by have := HL.out; omega)
          have f1 := ho.frozen i
          have hw2 : IntKind.i64.wrap ((R : Int) + (i : Int)) = (R : Int) + (i : Int) := IntWalk.i64_in _ (by omega)
          have i1 : (R : Int) + (i : Int) < (nm : Int) := by omega
          have i2 : ((R : Int) + (i : Int)).toNat = R + i := by omega
          have i3 : (0 : Int) ≤ (R : Int) + (i : Int) := by omega
          have hin : i < nm := by omega
          have ne1 : ¬ bM = g1 := by omega
          have ne2 : ¬ g1 = bM := by omega
          have hK0 : ¬ R = 0 := by omega
          have ne3 : ¬ i = R + i := by omega
          have ne4 : ¬ R + i = i := by omega
          generalize zs.getD (R + i) 0 = z0 at c0
          generalize zs.getD i 0 = z1 at c1
          go_wp2_with fail
          ((refine wp_region_held_drew (S := (fun w' => w'.cell? ⟨bM, 2, none⟩ = some (.slice (some ⟨g1, 0, none⟩) nm cm) ∧ w'.cell? ⟨g1, R + i, none⟩ = some (.int .i64 z0))) (by kernel_rfl) ?_ (fun hHeld => ?_)); ((focus ((try dsimp only); ((first | (go_keep; done) | exact ⟨(World.cell?_setCell_other _ _ _ _ (fun e => ne2 (congrArg Addr.block e))).trans oc, (World.cell?_setCell_other _ _ _ _ (fun e => ne3 (congrArg Addr.off e))).trans c0⟩))))); ((refine tk_ (i := 0) (v := ?_) (y := Or.inl ⟨by rfl, ?_⟩) (h := ?_); rotate_left; (focus (((intro w hSw; (try dsimp only at hSw); go_simp) <;> (try with_reducible rfl)); done)); (try simp only [Act.put, p1_, p2_, p3_]))); ((refine tk_ (i := 1) (v := ?_) (y := Or.inl ⟨by rfl, ?_⟩) (h := ?_); rotate_left; (focus (((intro w hSw; (try dsimp only at hSw); go_simp) <;> (try with_reducible rfl)); done)); (try simp only [Act.put, p1_, p2_, p3_]))); ((refine tk_ (i := 2) (v := ?_) (y := Or.inl ⟨by rfl, ?_⟩) (h := ?_); rotate_left; (focus (((intro w hSw; (try dsimp only at hSw); go_simp) <;> (try with_reducible rfl)); done)); (try simp only [Act.put, p1_, p2_, p3_]))); ((refine tk_ (i := 3) (v := ?_) (y := Or.inl ⟨by rfl, ?_⟩) (h := ?_); rotate_left; (focus (((intro w hSw; (try dsimp only at hSw); go_simp) <;> (try with_reducible rfl)); done)); (try simp only [Act.put, p1_, p2_, p3_]))); ((refine tk_ (i := 4) (v := ?_) (y := Or.inl ⟨by rfl, ?_⟩) (h := ?_); rotate_left; (focus (((intro w hSw; (try dsimp only at hSw); go_simp) <;> (try with_reducible rfl)); done)); (try simp only [Act.put, p1_, p2_, p3_]))); ((refine tk_ (i := 5) (v := ?_) (y := Or.inl ⟨by rfl, ?_⟩) (h := ?_); rotate_left; (focus (((intro w hSw; (try dsimp only at hSw); go_simp) <;> (try with_reducible rfl)); done)); (try simp only [Act.put, p1_, p2_, p3_]))); ((refine tk_ (i := 6) (v := ?_) (y := Or.inl ⟨by rfl, ?_⟩) (h := ?_); rotate_left; (focus (((intro w hSw; (try dsimp only at hSw); go_simp) <;> (try with_reducible rfl)); done)); (try simp only [Act.put, p1_, p2_, p3_]))); ((refine tk_ (i := 7) (v := ?_) (y := Or.inl ⟨by rfl, ?_⟩) (h := ?_); rotate_left; (focus (((intro w hSw; (try dsimp only at hSw); go_simp) <;> (try with_reducible rfl)); done)); (try simp only [Act.put, p1_, p2_, p3_]))); ((refine tk_ (i := 8) (v := ?_) (y := Or.inl ⟨by rfl, ?_⟩) (h := ?_); rotate_left; (focus (((intro w hSw; (try dsimp only at hSw); go_simp) <;> (try with_reducible rfl)); done)); (try simp only [Act.put, p1_, p2_, p3_]))); ((refine tk_ (i := 9) (v := ?_) (y := Or.inl ⟨by rfl, ?_⟩) (h := ?_); rotate_left; (focus (((intro w hSw; (try dsimp only at hSw); go_simp) <;> (try with_reducible rfl)); done)); (try simp only [Act.put, p1_, p2_, p3_]))); ((refine tk_ (i := 10) (v := ?_) (y := Or.inl ⟨by rfl, ?_⟩) (h := ?_); rotate_left; (focus (((intro w hSw; (try dsimp only at hSw); go_simp) <;> (try with_reducible rfl)); done)); (try simp only [Act.put, p1_, p2_, p3_]))); ((refine wpAnyH_ready (rs := [11]) (by kernel_rfl) (by simp) ?_; refine AllReadyH.cons (by simp only [e1_, e2_, e3_]; try rfl) (fun K hK => ?_) AllReadyH.nil; go_simp; (try go_wp2_with fail); refine hK.out _ _ ?_ (fun hHeld => ?_); (focus ((try dsimp only); ((first | (go_keep; done) | exact ⟨(World.cell?_setCell_other _ _ _ _ (fun e => ne2 (congrArg Addr.block e))).trans oc, (World.cell?_setCell_other _ _ _ _ (fun e => ne3 (congrArg Addr.off e))).trans c0⟩)))); clear hK K; (try simp only [Act.put, p1_, p2_, p3_]))); (refine wpAnyH_done (by kernel_rfl) ?_ _))
          have HL2 : ∀ v, Hid ((zs.set i v).length = R * R) := fun v => Lib.hid (by rw [List.length_set]; exact HL.out)
          clear hw2
          go_wp2_with fail
          go_roundw
          case rel => exact ⟨i + 1, _, by go_num, by omega, by (with_reducible (repeat (first | exact hct | refine CT.drew ?_ | refine CT.drewN ?_ _ | refine CT.alloc ?_ _ | refine CT.far ?_ Ks _ | refine CT.below ?_ (by assumption) Ks))), Kb hM, by first | exact ho.set_ i _ | exact OR.drew (ho.set_ i _), HL2 _⟩
          case measure => simp only [intOf]; omega
        · go_wp2_with fail
          refine (spec_l3Spoil b n cap A xs R R Am nm cm zs w3 _ (B := B) (B1 := w3.heap.size) (by (with_reducible (repeat (first | exact hct | refine CT.drew ?_ | refine CT.drewN ?_ _ | refine CT.alloc ?_ _ | refine CT.far ?_ Ks _ | refine CT.below ?_ (by assumption) Ks)))) (Ko ho) (Nat.le_refl _) (by omega) (by omega) (by omega) (by have := HL.out; omega)).mono ?_
          rintro e w9 ⟨v, rfl, ⟨r9, c9, A9, n9, cap9, y9, rfl, ho9, hl9, hr9, hc9⟩, hct9⟩
          have hR9 : BM w9 w.heap.size 0 0 none 0 0 := BX.grown HR3.out hct9.gr (by simp; omega)
          have hctw : CT w w9 B b n cap A xs := CT.trans HCW.out hct9
          have hvr := B3.of hR9
          obtain ⟨ra, rb, rc, rf, rl⟩ := hR9.mx
          have hl17 : y9.length ≤ 17 := by have := HL.out; omega
          have hct := hctw
          clear hl9 hct9
          go_wp2_with fail
          refine ret_M (b := w.heap.size) Try.results121 rfl (Kb hvr) rfl ?_
          exact ⟨_, rfl, ⟨r9, c9, A9, n9, cap9, y9, rfl, OR.mono (B := w3.heap.size) (Ko ho9) (by omega), hl17, hr9, hc9⟩, by (with_reducible (repeat (first | exact hct | refine CT.drew ?_ | refine CT.drewN ?_ _ | refine CT.alloc ?_ _ | refine CT.far ?_ Ks _ | refine CT.below ?_ (by assumption) Ks)))⟩
  · skip
    go_wp2_with fail
    generalize (w4.alloc (.cells #[.int .i64 R, .int .i64 R, .slice Am nm cm] 26)) = w5 at *
    generalize hbm : w4.heap.size = bM at *
    have hbM : w3.heap.size ≤ bM := by omega
    have hlM := hM.lt
    clear hbm
    refine (spec_l3Spoil b n cap A xs R R Am nm cm ys w3 _ (B := B) (B1 := w3.heap.size) (by (with_reducible (repeat (first | exact hct | refine CT.drew ?_ | refine CT.drewN ?_ _ | refine CT.alloc ?_ _ | refine CT.far ?_ Ks _ | refine CT.below ?_ (by assumption) Ks)))) (Ko ho) (Nat.le_refl _) (by omega) (by omega) (by omega) (by have := HL.out; omega)).mono ?_
    rintro e w9 ⟨v, rfl, ⟨r9, c9, A9, n9, cap9, y9, rfl, ho9, hl9, hr9, hc9⟩, hct9⟩
    have hR9 : BM w9 w.heap.size 0 0 none 0 0 := BX.grown HR3.out hct9.gr (by simp; omega)
    have hctw : CT w w9 B b n cap A xs := CT.trans HCW.out hct9
    have hvr := B3.of hR9
    obtain ⟨ra, rb, rc, rf, rl⟩ := hR9.mx
    have hl17 : y9.length ≤ 17 := by have := HL.out; omega
    have hct := hctw
    clear hl9 hct9
    go_wp2_with fail
    refine ret_M (b := w.heap.size) Try.results121 rfl (Kb hvr) rfl ?_
    exact ⟨_, rfl, ⟨r9, c9, A9, n9, cap9, y9, rfl, OR.mono (B := w3.heap.size) (Ko ho9) (by omega), hl17, hr9, hc9⟩, by (with_reducible (repeat (first | exact hct | refine CT.drew ?_ | refine CT.drewN ?_ _ | refine CT.alloc ?_ _ | refine CT.far ?_ Ks _ | refine CT.below ?_ (by assumption) Ks)))⟩
set_option maxRecDepth 100000 in
set_option maxHeartbeats 4000000 in
theorem spec_l8Prime (b n cap : Nat) (A : Option Addr) (xs : List Int) (w : World) {B : Nat} (hct : CT w w B b n cap A xs) :
    Calls Try.prog 123 #[.pointer (some ⟨b, 0, none⟩)] w (DRV (fun _ v => ∃ p : Int, v = .int .i64 p ∧ -1 ≤ p ∧ p ≤ 20000) B b n cap A xs w) := by
  have hb := hct.hb
  go_enter Try.func123, Try.ntmps123
  go_wp2_with fail
  refine (spec_l1Once b n cap A xs 12 _ (CT.self (w0 := w) (B := B) (by (with_reducible (repeat (first | exact hct | refine CT.drew ?_ | refine CT.drewN ?_ _ | refine CT.alloc ?_ _ | refine CT.far ?_ Ks _ | refine CT.below ?_ (by assumption) Ks)))))).mono ?_
  rintro e w1 ⟨v, rfl, ⟨q, rfl⟩, hc1⟩
  have hct_1 : CT w w1 B b n cap A xs := CT.trans (by (with_reducible (repeat (first | exact hct | refine CT.drew ?_ | refine CT.drewN ?_ _ | refine CT.alloc ?_ _ | refine CT.far ?_ Ks _ | refine CT.below ?_ (by assumption) Ks)))) hc1
  clear hct hc1
  have hct := hct_1
  clear hct_1
  have hs1 := hct.size
  rcases q with _ | _
  · go_wp2_with fail
    refine (spec_l1PickInt b n cap A xs (some ⟨w1.heap.size, 0, none⟩) _ _ [2, 3, 5, 7, 11, 13, 101] _ (B2 := w1.heap.size + 1) (CT.self (w0 := w) (B := B) (by (with_reducible (repeat (first | exact hct | refine CT.drew ?_ | refine CT.drewN ?_ _ | refine CT.alloc ?_ _ | refine CT.far ?_ Ks _ | refine CT.below ?_ (by assumption) Ks))))) ?ha2 ?ha3 ?ha4 ?ha5 ?ha6).mono ?ha7
    case ha2 => exact RI.lit (Blk.new _ _ _)
    case ha3 => exact Ks
    case ha4 => exact not_at Ks
    case ha5 => decide
    case ha6 => decide
    rintro e w2 ⟨v, rfl, ⟨p, rfl, hy⟩, hc1⟩
    have hct_1 : CT w w2 B b n cap A xs := CT.trans (by (with_reducible (repeat (first | exact hct | refine CT.drew ?_ | refine CT.drewN ?_ _ | refine CT.alloc ?_ _ | refine CT.far ?_ Ks _ | refine CT.below ?_ (by assumption) Ks)))) hc1
    go_wp2_with fail
    go_ret
    exact ⟨_, rfl, ⟨p, rfl, by simp only [List.mem_cons, List.not_mem_nil, or_false] at hy; omega⟩, hct_1⟩
  · go_wp2_with fail
    refine (spec_l1PickInt b n cap A xs (some ⟨w1.heap.size, 0, none⟩) _ _ [-1, 0, 1, 4, 9973, 10007, 9999] _ (B2 := w1.heap.size + 1) (CT.self (w0 := w) (B := B) (by (with_reducible (repeat (first | exact hct | refine CT.drew ?_ | refine CT.drewN ?_ _ | refine CT.alloc ?_ _ | refine CT.far ?_ Ks _ | refine CT.below ?_ (by assumption) Ks))))) ?hb2 ?hb3 ?hb4 ?hb5 ?hb6).mono ?hb7
    case hb2 => exact RI.lit (Blk.new _ _ _)
    case hb3 => exact Ks
    case hb4 => exact not_at Ks
    case hb5 => decide
    case hb6 => decide
    rintro e w2 ⟨v, rfl, ⟨p, rfl, hy⟩, hc1⟩
    have hct_1 : CT w w2 B b n cap A xs := CT.trans (by (with_reducible (repeat (first | exact hct | refine CT.drew ?_ | refine CT.drewN ?_ _ | refine CT.alloc ?_ _ | refine CT.far ?_ Ks _ | refine CT.below ?_ (by assumption) Ks)))) hc1
    go_wp2_with fail
    go_ret
    exact ⟨_, rfl, ⟨p, rfl, by simp only [List.mem_cons, List.not_mem_nil, or_false] at hy; omega⟩, hct_1⟩
end Go.Proofs.Ytacjonkehcamgaa

/-
  DERIVED. Inverses modulo a prime are inverses from both sides, and there is none exactly if the determinant's residue is 0: no program in sight.
-/
namespace Go.Proofs.Ytacjonkehcamgaa
set_option linter.unusedVariables false
theorem prFrom_no {p : Int} : ∀ (k : Nat) (d : Int), 2 ≤ d → prFrom p d k = true → ∀ q, d ≤ q → q < d + k → q * q ≤ p → ¬ q ∣ p
  | 0, d, _, _, q, h1, h2, _ => by omega
  | k + 1, d, hd, h, q, h1, h2, hq => by
    unfold prFrom at h
    have hdd : d * d ≤ p := Int.le_trans (Int.mul_le_mul h1 h1 (by omega) (by omega)) hq
    rw [if_pos hdd] at h
    split at h
    · cases h
    · rename_i hm
      by_cases e : q = d
      · subst e
        exact fun hdv => hm (Int.emod_eq_zero_of_dvd hdv)
      · exact prFrom_no k (d + 1) (by omega) h q (by omega) (by omega) hq
theorem pr_div {p q : Int} (h : isPr p = true) (hq : 2 ≤ q) (hqp : q < p) : ¬ q ∣ p := by
  simp only [isPr, Bool.and_eq_true, decide_eq_true_eq] at h
  obtain ⟨⟨h1, h2⟩, h3⟩ := h
  rintro ⟨r, hr⟩
  have hr1 : 2 ≤ r := by
    refine Int.not_lt.1 fun hlt => ?_
    rcases Int.lt_or_le r 1 with h5 | h5
    · have := Int.mul_nonneg (show 0 ≤ q by omega) (show 0 ≤ -r by omega)
      rw [Int.mul_neg] at this
      omega
    · obtain rfl : r = 1 := by omega
      omega
  rcases Int.lt_or_le r q with hlt | hge
  · have hrr : r * r ≤ p := by
      rw [hr]
      exact Int.mul_le_mul (Int.le_of_lt hlt) (Int.le_refl r) (by omega) (by omega)
    have hb := le_of_sq r 100 p (by omega) hrr (by omega)
    exact prFrom_no 200 2 (by omega) h3 r (by omega) (by omega) hrr ⟨q, by rw [hr, Int.mul_comm]⟩
  · have hqq : q * q ≤ p := by
      rw [hr]
      exact Int.mul_le_mul (Int.le_refl q) hge (by omega) (by omega)
    have hb := le_of_sq q 100 p (by omega) hqq (by omega)
    exact prFrom_no 200 2 (by omega) h3 q (by omega) (by omega) hqq ⟨r, hr⟩
theorem pr_gcd {p a : Int} (h : isPr p = true) (h0 : 0 < a) (h1 : a < p) : Int.gcd a p = 1 := by
  have hp := isPr_bds h
  have d1 : ((Int.gcd a p : Nat) : Int) ∣ a := Int.gcd_dvd_left ..
  have d2 : ((Int.gcd a p : Nat) : Int) ∣ p := Int.gcd_dvd_right ..
  have hle := Int.le_of_dvd h0 d1
  have hpos : 0 < Int.gcd a p := Int.gcd_pos_of_ne_zero_left _ (by omega)
  by_cases e : Int.gcd a p = 1
  · exact e
  · exact absurd d2 (pr_div h (by omega) (by omega))
/-- A prime divides a factor of what it divides. -/
theorem pr_mul {p a b : Int} (h : isPr p = true) (hd : p ∣ a * b) : p ∣ a ∨ p ∣ b := by
  have hp := isPr_bds h
  by_cases h0 : a % p = 0
  · exact .inl (Int.dvd_of_emod_eq_zero h0)
  · right
    obtain ⟨b1, b2⟩ := emod_bds a p (by omega)
    have hg := pr_gcd h (show 0 < a % p by omega) b2
    have e1 := Int.emod_add_mul_ediv a p
    have hd2 : p ∣ a % p * b := by
      have e2 : (a % p + p * (a / p)) * b = a * b := by rw [e1]
      have : a % p * b = a * b - p * (a / p * b) := by rw [← e2]; grind
      rw [this]
      exact Int.dvd_sub hd ⟨_, rfl⟩
    exact dvd_of_gcd_one hd2 (by rw [Int.gcd_comm]; exact hg)
theorem dvd_emod (a p : Int) : p ∣ a % p - a := ⟨-(a / p), by have := Int.emod_add_mul_ediv a p; rw [Int.mul_neg]; omega⟩
theorem dvd_sumTo {p : Int} {f : Nat → Int} : ∀ n, (∀ k, k < n → p ∣ f k) → p ∣ sumTo f n
  | 0, _ => Int.dvd_zero _
  | n + 1, h => by rw [sumTo_succ]; exact Int.dvd_add (dvd_sumTo n fun k hk => h k (by omega)) (h n (by omega))
theorem dvd_sumTo_sub {p : Int} {f g : Nat → Int} (n : Nat) (h : ∀ k, k < n → p ∣ f k - g k) : p ∣ sumTo f n - sumTo g n := by
  rw [← sumTo_sub]
  exact dvd_sumTo n h
/-- The right half keeps account of what is done to the left one; and it takes no column but that of zeros to zeros. -/
structure EI (n : Nat) (p : Int) (m f : Fn2) : Prop where
  lin : ∀ i c, i < n → c < n → p ∣ f i c - sumTo (fun k => f i (n + k) * m k c) n
  inj : ∀ z : Nat → Int, (∀ i, i < n → p ∣ sumTo (fun k => f i (n + k) * z k) n) → ∀ k, k < n → p ∣ z k
theorem EI.swap {n : Nat} {p : Int} {m f : Fn2} {k t : Nat} (h : EI n p m f) (hk : k < n) (ht : t < n) : EI n p m (swF f k t) := by
  have key : ∀ i, i < n → (if i = k then t else if i = t then k else i) < n := fun i hi => by
    split
    · exact ht
    · split
      · exact hk
      · exact hi
  refine ⟨fun i c hi hc => h.lin _ c (key i hi) hc, fun z hz => h.inj z fun i hi => ?_⟩
  have := hz (if i = k then t else if i = t then k else i) (key i hi)
  have e : (if (if i = k then t else if i = t then k else i) = k then t else if (if i = k then t else if i = t then k else i) = t then k else (if i = k then t else if i = t then k else i)) = i := by
    split <;> split <;> (try split) <;> omega
  have e2 : ∀ c, swF f k t (if i = k then t else if i = t then k else i) c = f i c := fun c => by
    unfold swF
    rw [e]
  rw [sumTo_congr n fun l _ => by rw [e2 (n + l)]] at this
  exact this
/-- A row that is a sum of two. -/
theorem EI.row {n : Nat} {p a b : Int} {m f : Fn2} {g : Nat → Int} {i t c : Nat} (h : EI n p m f) (hi : i < n) (ht : t < n) (hc : c < n) (hg : ∀ q, p ∣ g q - (a * f i q + b * f t q)) : p ∣ g c - sumTo (fun k => g (n + k) * m k c) n := by
  have h1 := h.lin i c hi hc
  have h2 := h.lin t c ht hc
  have h3 : p ∣ sumTo (fun k => g (n + k) * m k c) n - sumTo (fun k => (a * f i (n + k) + b * f t (n + k)) * m k c) n := dvd_sumTo_sub n fun k _ => by
    rw [← Int.sub_mul]
    exact Int.dvd_trans (hg (n + k)) ⟨_, rfl⟩
  have h4 : sumTo (fun k => (a * f i (n + k) + b * f t (n + k)) * m k c) n = a * sumTo (fun k => f i (n + k) * m k c) n + b * sumTo (fun k => f t (n + k) * m k c) n := by
    rw [← sumTo_mul', ← sumTo_mul', ← sumTo_add]
    exact sumTo_congr n fun k _ => by grind
  rw [h4] at h3
  generalize sumTo (fun k => f i (n + k) * m k c) n = S at *
  generalize sumTo (fun k => f t (n + k) * m k c) n = T at *
  generalize sumTo (fun k => g (n + k) * m k c) n = U at *
  have e : g c - U = (g c - (a * f i c + b * f t c)) + a * (f i c - S) + b * (f t c - T) - (U - (a * S + b * T)) := by grind
  rw [e]
  exact Int.dvd_sub (Int.dvd_add (Int.dvd_add (hg c) (Int.dvd_trans h1 ⟨a, by rw [Int.mul_comm]⟩)) (Int.dvd_trans h2 ⟨b, by rw [Int.mul_comm]⟩)) h3
theorem EI.sc {n : Nat} {p x y : Int} {m f : Fn2} {t : Nat} (h : EI n p m f) (ht : t < n) (hx : p ∣ y * x - 1) : EI n p m (scF f t x p) := by
  have e0 : ∀ q, scF f t x p t q = f t q * x % p := fun q => by unfold scF; rw [if_pos rfl]
  have e1 : ∀ i q, i ≠ t → scF f t x p i q = f i q := fun i q hne => by unfold scF; rw [if_neg hne]
  refine ⟨fun i c hi hc => ?_, fun z hz => h.inj z fun i hi => ?_⟩
  · by_cases hit : i = t
    · subst hit
      refine h.row (a := x) (b := 0) (g := fun q => scF f i x p i q) hi hi hc fun q => ?_
      show p ∣ scF f i x p i q - _
      rw [e0, Int.zero_mul, Int.add_zero, Int.mul_comm x]
      exact dvd_emod _ _
    · rw [e1 i c hit, sumTo_congr n fun k _ => by rw [e1 i (n + k) hit]]
      exact h.lin i c hi hc
  · by_cases hit : i = t
    · subst hit
      have h1 := hz i hi
      have h2 : p ∣ sumTo (fun k => scF f i x p i (n + k) * z k) n - sumTo (fun k => f i (n + k) * z k) n * x := by
        rw [← sumTo_mul]
        refine dvd_sumTo_sub n fun k _ => ?_
        rw [e0]
        have : f i (n + k) * x % p * z k - f i (n + k) * z k * x = (f i (n + k) * x % p - f i (n + k) * x) * z k := by grind
        rw [this]
        exact Int.dvd_trans (dvd_emod _ _) ⟨_, rfl⟩
      generalize sumTo (fun k => f i (n + k) * z k) n = S at *
      generalize sumTo (fun k => scF f i x p i (n + k) * z k) n = U at *
      have e : S = y * (U - (U - S * x)) - S * (y * x - 1) := by grind
      rw [e]
      exact Int.dvd_sub (Int.dvd_trans (Int.dvd_sub h1 h2) ⟨y, by rw [Int.mul_comm]⟩) (Int.dvd_trans hx ⟨S, by rw [Int.mul_comm]⟩)
    · have h1 := hz i hi
      rw [sumTo_congr n fun k _ => by rw [e1 i (n + k) hit]] at h1
      exact h1
theorem EI.el {n : Nat} {p : Int} {m f : Fn2} {t j : Nat} (h : EI n p m f) (ht : t < n) : EI n p m (elF f t j p) := by
  have e0 : ∀ q, elF f t j p t q = f t q := fun q => by unfold elF; rw [if_neg (fun h => h rfl)]
  have e1 : ∀ i q, i ≠ t → elF f t j p i q = (f i q - f i j * f t q) % p := fun i q hne => by unfold elF elAt; rw [if_pos hne]
  refine ⟨fun i c hi hc => ?_, fun z hz => h.inj z fun i hi => ?_⟩
  · by_cases hit : i = t
    · subst hit
      rw [e0, sumTo_congr n fun k _ => by rw [e0 (n + k)]]
      exact h.lin i c hi hc
    · refine h.row (a := 1) (b := -f i j) (g := fun q => elF f t j p i q) hi ht hc fun q => ?_
      show p ∣ elF f t j p i q - _
      rw [e1 i q hit]
      have : (1 : Int) * f i q + -f i j * f t q = f i q - f i j * f t q := by grind
      rw [this]
      exact dvd_emod _ _
  · have ht0 := hz t ht
    rw [sumTo_congr n fun k _ => by rw [e0 (n + k)]] at ht0
    by_cases hit : i = t
    · subst hit; exact ht0
    · have h1 := hz i hi
      have h2 : p ∣ sumTo (fun k => elF f t j p i (n + k) * z k) n - sumTo (fun k => (f i (n + k) - f i j * f t (n + k)) * z k) n := by
        refine dvd_sumTo_sub n fun k _ => ?_
        rw [e1 i _ hit, ← Int.sub_mul]
        exact Int.dvd_trans (dvd_emod _ _) ⟨_, rfl⟩
      have h3 : sumTo (fun k => (f i (n + k) - f i j * f t (n + k)) * z k) n = sumTo (fun k => f i (n + k) * z k) n - f i j * sumTo (fun k => f t (n + k) * z k) n := by
        rw [← sumTo_mul', ← sumTo_sub]
        exact sumTo_congr n fun k _ => by grind
      rw [h3] at h2
      generalize sumTo (fun k => f i (n + k) * z k) n = S at *
      generalize sumTo (fun k => f t (n + k) * z k) n = T at *
      generalize sumTo (fun k => elF f t j p i (n + k) * z k) n = U at *
      have e : S = U - (U - (S - f i j * T)) + T * f i j := by grind
      rw [e]
      exact Int.dvd_add (Int.dvd_sub h1 h2) (Int.dvd_trans ht0 ⟨_, rfl⟩)
theorem EI.start (n : Nat) (p : Int) (m : Fn2) : EI n p m (wideF n m) := by
  have e : ∀ i k, wideF n m i (n + k) = if k = i then 1 else 0 := fun i k => by
    unfold wideF
    rw [if_neg (by omega)]
    by_cases h : k = i
    · rw [if_pos h, if_pos (by omega)]
    · rw [if_neg h, if_neg (by omega)]
  have s : ∀ (z : Nat → Int) i, i < n → sumTo (fun k => wideF n m i (n + k) * z k) n = z i := fun z i hi => by
    rw [sumTo_one n hi (fun k _ hne => by rw [e, if_neg hne, Int.zero_mul])]
    rw [e, if_pos rfl, Int.one_mul]
  refine ⟨fun i c hi hc => ?_, fun z hz k hk => ?_⟩
  · rw [s (fun k => m k c) i hi]
    unfold wideF
    rw [if_pos hc, Int.sub_self]
    exact Int.dvd_zero _
  · have := hz k hk
    rwa [s z k hk] at this
/-- The columns done are those of the unit matrix. -/
def Un (n j : Nat) (f : Fn2) : Prop := ∀ i c, i < n → c < j → f i c = if i = c then 1 else 0
/-- A column with a pivot. -/
theorem colE_piv {n j : Nat} {p d : Int} {m f : Fn2} (hp : isPr p = true) (hf : ∀ i c, 0 ≤ f i c ∧ f i c < p) (hE : EI n p m f) (hU : Un n j f) (hj : j < n) (hk : fnd f j (n - j) j < n) :
    EI n p m (colE n p ⟨f, j, d⟩ j).f ∧ Un n (j + 1) (colE n p ⟨f, j, d⟩ j).f ∧ (colE n p ⟨f, j, d⟩ j).t = j + 1 ∧ (∀ i c, 0 ≤ (colE n p ⟨f, j, d⟩ j).f i c ∧ (colE n p ⟨f, j, d⟩ j).f i c < p) := by
  have hp2 := isPr_bds hp
  have hkl := fnd_le f j (n - j) j
  have hne := fnd_ne f j (n - j) j (by omega)
  have hv : colE n p ⟨f, j, d⟩ j = ⟨elF (scF (swF f (fnd f j (n - j) j) j) j (invOf (swF f (fnd f j (n - j) j) j j j) p) p) j j p, j + 1, (if fnd f j (n - j) j = j then d else (-d) % p) * swF f (fnd f j (n - j) j) j j j % p⟩ := by
    unfold colE
    simp only
    rw [if_neg (by omega)]
  rw [hv]
  generalize fnd f j (n - j) j = k at *
  have hp1 : swF f k j j j = f k j := swF_t f k j j
  rw [hp1]
  have hb := hf k j
  have hinv := invOf_spec (a := f k j) (m := p) (by omega) (by omega) (pr_gcd hp (by omega) hb.2)
  generalize invOf (f k j) p = x at *
  have E1 := hE.swap (k := k) (t := j) (by omega) hj
  have E2 := E1.sc hj hinv
  refine ⟨E2.el hj, ?_, rfl, fun i c => ?_⟩
  · have hU1 : Un n j (swF f k j) := fun i c hi hc => by
      unfold swF
      split
      · rename_i e
        rw [hU j c hj hc, if_neg (by omega), if_neg (by omega)]
      · split
        · rename_i e
          rw [hU k c (by omega) hc, if_neg (by omega), if_neg (by omega)]
        · exact hU i c hi hc
    have s0 : ∀ c, c < j → scF (swF f k j) j x p j c = 0 := fun c hc => by
      unfold scF
      rw [if_pos rfl, hU1 j c hj hc, if_neg (by omega), Int.zero_mul]
      exact Int.zero_emod _
    have s1 : scF (swF f k j) j x p j j = 1 := by
      unfold scF
      rw [if_pos rfl, hp1]
      obtain ⟨q, hq⟩ := hinv
      have : f k j * x = 1 + p * q := by omega
      rw [this, Int.add_mul_emod_self_left]
      exact Int.emod_eq_of_lt (by omega) (by omega)
    have s2 : ∀ i c, i ≠ j → scF (swF f k j) j x p i c = swF f k j i c := fun i c h => by unfold scF; rw [if_neg h]
    intro i c hi hc
    show elF _ j j p i c = _
    by_cases hij : i = j
    · subst hij
      have : elF (scF (swF f k i) i x p) i i p i c = scF (swF f k i) i x p i c := by unfold elF; rw [if_neg (fun h => h rfl)]
      rw [this]
      by_cases hcj : c = i
      · subst hcj; rw [s1, if_pos rfl]
      · rw [s0 c (by omega), if_neg (fun e => hcj e.symm)]
    · have : elF (scF (swF f k j) j x p) j j p i c = (swF f k j i c - swF f k j i j * scF (swF f k j) j x p j c) % p := by
        unfold elF elAt
        rw [if_pos hij, s2 i c hij, s2 i j hij]
      rw [this]
      by_cases hcj : c = j
      · subst hcj
        rw [s1, Int.mul_one, Int.sub_self, if_neg hij]
        exact Int.zero_emod _
      · rw [s0 c (by omega), Int.mul_zero, Int.sub_zero, hU1 i c hi (by omega)]
        split
        · exact Int.emod_eq_of_lt (by omega) (by omega)
        · exact Int.zero_emod _
  · show 0 ≤ elF _ j j p i c ∧ elF _ j j p i c < p
    unfold elF elAt
    split
    · exact emod_bds _ _ (by omega)
    · unfold scF
      split
      · exact emod_bds _ _ (by omega)
      · exact hf _ _
theorem colE_skip {n j : Nat} {p : Int} {s : ESt} (hk : ¬ fnd s.f j (n - s.t) s.t < n) : colE n p s j = s := by
  unfold colE
  simp only
  rw [if_pos (by omega)]
theorem colE_t (n j : Nat) (p : Int) (s : ESt) : (colE n p s j).t ≤ s.t + 1 := by
  unfold colE
  simp only
  split
  · omega
  · exact Nat.le_refl _
theorem colsE_t (n : Nat) (p : Int) : ∀ m j (s : ESt), (colsE n p m j s).t ≤ s.t + m
  | 0, _, _ => Nat.le_refl _
  | m + 1, j, s => by
    have h1 := colsE_t n p m (j + 1) (colE n p s j)
    have h2 := colE_t n j p s
    show (colsE n p m (j + 1) (colE n p s j)).t ≤ _
    omega
/-- All columns have pivots: the left half is the unit matrix. -/
theorem colsE_unit {n : Nat} {p : Int} {m : Fn2} (hp : isPr p = true) : ∀ q j (s : ESt), j + q = n → s.t = j → (∀ i c, 0 ≤ s.f i c ∧ s.f i c < p) → EI n p m s.f → Un n j s.f → n ≤ (colsE n p q j s).t → EI n p m (colsE n p q j s).f ∧ Un n n (colsE n p q j s).f
  | 0, j, s, hq, ht, hf, hE, hU, hn => by
    obtain rfl : j = n := by omega
    exact ⟨hE, hU⟩
  | q + 1, j, s, hq, ht, hf, hE, hU, hn => by
    obtain ⟨f, t, d⟩ := s
    dsimp only at ht hf hE hU
    subst ht
    have hn' : n ≤ (colsE n p q (t + 1) (colE n p ⟨f, t, d⟩ t)).t := hn
    by_cases hk : fnd f t (n - t) t < n
    · obtain ⟨a, b, c, e⟩ := colE_piv (d := d) hp hf hE hU (by omega) hk
      exact colsE_unit hp q (t + 1) (colE n p ⟨f, t, d⟩ t) (by omega) c e a b hn'
    · rw [colE_skip (s := ⟨f, t, d⟩) hk] at hn'
      have := colsE_t n p q (t + 1) ⟨f, t, d⟩
      dsimp only at this
      omega
/-- What the elimination of the wide matrix leaves: v m and m v are the unit matrix, over residues. -/
theorem wide_inv {n : Nat} {p : Int} {m : Fn2} (hp : isPr p = true) (hm : ∀ i c, 0 ≤ m i c ∧ m i c < p) (hw : ∀ i c, 0 ≤ wideF n m i c ∧ wideF n m i c < p) (hn : n ≤ (runE n n p (wideF n m)).t) :
    ∀ i j, i < n → j < n → p ∣ sumTo (fun k => m i k * (runE n n p (wideF n m)).f k (n + j)) n - (if i = j then 1 else 0) := by
  obtain ⟨hE, hU⟩ := colsE_unit hp n 0 ⟨wideF n m, 0, 1⟩ (by omega) rfl hw (EI.start n p m) (fun i c _ hc => absurd hc (Nat.not_lt_zero _)) hn
  have hE : EI n p m (runE n n p (wideF n m)).f := hE
  have hU : Un n n (runE n n p (wideF n m)).f := hU
  generalize (runE n n p (wideF n m)).f = f at *
  intro i j hi hj
  refine hE.inj (fun i => sumTo (fun k => m i k * f k (n + j)) n - (if i = j then 1 else 0)) (fun a ha => ?_) i hi
  -- v (m v - 1) = (v m - 1) v
  have h1 : sumTo (fun i => f a (n + i) * (sumTo (fun k => m i k * f k (n + j)) n - (if i = j then 1 else 0))) n = sumTo (fun k => sumTo (fun i => f a (n + i) * m i k) n * f k (n + j)) n - f a (n + j) := by
    have e1 : sumTo (fun i => f a (n + i) * (sumTo (fun k => m i k * f k (n + j)) n - (if i = j then 1 else 0))) n = sumTo (fun i => f a (n + i) * sumTo (fun k => m i k * f k (n + j)) n) n - sumTo (fun i => f a (n + i) * (if i = j then 1 else 0)) n := by
      rw [← sumTo_sub]
      exact sumTo_congr n fun k _ => by rw [Int.mul_sub]
    rw [e1, sumTo_one (f := fun i => f a (n + i) * (if i = j then 1 else 0)) n hj (fun k _ hne => by show _ * (if k = j then 1 else 0) = 0; rw [if_neg hne, Int.mul_zero]), if_pos rfl, Int.mul_one]
    have e2 : sumTo (fun i => f a (n + i) * sumTo (fun k => m i k * f k (n + j)) n) n = sumTo (fun i => sumTo (fun k => f a (n + i) * m i k * f k (n + j)) n) n := sumTo_congr n fun k _ => by
      rw [← sumTo_mul']
      exact sumTo_congr n fun l _ => by rw [Int.mul_assoc]
    rw [e2, sumTo_swap]
    congr 1
    exact sumTo_congr n fun k _ => by rw [sumTo_mul]
  rw [h1]
  have h2 : p ∣ sumTo (fun k => sumTo (fun i => f a (n + i) * m i k) n * f k (n + j)) n - sumTo (fun k => (if a = k then 1 else 0) * f k (n + j)) n := dvd_sumTo_sub n fun k hk => by
    rw [← Int.sub_mul]
    have := hE.lin a k ha hk
    rw [hU a k ha hk] at this
    exact Int.dvd_trans (by have := Int.dvd_neg.2 this; rwa [Int.neg_sub] at this) ⟨_, rfl⟩
  rw [sumTo_one (f := fun k => (if a = k then 1 else 0) * f k (n + j)) n ha (fun k _ hne => by show (if a = k then 1 else 0) * _ = 0; rw [if_neg (fun e => hne e.symm), Int.zero_mul]), if_pos rfl, Int.one_mul] at h2
  exact h2
/-- The elimination of two matrices that agree in the columns that it looks at. -/
theorem colE_agree {R C : Nat} {p : Int} {f g : Fn2} {t j : Nat} {d : Int} (h : ∀ i c, c < C → f i c = g i c) (hj : j < C) :
    (∀ i c, c < C → (colE R p ⟨f, t, d⟩ j).f i c = (colE R p ⟨g, t, d⟩ j).f i c) ∧ (colE R p ⟨f, t, d⟩ j).t = (colE R p ⟨g, t, d⟩ j).t ∧ (colE R p ⟨f, t, d⟩ j).d = (colE R p ⟨g, t, d⟩ j).d := by
  have hk : ∀ n k, fnd f j n k = fnd g j n k := fun n => by
    induction n with
    | zero => intro k; rfl
    | succ n ih => intro k; unfold fnd; rw [h k j hj, ih]
  unfold colE
  simp only
  rw [hk]
  generalize fnd g j (R - t) t = k
  have s1 : ∀ i c, c < C → swF f k t i c = swF g k t i c := fun i c hc => h _ c hc
  rw [s1 t j hj]
  split
  · exact ⟨h, rfl, rfl⟩
  · refine ⟨fun i c hc => ?_, rfl, rfl⟩
    have s2 : ∀ i c, c < C → scF (swF f k t) t (invOf (swF g k t t j) p) p i c = scF (swF g k t) t (invOf (swF g k t t j) p) p i c := fun i c hc => by
      unfold scF
      rw [s1 t c hc, s1 i c hc]
    show elF _ t j p i c = elF _ t j p i c
    unfold elF elAt
    rw [s2 i c hc, s2 i j hj, s2 t c hc]
theorem colsE_agree {R C : Nat} {p : Int} : ∀ q j (f g : Fn2) (t : Nat) (d : Int), j + q ≤ C → (∀ i c, c < C → f i c = g i c) →
    (colsE R p q j ⟨f, t, d⟩).t = (colsE R p q j ⟨g, t, d⟩).t ∧ (colsE R p q j ⟨f, t, d⟩).d = (colsE R p q j ⟨g, t, d⟩).d
  | 0, j, f, g, t, d, _, _ => ⟨rfl, rfl⟩
  | q + 1, j, f, g, t, d, hq, h => by
    obtain ⟨a, b, c⟩ := colE_agree (R := R) (p := p) (t := t) (d := d) h (show j < C by omega)
    show (colsE R p q (j + 1) (colE R p ⟨f, t, d⟩ j)).t = (colsE R p q (j + 1) (colE R p ⟨g, t, d⟩ j)).t ∧ (colsE R p q (j + 1) (colE R p ⟨f, t, d⟩ j)).d = (colsE R p q (j + 1) (colE R p ⟨g, t, d⟩ j)).d
    generalize colE R p ⟨f, t, d⟩ j = s at *
    generalize colE R p ⟨g, t, d⟩ j = s' at *
    obtain ⟨f1, t1, d1⟩ := s
    obtain ⟨f2, t2, d2⟩ := s'
    dsimp only at a b c
    subst b; subst c
    exact colsE_agree q (j + 1) f1 f2 t1 d1 (by omega) a
theorem wide_t (n : Nat) (p : Int) (m : Fn2) : (runE n n p (wideF n m)).t = (runE n n p m).t :=
  (colsE_agree (R := n) (C := n) n 0 (wideF n m) m 0 1 (by omega) fun i c hc => by unfold wideF; rw [if_pos hc]).1
/-- The determinant's residue is not 0 if all columns have pivots. -/
theorem colE_d {R : Nat} {p : Int} {s : ESt} (hp : isPr p = true) (hf : EOk R p s) (hd : s.d ≠ 0) (j : Nat) : (colE R p s j).d ≠ 0 := by
  have hp2 := isPr_bds hp
  unfold colE
  simp only
  split
  · exact hd
  · rename_i hk
    have hk2 := fnd_le s.f j (R - s.t) s.t
    have hne := fnd_ne s.f j (R - s.t) s.t (by omega)
    show (if _ then _ else _) * _ % p ≠ 0
    rw [swF_t]
    intro h0
    have hb := hf.f0 (fnd s.f j (R - s.t) s.t) j
    have hdb := hf.d0
    have hd2 : ∀ x : Int, p ∣ x → 0 < x → x < p → False := fun x hx h1 h2 => by have := Int.le_of_dvd h1 hx; omega
    rcases pr_mul hp (Int.dvd_of_emod_eq_zero h0) with h1 | h1
    · split at h1
      · exact hd2 _ h1 (by omega) hdb.2
      · have h3 : p ∣ s.d := by
          have := Int.dvd_sub h1 (dvd_emod (-s.d) p)
          have e : (-s.d) % p - ((-s.d) % p - -s.d) = -s.d := by omega
          rw [e] at this
          exact Int.dvd_neg.1 this
        exact hd2 _ h3 (by omega) hdb.2
    · exact hd2 _ h1 (by omega) hb.2
theorem colsE_d {R : Nat} {p : Int} (hp : isPr p = true) : ∀ n j (s : ESt), EOk R p s → s.d ≠ 0 → (colsE R p n j s).d ≠ 0
  | 0, _, _, _, h => h
  | n + 1, j, s, ho, h => colsE_d hp n (j + 1) (colE R p s j) (colE_ok (isPr_bds hp).1 ho j) (colE_d hp ho h j)
end Go.Proofs.Ytacjonkehcamgaa

/-
  DERIVED. Elimination modulo a prime: the rows are combinations, the pivots stand alone, the determinant is the image; the rank is no greater than over the whole numbers. No program in sight.
-/
namespace Go.Proofs.Ytacjonkehcamgaa
set_option linter.unusedVariables false
/-- v is, modulo p, a combination of rows. -/
def PS (p : Int) (R C : Nat) (f : Fn2) (v : Nat → Int) : Prop := ∃ c : Nat → Int, ∀ y, y < C → p ∣ v y - sumTo (fun k => c k * f k y) R
section
variable {p : Int} {R C : Nat} {f g m : Fn2} {u v z : Nat → Int}
theorem PS.row {i : Nat} (hi : i < R) : PS p R C f (f i) := by
  obtain ⟨c, hc⟩ := Sp.row (C := C) (f := f) hi
  exact ⟨c, fun y hy => by rw [hc y hy, Int.sub_self]; exact Int.dvd_zero _⟩
theorem PS.lin (h : PS p R C f u) (h2 : PS p R C f v) {a b : Int} (e : ∀ y, y < C → p ∣ z y - (a * u y + b * v y)) : PS p R C f z := by
  obtain ⟨c, hc⟩ := h
  obtain ⟨d, hd⟩ := h2
  refine ⟨fun k => a * c k + b * d k, fun y hy => ?_⟩
  have e1 : sumTo (fun k => (a * c k + b * d k) * f k y) R = a * sumTo (fun k => c k * f k y) R + b * sumTo (fun k => d k * f k y) R := by
    rw [← sumTo_mul', ← sumTo_mul', ← sumTo_add]
    exact sumTo_congr R fun k _ => by grind
  rw [e1]
  have h1 := e y hy
  have h3 := hc y hy
  have h4 := hd y hy
  generalize sumTo (fun k => c k * f k y) R = S at *
  generalize sumTo (fun k => d k * f k y) R = T at *
  have e2 : z y - (a * S + b * T) = (z y - (a * u y + b * v y)) + (u y - S) * a + (v y - T) * b := by grind
  rw [e2]
  exact Int.dvd_add (Int.dvd_add h1 (Int.dvd_trans h3 ⟨_, rfl⟩)) (Int.dvd_trans h4 ⟨_, rfl⟩)
end
/-- Congruent matrices have congruent determinants. -/
theorem Dt_mod {p : Int} : ∀ (n : Nat) {f g : Fn2}, (∀ i j, i < n → j < n → p ∣ f i j - g i j) → p ∣ Dt n f - Dt n g
  | 0, f, g, _ => by show p ∣ (1 : Int) - 1; exact Int.dvd_zero _
  | n + 1, f, g, h => by
    rw [Dt_succ, Dt_succ]
    refine dvd_sumTo_sub (n + 1) fun j hj => ?_
    have h1 := Dt_mod n (f := mnr f j) (g := mnr g j) fun a b ha hb => h (a + 1) (sk j b) (by omega) (sk_lt hb)
    have h2 := h 0 j (by omega) hj
    have e : sg j * f 0 j * Dt n (mnr f j) - sg j * g 0 j * Dt n (mnr g j) = (f 0 j - g 0 j) * (sg j * Dt n (mnr f j)) + (Dt n (mnr f j) - Dt n (mnr g j)) * (sg j * g 0 j) := by grind
    rw [e]
    exact Int.dvd_add (Int.dvd_trans h2 ⟨_, rfl⟩) (Int.dvd_trans h1 ⟨_, rfl⟩)
/-- What holds in the elimination modulo p, columns before j done. -/
structure MP (R C : Nat) (p : Int) (m : Fn2) (j : Nat) (pv : Nat → Nat) (s : ESt) : Prop where
  ok : EOk R p s
  row : ∀ i, i < R → PS p R C m (s.f i)
  lt : ∀ k, k < s.t → pv k < j
  mono : ∀ i k, i < k → k < s.t → pv i < pv k
  one : ∀ k, k < s.t → s.f k (pv k) = 1
  oth : ∀ k i, k < s.t → i < R → i ≠ k → s.f i (pv k) = 0
  zero : ∀ i y, s.t ≤ i → i < R → y < j → s.f i y = 0
  det : C = R → p ∣ Dt R m - s.d * Dt R s.f
theorem emod_low {a p : Int} (h0 : 0 ≤ a) (h1 : a < p) : a % p = a := Int.emod_eq_of_lt h0 h1
theorem MP.step {R C : Nat} {p : Int} {m : Fn2} {j : Nat} {pv : Nat → Nat} {s : ESt} (hp : isPr p = true) (H : MP R C p m j pv s) (hj : j < C) : ∃ pv', MP R C p m (j + 1) pv' (colE R p s j) := by
  have hp2 := isPr_bds hp
  have hok := colE_ok hp2.1 H.ok j
  obtain ⟨f, t, d⟩ := s
  have hkl := fnd_le f j (R - t) t
  by_cases hk : fnd f j (R - t) t < R
  · have hne := fnd_ne f j (R - t) t (by omega)
    have hv : colE R p ⟨f, t, d⟩ j = ⟨elF (scF (swF f (fnd f j (R - t) t) t) t (invOf (swF f (fnd f j (R - t) t) t t j) p) p) t j p, t + 1, (if fnd f j (R - t) t = t then d else (-d) % p) * swF f (fnd f j (R - t) t) t t j % p⟩ := by
      unfold colE
      simp only
      rw [if_neg (by omega)]
    rw [hv] at hok ⊢
    generalize fnd f j (R - t) t = k at *
    have hf := H.ok.f0
    dsimp only at hf
    have hp1 : swF f k t t j = f k j := swF_t f k t j
    rw [hp1] at hok ⊢
    have hb := hf k j
    have hinv := invOf_spec (a := f k j) (m := p) (by omega) (by omega) (pr_gcd hp (by omega) hb.2)
    generalize invOf (f k j) p = x at *
    have htR : t < R := by omega
    have hrow := H.row
    have hlt := H.lt
    have hmono := H.mono
    have hone := H.one
    have hoth := H.oth
    have hzero := H.zero
    have hdet := H.det
    dsimp only at hrow hlt hmono hone hoth hzero hdet
    -- the rows of the matrix with rows k and t exchanged
    have w1 : ∀ i, i < t → swF f k t i = f i := fun i hi => by funext y; unfold swF; rw [if_neg (by omega), if_neg (by omega)]
    have w2 : ∀ i, t ≤ i → i < R → ∃ i', t ≤ i' ∧ i' < R ∧ swF f k t i = f i' := fun i ha hb => by
      refine ⟨if i = k then t else if i = t then k else i, ?_, ?_, rfl⟩ <;> grind
    have wb : ∀ i c, 0 ≤ swF f k t i c ∧ swF f k t i c < p := fun i c => hf _ _
    have wrow : ∀ i, i < R → PS p R C m (swF f k t i) := fun i hi => by
      rcases Nat.lt_or_ge i t with h | h
      · rw [w1 i h]; exact hrow i hi
      · obtain ⟨i', a, b, e⟩ := w2 i h hi
        rw [e]; exact hrow i' b
    have wone : ∀ q, q < t → swF f k t q (pv q) = 1 := fun q hq => by rw [w1 q hq]; exact hone q hq
    have woth : ∀ q i, q < t → i < R → i ≠ q → swF f k t i (pv q) = 0 := fun q i hq hi hne => by
      rcases Nat.lt_or_ge i t with h | h
      · rw [w1 i h]; exact hoth q i hq hi hne
      · obtain ⟨i', a, b, e⟩ := w2 i h hi
        rw [e]; exact hoth q i' hq b (by omega)
    have wzero : ∀ i y, t ≤ i → i < R → y < j → swF f k t i y = 0 := fun i y ha hb hy => by
      obtain ⟨i', a, b, e⟩ := w2 i ha hb
      rw [e]; exact hzero i' y a b hy
    have wdet : C = R → p ∣ Dt R m - (if k = t then d else (-d) % p) * Dt R (swF f k t) := fun hC => by
      by_cases e : k = t
      · subst e
        rw [if_pos rfl, swF_same]; exact hdet hC
      · rw [if_neg e, (Dt_alt R).swap (show k < R by omega) htR e]
        have h1 := hdet hC
        have h2 := dvd_emod (-d) p
        generalize (-d) % p = d1 at *
        have e2 : Dt R m - d1 * -Dt R f = (Dt R m - d * Dt R f) + (d1 - -d) * Dt R f := by grind
        rw [e2]
        exact Int.dvd_add h1 (Int.dvd_trans h2 ⟨_, rfl⟩)
    generalize hF : swF f k t = F at *
    generalize (if k = t then d else (-d) % p) = d1 at *
    have hpt : F t j = f k j := hp1
    rw [← hpt] at hinv hb hok ⊢
    -- row t times x
    have s0 : ∀ c, scF F t x p t c = F t c * x % p := fun c => by unfold scF; rw [if_pos rfl]
    have s1 : ∀ i c, i ≠ t → scF F t x p i c = F i c := fun i c h => by unfold scF; rw [if_neg h]
    have s1' : ∀ i, i ≠ t → scF F t x p i = F i := fun i h => by funext c; exact s1 i c h
    have sb : ∀ i c, 0 ≤ scF F t x p i c ∧ scF F t x p i c < p := fun i c => by
      by_cases h : i = t
      · subst h; rw [s0]; exact emod_bds _ _ (by omega)
      · rw [s1 i c h]; exact wb i c
    have sone : scF F t x p t j = 1 := by
      rw [s0]
      obtain ⟨q, hq⟩ := hinv
      have : F t j * x = 1 + p * q := by omega
      rw [this, Int.add_mul_emod_self_left]
      exact Int.emod_eq_of_lt (by omega) (by omega)
    have sz : ∀ c, F t c = 0 → scF F t x p t c = 0 := fun c h => by rw [s0, h, Int.zero_mul]; exact Int.zero_emod _
    have srow : ∀ i, i < R → PS p R C m (scF F t x p i) := fun i hi => by
      by_cases h : i = t
      · subst h
        exact (wrow i hi).lin (wrow i hi) (a := x) (b := 0) fun y hy => by
          rw [s0, Int.zero_mul, Int.add_zero, Int.mul_comm x]; exact dvd_emod _ _
      · rw [s1' i h]; exact wrow i hi
    have sdet : C = R → p ∣ Dt R m - d1 * F t j % p * Dt R (scF F t x p) := fun hC => by
      have h1 := wdet hC
      have h2 : p ∣ Dt R (scF F t x p) - Dt R F * x := by
        rw [← (Dt_alt R).scale (t := x) (f := F) (g := fun a b => if a = t then F t b * x else F a b) htR (fun y _ => by simp) (fun a b _ _ hne => by simp [hne])]
        refine Dt_mod R fun a b ha hb => ?_
        by_cases h : a = t
        · subst h
          rw [s0]; simp only [if_pos]
          exact dvd_emod _ _
        · rw [s1 a b h]; simp only [if_neg h, Int.sub_self]; exact Int.dvd_zero _
      have h3 := dvd_emod (d1 * F t j) p
      generalize d1 * F t j % p = d2 at *
      generalize Dt R (scF F t x p) = D2 at *
      generalize Dt R F = D1 at *
      obtain ⟨q1, hq1⟩ := h1
      obtain ⟨q2, hq2⟩ := h2
      obtain ⟨q3, hq3⟩ := h3
      obtain ⟨q4, hq4⟩ := hinv
      refine ⟨q1 - d1 * D1 * q4 - D1 * x * q3 - d2 * q2, ?_⟩
      have e1 : D2 = D1 * x + p * q2 := by omega
      have e2 : d2 = d1 * F t j + p * q3 := by omega
      have e3 : F t j * x = 1 + p * q4 := by omega
      have e4 : Dt R m = d1 * D1 + p * q1 := by omega
      rw [e4, e1]
      have e5 : d2 * (D1 * x + p * q2) = d2 * x * D1 + d2 * (p * q2) := by grind
      have e6 : d2 * x = d1 * (F t j * x) + p * q3 * x := by rw [e2]; grind
      rw [e5, e6, e3]
      grind
    -- the other rows less row t
    have E0 : ∀ c, elF (scF F t x p) t j p t c = scF F t x p t c := fun c => by unfold elF; rw [if_neg (fun h => h rfl)]
    have E0' : elF (scF F t x p) t j p t = scF F t x p t := by funext c; exact E0 c
    have E1 : ∀ i c, i ≠ t → elF (scF F t x p) t j p i c = (F i c - F i j * scF F t x p t c) % p := fun i c h => by
      unfold elF elAt; rw [if_pos h, s1 i c h, s1 i j h]
    have Ez : ∀ i c, i ≠ t → scF F t x p t c = 0 → elF (scF F t x p) t j p i c = F i c := fun i c h h0 => by
      rw [E1 i c h, h0, Int.mul_zero, Int.sub_zero]; exact emod_low (wb i c).1 (wb i c).2
    have Ej : ∀ i, i ≠ t → elF (scF F t x p) t j p i j = 0 := fun i h => by
      rw [E1 i j h, sone, Int.mul_one, Int.sub_self]; exact Int.zero_emod _
    refine ⟨fun q => if q = t then j else pv q, hok, fun i hi => ?_, fun q hq => ?_, fun i q hiq hq => ?_, fun q hq => ?_, fun q i hq hi hne => ?_, fun i y h1 h2 h3 => ?_, fun hC => ?_⟩
    · by_cases h : i = t
      · show PS p R C m (elF _ t j p i)
        rw [h, E0']; exact srow t htR
      · exact (srow i hi).lin (srow t htR) (a := 1) (b := -F i j) fun y hy => by
          show p ∣ elF _ t j p i y - _
          rw [E1 i y h, s1 i y h]
          have := dvd_emod (F i y - F i j * scF F t x p t y) p
          have e : (1 : Int) * F i y + -F i j * scF F t x p t y = F i y - F i j * scF F t x p t y := by grind
          rw [e]; exact this
    · show (if q = t then j else pv q) < j + 1
      have hq' : q < t + 1 := hq
      split
      · omega
      · have := hlt q (by omega); omega
    · have hq' : q < t + 1 := hq
      show (if i = t then j else pv i) < (if q = t then j else pv q)
      rw [if_neg (by omega)]
      split
      · exact hlt i (by omega)
      · exact hmono i q hiq (by omega)
    · have hq' : q < t + 1 := hq
      show elF _ t j p q (if q = t then j else pv q) = 1
      by_cases h : q = t
      · subst h; rw [if_pos rfl, E0]; exact sone
      · rw [if_neg h, Ez q _ h (sz _ (woth q t (by omega) htR (fun e => h e.symm)))]
        exact wone q (by omega)
    · have hq' : q < t + 1 := hq
      show elF _ t j p i (if q = t then j else pv q) = 0
      by_cases h : q = t
      · subst h; rw [if_pos rfl]; exact Ej i hne
      · rw [if_neg h]
        have hz := sz _ (woth q t (by omega) htR (fun e => h e.symm))
        by_cases hit : i = t
        · subst hit; rw [E0]; exact hz
        · rw [Ez i _ hit hz]; exact woth q i (by omega) hi hne
    · have h1' : t + 1 ≤ i := h1
      show elF _ t j p i y = 0
      by_cases hy : y = j
      · subst hy; exact Ej i (by omega)
      · rw [Ez i y (by omega) (sz _ (wzero t y (Nat.le_refl _) htR (by omega)))]
        exact wzero i y (by omega) h2 (by omega)
    · show p ∣ Dt R m - d1 * F t j % p * Dt R (elF (scF F t x p) t j p)
      have h1 := sdet hC
      have h2 : p ∣ Dt R (elF (scF F t x p) t j p) - Dt R (scF F t x p) := by
        -- row by row
        have hst : ∀ n, n ≤ R → Dt R (fun a b => if a < n ∧ a ≠ t then F a b - F a j * scF F t x p t b else scF F t x p a b) = Dt R (scF F t x p) := fun n => by
          induction n with
          | zero => intro _; exact Dt_congr R fun a b _ _ => by rw [if_neg (by omega)]
          | succ n ih =>
            intro hn
            rw [← ih (by omega)]
            by_cases hnt : n = t
            · refine Dt_congr R fun a b _ _ => ?_
              by_cases h : a < n ∧ a ≠ t
              · rw [if_pos h, if_pos ⟨by omega, h.2⟩]
              · rw [if_neg h, if_neg (by omega)]
            · refine (Dt_alt R).add (i := n) (j := t) (t := -F n j) (by omega) htR hnt (fun y _ => ?_) (fun a b _ _ hne => ?_)
              · rw [if_pos ⟨by omega, hnt⟩, if_neg (by omega), if_neg (by omega), s1 n y hnt]
                grind
              · by_cases h : a < n ∧ a ≠ t
                · rw [if_pos h, if_pos ⟨by omega, h.2⟩]
                · rw [if_neg h, if_neg (by omega)]
        rw [← hst R (Nat.le_refl _)]
        refine Dt_mod R fun a b ha hb => ?_
        by_cases h : a = t
        · subst h; rw [E0, if_neg (by omega), Int.sub_self]; exact Int.dvd_zero _
        · rw [E1 a b h, if_pos ⟨ha, h⟩]; exact dvd_emod _ _
      generalize d1 * F t j % p = d2 at *
      generalize Dt R (elF (scF F t x p) t j p) = D3 at *
      generalize Dt R (scF F t x p) = D2 at *
      have e : Dt R m - d2 * D3 = (Dt R m - d2 * D2) - (D3 - D2) * d2 := by grind
      rw [e]
      exact Int.dvd_sub h1 (Int.dvd_trans h2 ⟨_, rfl⟩)
  · have hE : colE R p ⟨f, t, d⟩ j = ⟨f, t, d⟩ := colE_skip (s := ⟨f, t, d⟩) hk
    rw [hE]
    refine ⟨pv, H.ok, H.row, fun k hk => by have := H.lt k hk; omega, H.mono, H.one, H.oth, fun i y h1 h2 h3 => ?_, H.det⟩
    by_cases hy : y = j
    · subst hy
      have h1' : t ≤ i := h1
      have hz : ∀ n k i, k ≤ i → i < fnd f y n k → f i y = 0 := fun n => by
        induction n with
        | zero => intro k i h1 h2; unfold fnd at h2; omega
        | succ n ih =>
          intro k i h1 h2
          unfold fnd at h2
          split at h2
          · rename_i h0
            by_cases e : i = k
            · rw [e]; exact h0
            · exact ih (k + 1) i (by omega) h2
          · omega
      exact hz (R - t) t i h1' (by omega)
    · exact H.zero i y h1 h2 (by omega)
theorem MP.run {R C : Nat} {p : Int} {m : Fn2} (hp : isPr p = true) : ∀ (n j : Nat) (pv : Nat → Nat) (s : ESt), j + n = C → MP R C p m j pv s → ∃ pv', MP R C p m C pv' (colsE R p n j s)
  | 0, j, pv, s, hj, H => by
    obtain rfl : j = C := by omega
    exact ⟨pv, H⟩
  | n + 1, j, pv, s, hj, H => by
    obtain ⟨pv', H'⟩ := H.step hp (by omega)
    exact MP.run hp n (j + 1) pv' _ (by omega) H'
theorem MP.start {R C : Nat} {p : Int} {m : Fn2} (hp : 2 ≤ p) (hm : ∀ i c, 0 ≤ m i c ∧ m i c < p) : MP R C p m 0 id ⟨m, 0, 1⟩ :=
  ⟨⟨hm, Nat.zero_le _, by dsimp only; omega⟩, fun i hi => PS.row hi, fun k hk => absurd hk (Nat.not_lt_zero _), fun i k _ hk => absurd hk (Nat.not_lt_zero _), fun k hk => absurd hk (Nat.not_lt_zero _), fun k i hk => absurd hk (Nat.not_lt_zero _), fun i y _ _ hy => absurd hy (Nat.not_lt_zero _), fun _ => by
    show p ∣ Dt R m - 1 * Dt R m
    rw [Int.one_mul, Int.sub_self]; exact Int.dvd_zero _⟩
theorem runE_mp {R C : Nat} {p : Int} {m : Fn2} (hp : isPr p = true) (hm : ∀ i c, 0 ≤ m i c ∧ m i c < p) : ∃ pv, MP R C p m C pv (runE R C p m) :=
  MP.run hp C 0 id _ (by omega) (MP.start (isPr_bds hp).1 hm)
/-- The determinant modulo p is the image of the determinant. -/
theorem MP.img {R : Nat} {p : Int} {m : Fn2} {pv : Nat → Nat} {s : ESt} (H : MP R R p m R pv s) : (s.t < R → p ∣ Dt R m) ∧ (s.t = R → p ∣ Dt R m - s.d) := by
  have hd := H.det rfl
  refine ⟨fun h => ?_, fun h => ?_⟩
  · have h0 : Dt R s.f = 0 := (Dt_alt R).zero (i := s.t) h fun y hy => H.zero s.t y (Nat.le_refl _) h hy
    rw [h0, Int.mul_zero, Int.sub_zero] at hd
    exact hd
  · have hge : ∀ k, k < R → k ≤ pv k := fun k => by
      induction k with
      | zero => intro _; exact Nat.zero_le _
      | succ k ih =>
        intro hk
        have := ih (by omega)
        have := H.mono k (k + 1) (by omega) (by omega)
        omega
    have hle : ∀ d k, k + d + 1 = R → pv k ≤ k := fun d => by
      induction d with
      | zero =>
        intro k hk
        have := H.lt k (by omega); omega
      | succ d ih =>
        intro k hk
        have := ih (k + 1) (by omega)
        have := H.mono k (k + 1) (by omega) (by omega)
        omega
    have hpv : ∀ k, k < R → pv k = k := fun k hk => by
      have := hge k hk
      have := hle (R - k - 1) k (by omega)
      omega
    have h1 : Dt R s.f = 1 := by
      rw [← Dt_id R]
      refine Dt_congr R fun i j hi hj => ?_
      unfold idF
      by_cases e : i = j
      · subst e
        rw [if_pos rfl]
        have := H.one i (by omega)
        rwa [hpv i hi] at this
      · rw [if_neg e]
        have := H.oth j i (by omega) hi e
        rwa [hpv j hj] at this
    rw [h1, Int.mul_one] at hd
    exact hd
theorem not_all_div {p : Int} (hp : 2 ≤ p) {r : Nat} {f : Fn2} : ∀ (N : Nat) (z : Nat → Int), sumTo (fun k => ((z k).natAbs : Int)) (r + 1) ≤ N → (∃ k, k < r + 1 ∧ z k ≠ 0) → (∀ i, i < r → mv (r + 1) f z i = 0) → ∃ z' : Nat → Int, (∃ k, k < r + 1 ∧ ¬ p ∣ z' k) ∧ ∀ i, i < r → mv (r + 1) f z' i = 0 := by
  intro N
  induction N with
  | zero =>
    intro z hN hk hz
    exact ⟨z, by
      obtain ⟨k, hk, h0⟩ := hk
      refine ⟨k, hk, fun hd => ?_⟩
      have h2 := sumTo_at (g := fun i => if i = k then 0 else ((z i).natAbs : Int)) (e := fun k => ((z k).natAbs : Int)) hk (fun i _ hne => by simp only [if_neg hne])
      have h3 : ∀ n, 0 ≤ sumTo (fun i => if i = k then 0 else ((z i).natAbs : Int)) n := fun n => by
        induction n with
        | zero => exact Int.le_refl _
        | succ n ih =>
          rw [sumTo_succ]
          have : (0 : Int) ≤ (if n = k then 0 else ((z n).natAbs : Int)) := by split <;> omega
          omega
      have h4 := h3 (r + 1)
      simp only [if_pos] at h2
      omega, hz⟩
  | succ N ih =>
    intro z hN hk hz
    by_cases hex : ∃ k, k < r + 1 ∧ ¬ p ∣ z k
    · exact ⟨z, hex, hz⟩
    · have hall : ∀ k, k < r + 1 → p ∣ z k := fun k hk => by
        apply Classical.byContradiction
        intro h; exact hex ⟨k, hk, h⟩
      have hch : ∀ k, k < r + 1 → z k = p * (z k / p) := fun k hk => (Int.mul_ediv_cancel' (hall k hk)).symm
      obtain ⟨k, hkr, h0⟩ := hk
      have hle : ∀ k, k < r + 1 → ((z k / p).natAbs : Int) ≤ ((z k).natAbs : Int) := fun k hk => by
        have h1 := hch k hk
        generalize z k / p = q at *
        rw [h1, Int.natAbs_mul]
        have : q.natAbs ≤ p.natAbs * q.natAbs := Nat.le_mul_of_pos_left _ (by omega)
        omega
      have hlt : ((z k / p).natAbs : Int) < ((z k).natAbs : Int) := by
        have h1 := hch k hkr
        generalize z k / p = q at *
        have hq : q ≠ 0 := fun e => h0 (by rw [h1, e, Int.mul_zero])
        rw [h1, Int.natAbs_mul]
        have : 2 * q.natAbs ≤ p.natAbs * q.natAbs := Nat.mul_le_mul_right _ (by omega)
        omega
      refine ih (fun k => z k / p) ?_ ⟨k, hkr, fun e => h0 (by rw [hch k hkr, e, Int.mul_zero])⟩ (fun i hi => ?_)
      · have hsum : ∀ n, n ≤ r + 1 → sumTo (fun k => ((z k / p).natAbs : Int)) n + (if k < n then 1 else 0) ≤ sumTo (fun k => ((z k).natAbs : Int)) n := fun n => by
          induction n with
          | zero => intro _; rw [if_neg (by omega)]; exact Int.le_refl _
          | succ n ih2 =>
            intro hn
            have := ih2 (by omega)
            have h5 := hle n (by omega)
            rw [sumTo_succ, sumTo_succ]
            by_cases e : k < n
            · rw [if_pos e] at this; rw [if_pos (by omega)]; omega
            · rw [if_neg e] at this
              by_cases e2 : k = n
              · subst e2; rw [if_pos (by omega)]; omega
              · rw [if_neg (by omega)]; omega
        have := hsum (r + 1) (Nat.le_refl _)
        rw [if_pos hkr] at this
        omega
      · have h1 := hz i hi
        unfold mv at h1 ⊢
        have e : sumTo (fun k => f i k * z k) (r + 1) = p * sumTo (fun k => f i k * (z k / p)) (r + 1) := by
          rw [← sumTo_mul']
          exact sumTo_congr (r + 1) fun k hk => by
            have := hch k hk
            generalize z k / p = q at *
            rw [this]; grind
        rw [e] at h1
        rcases Int.mul_eq_zero.1 h1 with h | h
        · omega
        · exact h
/-- The rank modulo p is no greater than the rank. -/
theorem MP.rank {R C n : Nat} {p : Int} {m m0 : Fn2} {pv : Nat → Nat} {s : ESt} (hp : 2 ≤ p) (H : MP R C p m C pv s) (hm : ∀ i j, i < R → j < C → p ∣ m i j - m0 i j) (hn : RKs R C n m0) : s.t ≤ n := by
  obtain ⟨r, h, hI, h1, h2⟩ := lat_basis (C := C) R m0
  obtain ⟨e, he⟩ := hn
  have hrn : r ≤ n := Ind.le hI fun k hk => by
    obtain ⟨c, hc⟩ := h2 k hk
    exact (QS.trans (g := m0) (S := R) ⟨1, c, by decide, fun y hy => by rw [Int.one_mul]; exact hc y hy⟩ he : QS n C e (h k))
  refine Nat.le_trans (Nat.le_of_not_lt fun hlt => ?_) hrn
  -- the first r + 1 rows, as combinations of the r rows of h
  have htR := H.ok.t0
  have hw : ∀ k, ∃ w : Nat → Int, k < r + 1 → ∀ y, y < C → p ∣ s.f k y - sumTo (fun l => w l * h l y) r := fun k => by
    by_cases hk : k < r + 1
    · obtain ⟨c, hc⟩ := H.row k (by omega)
      have hd : ∀ i, ∃ d : Nat → Int, i < R → ∀ y, y < C → m0 i y = sumTo (fun l => d l * h l y) r := fun i => by
        by_cases hi : i < R
        · obtain ⟨d, hd⟩ := h1 i hi
          exact ⟨d, fun _ => hd⟩
        · exact ⟨fun _ => 0, fun h => absurd h hi⟩
      obtain ⟨d, hd⟩ := Classical.axiomOfChoice hd
      refine ⟨fun l => sumTo (fun i => c i * d i l) R, fun _ y hy => ?_⟩
      have e1 : sumTo (fun l => sumTo (fun i => c i * d i l) R * h l y) r = sumTo (fun i => c i * m0 i y) R := by
        have a1 : sumTo (fun i => c i * m0 i y) R = sumTo (fun i => sumTo (fun l => c i * d i l * h l y) r) R := sumTo_congr R fun i hi => by
          rw [hd i hi y hy, ← sumTo_mul']
          exact sumTo_congr r fun l _ => by grind
        rw [a1, sumTo_swap]
        exact sumTo_congr r fun l _ => by rw [sumTo_mul]
      have h3 : p ∣ sumTo (fun i => c i * m i y) R - sumTo (fun i => c i * m0 i y) R := dvd_sumTo_sub R fun i hi => by
        rw [← Int.mul_sub]
        exact Int.dvd_trans (hm i y hi hy) ⟨c i, by rw [Int.mul_comm]⟩
      have h4 := hc y hy
      rw [e1]
      have := Int.dvd_add h4 h3
      rwa [show s.f k y - sumTo (fun k => c k * m k y) R + (sumTo (fun i => c i * m i y) R - sumTo (fun i => c i * m0 i y) R) = s.f k y - sumTo (fun i => c i * m0 i y) R by omega] at this
    · exact ⟨fun _ => 0, fun h => absurd h hk⟩
  obtain ⟨w, hw⟩ := Classical.axiomOfChoice hw
  obtain ⟨z0, hz1, hz2⟩ := sys_zero r fun l k => w k l
  obtain ⟨N, hN⟩ : ∃ N : Nat, sumTo (fun k => ((z0 k).natAbs : Int)) (r + 1) ≤ N := ⟨(sumTo (fun k => ((z0 k).natAbs : Int)) (r + 1)).toNat, by omega⟩
  obtain ⟨z, ⟨k, hk, hkz⟩, hz⟩ := not_all_div hp N z0 hN hz1 hz2
  refine hkz ?_
  have hkt : k < s.t := by omega
  have hpk := H.lt k hkt
  -- the combination of the rows with z, at the pivot of row k
  have a1 : p ∣ sumTo (fun i => z i * s.f i (pv k)) (r + 1) - sumTo (fun i => z i * sumTo (fun l => w i l * h l (pv k)) r) (r + 1) := dvd_sumTo_sub (r + 1) fun i hi => by
    rw [← Int.mul_sub]
    exact Int.dvd_trans (hw i hi (pv k) hpk) ⟨z i, by rw [Int.mul_comm]⟩
  have a2 : sumTo (fun i => z i * sumTo (fun l => w i l * h l (pv k)) r) (r + 1) = 0 := by
    have b1 : sumTo (fun i => z i * sumTo (fun l => w i l * h l (pv k)) r) (r + 1) = sumTo (fun i => sumTo (fun l => w i l * z i * h l (pv k)) r) (r + 1) := sumTo_congr (r + 1) fun i _ => by
      rw [← sumTo_mul']
      exact sumTo_congr r fun l _ => by grind
    rw [b1, sumTo_swap]
    refine sumTo_null r fun l hl => ?_
    rw [sumTo_mul]
    have := hz l hl
    unfold mv at this
    rw [this, Int.zero_mul]
  have a3 : sumTo (fun i => z i * s.f i (pv k)) (r + 1) = z k := by
    rw [sumTo_one (i := k) (r + 1) hk fun i hi hne => by rw [H.oth k i hkt (by omega) hne, Int.mul_zero], H.one k hkt, Int.mul_one]
  rw [a2, a3, Int.sub_zero] at a1
  exact a1
end Go.Proofs.Ytacjonkehcamgaa

/-
  DERIVED. What DeterminantMod and RankMod answer, beside DeterminantOf and RankOf. No program in sight.
-/
namespace Go.Proofs.Ytacjonkehcamgaa
set_option linter.unusedVariables false
structure IMG (R : Nat) (xs : List Int) (p : Int) : Prop where
  red : redB R R xs p = true
  R24 : R ≤ 24
  p2 : 2 ≤ p
  p4 : p ≤ 10000
  d0 : 0 ≤ detM R R xs p
  dp : detM R R xs p < p
  dz : (detM R R xs p == 0) = decide (rankM R R xs p < R)
  r0 : 0 ≤ rankM R R xs p
  rR : rankM R R xs p ≤ R
  det : ∀ e, dtO R R xs = some e → p ∣ e - detM R R xs p
  rk : ∀ s, eoX R R xs = some s → rankM R R xs p ≤ s.ps.length
theorem img_all {r c : Int} {xs : List Int} {p : Int} (h : detMB r c xs p = true) : ∃ R : Nat, r = R ∧ c = R ∧ IMG R xs p := by
  have h0 := h
  unfold detMB at h0
  rw [Bool.and_eq_true] at h0
  obtain ⟨hr, hc⟩ := h0
  have hc := of_decide_eq_true hc
  subst hc
  have K := redOk hr
  have M := K.m
  have h1 := M.r1
  obtain ⟨R, rfl⟩ := nat_of M.r0
  have hlen : xs.length = R * R := by have := M.len; rw [← Int.natCast_mul] at this; omega
  refine ⟨R, rfl, rfl, ?_⟩
  have hok := K.ok
  obtain ⟨pv, H⟩ := runE_mp (R := R) (C := R) K.pr K.f0
  have hs : runE R R p (rmF R xs p) = rmS R R xs p := by unfold rmS; simp only [Int.toNat_natCast]
  rw [hs] at H
  have hmod : ∀ i j, i < R → j < R → p ∣ rmF R xs p i j - cel xs R i j := fun i j hi hj => by
    unfold rmF
    simp only [Int.toNat_natCast]
    rw [cel_nat, cel_nat]
    have hk : i * R + j < xs.length := by rw [hlen]; exact idx_nat hi hj
    have e : (redL xs p).getD (i * R + j) 0 = xs.getD (i * R + j) 0 % p := by simp [redL, List.getD, hk]
    rw [e]; exact dvd_emod _ _
  have hDm := Dt_mod R hmod
  have hd1 : (rmS R R xs p).d ≠ 0 := by
    unfold rmS
    exact colsE_d K.pr _ _ _ ⟨K.f0, Nat.zero_le _, by show (0 : Int) ≤ 1 ∧ (1 : Int) < p; have := K.pb; omega⟩ (by show (1 : Int) ≠ 0; decide)
  have ht : (rmS R R xs p).t ≤ R := by have := hok.t0; simpa using this
  have hdb := hok.d0
  have hrm : rankM R R xs p = ((rmS R R xs p).t : Int) := by unfold rankM; rw [if_pos hr]
  have hdm : detM R R xs p = if ((rmS R R xs p).t : Int) < R then 0 else (rmS R R xs p).d := by unfold detM; rw [if_pos h]
  have hp := K.pb
  refine ⟨hr, by omega, hp.1, hp.2, ?_, ?_, ?_, by rw [hrm]; omega, by rw [hrm]; omega, fun e he => ?_, fun s hs => ?_⟩
  · rw [hdm]; split <;> omega
  · rw [hdm]; split <;> omega
  · rw [hdm, hrm]
    by_cases h2 : ((rmS R R xs p).t : Int) < R
    · rw [if_pos h2, decide_eq_true h2]; rfl
    · rw [if_neg h2, decide_eq_false h2]; simpa using hd1
  · have he2 : e = Dt R (fun i j => cel xs R i j) := by
      unfold dtO at he
      split at he
      · simp only [Int.toNat_natCast] at he
        exact detL_Dt R xs e hlen he
      · cases he
    rw [he2, hdm]
    by_cases h2 : ((rmS R R xs p).t : Int) < R
    · rw [if_pos h2, Int.sub_zero]
      have h3 := H.img.1 (by omega)
      have := Int.dvd_sub h3 hDm
      rwa [show Dt R (rmF R xs p) - (Dt R (rmF R xs p) - Dt R (fun i j => cel xs R i j)) = Dt R (fun i j => cel xs R i j) by omega] at this
    · rw [if_neg h2]
      have h3 := H.img.2 (by omega)
      have := Int.dvd_sub h3 hDm
      rwa [show Dt R (rmF R xs p) - (rmS R R xs p).d - (Dt R (rmF R xs p) - Dt R (fun i j => cel xs R i j)) = Dt R (fun i j => cel xs R i j) - (rmS R R xs p).d by omega] at this
  · rw [hrm]
    have := H.rank hp.1 hmod (eo_rk hs).1
    omega
end Go.Proofs.Ytacjonkehcamgaa

/-
  DERIVED. What is drawn for images modulo a prime: l8Square, DrawDeterminantMod.
-/
namespace Go.Proofs.Ytacjonkehcamgaa
open Go.RowKit
set_option linter.unusedVariables false
set_option linter.unusedSimpArgs false
/-- The call drew a matrix and a number. -/
def DMP (wo : World) (e : Ending) (w' : World) : Prop := ∃ (r c : Int) (Am : Option Addr) (nm cm : Nat) (ys : List Int) (p : Int), e = .returned (.tuple #[.agg #[.int .i64 r, .int .i64 c, .slice Am nm cm], .int .i64 p]) ∧ OR w' wo.heap.size (.slice Am nm cm) ys ∧ ys.length ≤ 17 ∧ (-1 ≤ p ∧ p ≤ 20000) ∧ (-1 ≤ r ∧ r ≤ 12) ∧ Below wo.heap.size wo w'
theorem RB.moreI {w : World} {B B' n : Nat} {A : Option Addr} {xs : List Int} (h : RB w B A n xs) (hB : B ≤ B') : RB w B' A n xs :=
  ⟨h.1, fun hn => by
    obtain ⟨b, o, e, hb, hc⟩ := h.2.1 hn
    exact ⟨b, o, e, by omega, hc⟩, h.2.2⟩
set_option maxRecDepth 100000 in
set_option maxHeartbeats 8000000 in
theorem spec_l8Square (n cap : Nat) (A : Option Addr) (xs : List Int) (wo : World) (hby : RB wo wo.heap.size A n xs) (hn : n ≤ 2000000) :
    Calls Try.prog 176 #[.slice A n cap] wo (DMP wo) := by
  have HBY := Lib.hid hby
  clear hby
  go_enter Try.func176, Try.ntmps176
  go_wp2_with fail
  refine (spec_l1New n cap A xs _ (B := wo.heap.size) (by (with_reducible (repeat (first | exact HBY.out | refine RB.drew ?_ | refine RB.drewN ?_ _ | refine RB.alloc ?_ Ks _ | refine RB.setCell ?_ Ks _ | refine RB.below ?_ (by assumption) Ks)))) hn).mono ?_
  rintro e w ⟨b, rfl, hcu, hbs, hb2⟩
  have hsz2 := hb2.size
  simp at hsz2 hbs
  have hct : CT w w wo.heap.size b n cap A xs := CT.new hcu (by (with_reducible (repeat (first | exact HBY.out | refine RB.drew ?_ | refine RB.drewN ?_ _ | refine RB.alloc ?_ Ks _ | refine RB.setCell ?_ Ks _ | refine RB.below ?_ (by assumption) Ks)))) (by omega) hn
  have HB0 : Hid (Below wo.heap.size wo w) := Lib.hid Kw
  have hR0 : BM w wo.heap.size 0 0 none 0 0 := Ka
  have hb := hct.hb
  clear hb2 hcu
  go_wp2_with fail
  refine (spec_l3Square b n cap A xs _ (CT.self (w0 := w) (B := wo.heap.size) (by (with_reducible (repeat (first | exact hct | refine CT.drew ?_ | refine CT.drewN ?_ _ | refine CT.alloc ?_ _ | refine CT.far ?_ Ks _ | refine CT.below ?_ (by assumption) Ks)))))).mono ?_
  rintro e w1 ⟨v, rfl, ⟨r, c, Am, nm, cm, ys, rfl, ho1, hl1, hr1, hc1⟩, hct1⟩
  have hsz1 := hct1.size
  have hR1 : BM w1 wo.heap.size 0 0 none 0 0 := hR0.grown hct1.gr (by simp; omega)
  clear hct hR0
  have hct := hct1
  clear hct1
  go_wp2_with fail
  refine (spec_l8Prime b n cap A xs _ (CT.self (w0 := w) (B := wo.heap.size) (by (with_reducible (repeat (first | exact hct | refine CT.drew ?_ | refine CT.drewN ?_ _ | refine CT.alloc ?_ _ | refine CT.far ?_ Ks _ | refine CT.below ?_ (by assumption) Ks)))))).mono ?_
  rintro e w2 ⟨v, rfl, ⟨p, rfl, hp1, hp2⟩, hcp⟩
  have hsz3 := hcp.size
  (try simp at hsz3)
  have hR : BM w2 wo.heap.size 0 0 none 0 0 := hR1.grown hcp.gr (by simp; omega)
  have hct2 : CT w w2 wo.heap.size b n cap A xs := CT.trans (by (with_reducible (repeat (first | exact hct | refine CT.drew ?_ | refine CT.drewN ?_ _ | refine CT.alloc ?_ _ | refine CT.far ?_ Ks _ | refine CT.below ?_ (by assumption) Ks)))) hcp
  have ho2 : OR w2 w.heap.size (.slice Am nm cm) ys := OR.turned (Ko ho1) hcp (by omega)
  have ho3 : OR w2 (wo.heap.size + 1) (.slice Am nm cm) ys := OR.mono (xs := ys) ho2 (by omega)
  have hbw : Below wo.heap.size wo w2 := HB0.out.trans (CT.under hct2 (by omega))
  have hvr := B3.of hR
  obtain ⟨ra, rb, rc, rf, rl⟩ := hR.mx
  clear ho1 ho2 hct hct2 hcp hR1
  go_wp2_with fail
  refine ret_MB (b := wo.heap.size) (r := r) (c := c) (A := Am) (n := nm) (cap := cm) Try.results176 rfl (by first | exact BX.put hvr | (with_reducible (repeat (first | exact hvr | refine BX.n_ | refine BX.b_ ?_ | apply BX.drew | apply BX.drewN | refine BX.put ?_ | refine BX.put2 ?_ | refine BX.f_ ?_ | apply BX.alloc | refine B3.n_ | exact B3.of hvr | refine B3.b_ ?_ | apply B3.drew | apply B3.drewN | refine B3.f_ ?_ | apply B3.alloc)))) rfl ?_
  exact ⟨r, c, Am, nm, cm, ys, p, rfl, OR.mono (B := wo.heap.size + 1) (Ko ho3) (by omega), hl1, ⟨hp1, hp2⟩, by omega, Kw⟩
set_option maxRecDepth 100000 in
set_option maxHeartbeats 4000000 in
theorem spec_DrawDeterminantMod (n cap : Nat) (A : Option Addr) (xs : List Int) (wo : World) (hby : RB wo wo.heap.size A n xs) (hn : n ≤ 2000000) :
    Calls Try.prog 82 #[.slice A n cap] wo (DMP wo) := by
  have HBY := Lib.hid hby
  clear hby
  go_enter Try.func82, Try.ntmps82
  go_wp2_with fail
  refine (spec_l8Square n cap A xs _ (RB.moreI (B := wo.heap.size) (by (with_reducible (repeat (first | exact HBY.out | refine RB.drew ?_ | refine RB.drewN ?_ _ | refine RB.alloc ?_ Ks _ | refine RB.setCell ?_ Ks _ | refine RB.below ?_ (by assumption) Ks)))) (by simp)) hn).mono ?_
  rintro e w1 ⟨r, c, Am, nm, cm, ys, p, rfl, ho1, hl1, hp, hr, hb1⟩
  have hsz1 := hb1.size
  simp at hsz1
  have hR : BM w1 wo.heap.size 0 0 none 0 0 := Ka
  have hbw : Below wo.heap.size wo w1 := Kw
  have k1 : OR w1 (wo.heap.size + 1) (.slice Am nm cm) ys := OR.mono (xs := ys) ho1 (by simp)
  have hvr := B3.of hR
  obtain ⟨ra, rb, rc, rf, rl⟩ := hR.mx
  clear ho1 hb1
  go_wp2_with fail
  refine ret_MB (b := wo.heap.size) (r := r) (c := c) (A := Am) (n := nm) (cap := cm) Try.results82 rfl (by first | exact BX.put hvr | (with_reducible (repeat (first | exact hvr | refine BX.n_ | refine BX.b_ ?_ | apply BX.drew | apply BX.drewN | refine BX.put ?_ | refine BX.put2 ?_ | refine BX.f_ ?_ | apply BX.alloc | refine B3.n_ | exact B3.of hvr | refine B3.b_ ?_ | apply B3.drew | apply B3.drewN | refine B3.f_ ?_ | apply B3.alloc)))) rfl ?_
  exact ⟨r, c, Am, nm, cm, ys, p, rfl, OR.mono (B := wo.heap.size + 1) (Ko k1) (by omega), hl1, hp, hr, Kw⟩
end Go.Proofs.Ytacjonkehcamgaa

/-
  DERIVED. The law FnImages: determinants and ranks modulo a prime are images.
-/
namespace Go.Proofs.Ytacjonkehcamgaa
open Go.RowKit
set_option linter.unusedVariables false
set_option linter.unusedSimpArgs false
theorem tmod_zero {e d p : Int} (h : p ∣ e - d) : (e - d).tmod p = 0 := Int.tmod_eq_zero_of_dvd h
set_option maxRecDepth 100000 in
set_option maxHeartbeats 8000000 in
theorem law_FnImages (w : World) (A : Option Addr) (n cap : Nat) (xs : List Int) (hnc : n ≤ cap) (hcm : cap ≤ maxLen) (hby : RB w w.heap.size A n xs) :
    Calls Try.prog 12 #[.slice A n cap] w fun e w' => e = .returned (.bool true) ∧ Below w.heap.size w w' := by
  by_cases hn : 1048576 < n
  · go_enter Try.func12, Try.ntmps12
    go_wp2_with (go_at_call 15; refine (laws_big A n cap _).mono ?_; rintro e w1 ⟨rfl, rfl⟩)
    go_ret
    exact ⟨rfl, Below.refl _ _⟩
  · go_enter Try.func12, Try.ntmps12
    go_wp2_with (go_at_call 15; refine (laws_big A n cap _).mono ?_; rintro e w1 ⟨rfl, rfl⟩)
    refine (spec_DrawDeterminantMod n cap A xs _ hby (by omega)).mono ?_
    rintro e w1 ⟨r, c, A1, n1, c1, ys, p, rfl, ho1, hl1, ⟨hp1, hp2⟩, hr1, hbw0⟩
    have hsz := hbw0.size
    have e1 := ho1.lenEq
    have H1 : Hid (RI (w1.alloc (.cells #[.int .i64 r, .int .i64 c, .slice A1 n1 c1] 26)) (w1.alloc (.cells #[.int .i64 r, .int .i64 c, .slice A1 n1 c1] 26)).heap.size A1 n1 ys) := Lib.hid ((ho1.alloc _).reads)
    have hM : BM (w1.alloc (.cells #[.int .i64 r, .int .i64 c, .slice A1 n1 c1] 26)) w1.heap.size r c A1 n1 c1 := Ka
    have n1x : n1 ≤ 17 := by omega
    have HB0 : Hid (Below w.heap.size w (w1.alloc (.cells #[.int .i64 r, .int .i64 c, .slice A1 n1 c1] 26))) := Lib.hid (hbw0.alloc hsz _)
    clear hbw0 ho1 hby e1
    obtain ⟨ma, mb, mc, mf, ml⟩ := hM.mx
    go_wp2_with fail
    generalize (w1.alloc (.cells #[.int .i64 r, .int .i64 c, .slice A1 n1 c1] 26)) = w0 at *
    generalize w1.heap.size = bM at *
    have hbw : Below w0.heap.size w0 w0 := Below.refl _ _
    have hs0 : w.heap.size ≤ w0.heap.size := by have := HB0.out.size; omega
    have hlM := hM.lt
    clear hsz
    rcases hi : detMB r c ys p with _ | _
    · have HI := Lib.hid hi
      have HD := Lib.hid (detM_no hi)
      clear hi
      refine (impl_DeterminantMod r c p A1 n1 c1 ys _ (B := w0.heap.size) (Kr H1.out) Ks (by omega)).mono ?_
      rw [HI.out, HD.out]
      rintro e w2 ⟨rfl, hb2⟩
      have hszw2 := hb2.size; (try simp at hszw2); have hM_1 : BM w2 bM (r) (c) A1 n1 c1 := (Kb hM); have H1_1 : Hid (RI w2 w0.heap.size A1 n1 ys) := Lib.hid (Kr H1.out); have hbw_1 : Below w0.heap.size w0 w2 := Kw; clear hM hbw H1 ma mb mc mf ml hb2; have hM := hM_1; have H1 := H1_1; have hbw := hbw_1; clear hM_1 H1_1 hbw_1; obtain ⟨ma, mb, mc, mf, ml⟩ := hM.mx
      go_wp2_with fail
      refine (spec_DeterminantMod r c p A1 n1 c1 ys _ (B := w0.heap.size) (Kr H1.out) Ks (by omega)).mono ?_
      rw [HI.out, HD.out]
      rintro e w3 ⟨rfl, hb3⟩
      have hszw3 := hb3.size; (try simp at hszw3); have hM_1 : BM w3 bM (r) (c) A1 n1 c1 := (Kb hM); have H1_1 : Hid (RI w3 w0.heap.size A1 n1 ys) := Lib.hid (Kr H1.out); have hbw_1 : Below w0.heap.size w0 w3 := Kw; clear hM hbw H1 ma mb mc mf ml hb3; have hM := hM_1; have H1 := H1_1; have hbw := hbw_1; clear hM_1 H1_1 hbw_1; obtain ⟨ma, mb, mc, mf, ml⟩ := hM.mx
      go_wp2_with fail
      go_ret
      exact ⟨rfl, HB0.out.trans (Below.mono (B := w0.heap.size) Kw hs0)⟩
    · obtain ⟨R, rfl, rfl, G⟩ := img_all hi
      have HI := Lib.hid hi
      have HRD := Lib.hid G.red
      have HDT := Lib.hid G.det
      have HRK := Lib.hid G.rk
      obtain ⟨d, hd⟩ : ∃ d, detM R R ys p = d := ⟨_, rfl⟩
      obtain ⟨k, hk⟩ : ∃ k, rankM R R ys p = k := ⟨_, rfl⟩
      have g1 := G.d0
      have g2 := G.dp
      have g3 := G.dz
      have g4 := G.p2
      have g5 := G.p4
      rw [hd] at g1 g2 g3 HDT
      rw [hk] at g3 HRK
      have HDD := Lib.hid hd
      have HKK := Lib.hid hk
      clear hi G hd hk
      refine (impl_DeterminantMod R R p A1 n1 c1 ys _ (B := w0.heap.size) (Kr H1.out) Ks (by omega)).mono ?_
      rw [HI.out, HDD.out]
      rintro e w2 ⟨rfl, hb2⟩
      have hszw2 := hb2.size; (try simp at hszw2); have hM_1 : BM w2 bM ((R : Int)) ((R : Int)) A1 n1 c1 := (Kb hM); have H1_1 : Hid (RI w2 w0.heap.size A1 n1 ys) := Lib.hid (Kr H1.out); have hbw_1 : Below w0.heap.size w0 w2 := Kw; clear hM hbw H1 ma mb mc mf ml hb2; have hM := hM_1; have H1 := H1_1; have hbw := hbw_1; clear hM_1 H1_1 hbw_1; obtain ⟨ma, mb, mc, mf, ml⟩ := hM.mx
      go_wp2_with fail
      refine (spec_DeterminantMod R R p A1 n1 c1 ys _ (B := w0.heap.size) (Kr H1.out) Ks (by omega)).mono ?_
      rw [HI.out, HDD.out]
      rintro e w3 ⟨rfl, hb3⟩
      have hszw3 := hb3.size; (try simp at hszw3); have hM_1 : BM w3 bM ((R : Int)) ((R : Int)) A1 n1 c1 := (Kb hM); have H1_1 : Hid (RI w3 w0.heap.size A1 n1 ys) := Lib.hid (Kr H1.out); have hbw_1 : Below w0.heap.size w0 w3 := Kw; clear hM hbw H1 ma mb mc mf ml hb3; have hM := hM_1; have H1 := H1_1; have hbw := hbw_1; clear hM_1 H1_1 hbw_1; obtain ⟨ma, mb, mc, mf, ml⟩ := hM.mx
      go_wp2_with fail
      refine (impl_DeterminantOf R R A1 n1 c1 ys _ (B := w0.heap.size) (Kr H1.out) Ks (by omega)).mono ?_
      have hX : (dtO R R ys = none) ∨ ∃ e, dtO R R ys = some e ∧ p ∣ e - d ∧ Num e := by
        rcases hx : dtO R R ys with _ | e
        · exact .inl rfl
        · exact .inr ⟨e, rfl, HDT.out e hx, dtO_num hx⟩
      obtain ⟨X, hXX⟩ : ∃ X, dtO R R ys = X := ⟨_, rfl⟩
      rw [hXX] at hX
      rw [hXX]
      have HX := Lib.hid hX
      clear hXX hX
      rintro e w4 ⟨rfl, hb4⟩
      have hszw4 := hb4.size; (try simp at hszw4); have hM_1 : BM w4 bM ((R : Int)) ((R : Int)) A1 n1 c1 := (Kb hM); have H1_1 : Hid (RI w4 w0.heap.size A1 n1 ys) := Lib.hid (Kr H1.out); have hbw_1 : Below w0.heap.size w0 w4 := Kw; clear hM hbw H1 ma mb mc mf ml hb4; have hM := hM_1; have H1 := H1_1; have hbw := hbw_1; clear hM_1 H1_1 hbw_1; obtain ⟨ma, mb, mc, mf, ml⟩ := hM.mx
      go_wp2_with fail
      refine (impl_RankMod R R p A1 n1 c1 ys _ (B := w0.heap.size) (Kr H1.out) Ks (by omega)).mono ?_
      rw [HRD.out, HKK.out]
      rintro e w5 ⟨rfl, hb5⟩
      have hszw5 := hb5.size; (try simp at hszw5); have hM_1 : BM w5 bM ((R : Int)) ((R : Int)) A1 n1 c1 := (Kb hM); have H1_1 : Hid (RI w5 w0.heap.size A1 n1 ys) := Lib.hid (Kr H1.out); have hbw_1 : Below w0.heap.size w0 w5 := Kw; clear hM hbw H1 ma mb mc mf ml hb5; have hM := hM_1; have H1 := H1_1; have hbw := hbw_1; clear hM_1 H1_1 hbw_1; obtain ⟨ma, mb, mc, mf, ml⟩ := hM.mx
      go_wp2_with fail
      refine (impl_RankOf R R A1 n1 c1 ys _ (B := w0.heap.size) (Kr H1.out) Ks (by omega)).mono ?_
      have hy : (eoX R R ys).isSome = false ∨ k ≤ ((psQ (eoX R R ys)).length : Nat) := by
        rcases hx : eoX R R ys with _ | s
        · exact .inl rfl
        · exact .inr (HRK.out s hx)
      obtain ⟨b4, hb4_⟩ : ∃ q, (eoX R R ys).isSome = q := ⟨_, rfl⟩
      obtain ⟨l4, hl4⟩ : ∃ q, (psQ (eoX R R ys)).length = q := ⟨_, rfl⟩
      rw [hb4_, hl4] at hy
      rw [hb4_, hl4]
      have HY := Lib.hid hy
      clear hb4_ hl4 hy
      rintro e w6 ⟨rfl, hb6⟩
      have hszw6 := hb6.size; (try simp at hszw6); have hM_1 : BM w6 bM ((R : Int)) ((R : Int)) A1 n1 c1 := (Kb hM); have H1_1 : Hid (RI w6 w0.heap.size A1 n1 ys) := Lib.hid (Kr H1.out); have hbw_1 : Below w0.heap.size w0 w6 := Kw; clear hM hbw H1 ma mb mc mf ml hb6; have hM := hM_1; have H1 := H1_1; have hbw := hbw_1; clear hM_1 H1_1 hbw_1; obtain ⟨ma, mb, mc, mf, ml⟩ := hM.mx
      have hp0 : ¬ p = 0 := by omega
      have t1 : decide (d ≥ 0) = true := decide_eq_true (by omega)
      have t2 : decide (d < p) = true := decide_eq_true (by omega)
      rcases HX.out with hx | ⟨e0, hx, hdv, hne⟩
      · subst hx
        rcases HY.out with h4 | h4
        · subst h4
          go_wp2_with fail
          go_ret
          exact ⟨rfl, HB0.out.trans (Below.mono (B := w0.heap.size) Kw hs0)⟩
        · have t4 : decide (k ≤ (l4 : Int)) = true := decide_eq_true h4
          rcases b4 with _ | _
          all_goals
            go_wp2_with fail
            go_ret
            exact ⟨rfl, HB0.out.trans (Below.mono (B := w0.heap.size) Kw hs0)⟩
      · subst hx
        obtain ⟨hn1, hn2⟩ := hne
        have t5 : ((e0 - d).tmod p == 0) = true := by rw [tmod_zero hdv]; rfl
        have t6 : IntKind.i64.wrap (e0 - d) = e0 - d := IntWalk.i64_in _ (by omega)
        clear hdv
        rcases HY.out with h4 | h4
        · subst h4
          go_wp2_with fail
          go_ret
          exact ⟨rfl, HB0.out.trans (Below.mono (B := w0.heap.size) Kw hs0)⟩
        · have t4 : decide (k ≤ (l4 : Int)) = true := decide_eq_true h4
          rcases b4 with _ | _
          all_goals
            go_wp2_with fail
            go_ret
            exact ⟨rfl, HB0.out.trans (Below.mono (B := w0.heap.size) Kw hs0)⟩
end Go.Proofs.Ytacjonkehcamgaa

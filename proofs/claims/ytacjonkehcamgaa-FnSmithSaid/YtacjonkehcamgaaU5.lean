/-
  DERIVED. Several small texts in one: PlDl, DrA, Cho, Det, DetS, MulS, ChoI, ChoS, MinP, Uni, MinS, MulS2, Times, Fac, PlMi, PlMg, PlSL, Prod.
-/
import Derived.Test.YtacjonkehcamgaaU2
import Derived.Test.YtacjonkehcamgaaDetWs
import Derived.Test.YtacjonkehcamgaaDrMs
import Derived.Deep.LoopGhost
import Derived.Test.YtacjonkehcamgaaU1
import Derived.Test.YtacjonkehcamgaaMuls
import Derived.Test.YtacjonkehcamgaaU3
import Derived.Test.YtacjonkehcamgaaU4
/-
  DERIVED. The determinant by its first row, as a list, is that of the matrix: no program in sight.
-/
namespace Go.Proofs.Ytacjonkehcamgaa
set_option linter.unusedVariables false
theorem tab_succ (n : Nat) (f : Nat → Int) : tab (n + 1) f = tab n f ++ [f n] := by
  unfold tab
  rw [List.range_succ, List.map_append]
  rfl
def wcG (xs : List Int) (C j : Nat) (q : Nat) : Int := cel xs C ((q / (C - 1) + 1 : Nat) : Int) (sk j (q % (C - 1)) : Nat)
def wcN (j k : Nat) : Nat := k - (if j < k then 1 else 0)
theorem wcK_tab_row {xs : List Int} {C j i : Nat} (hj : j < C) (hi : 1 ≤ i) (h0 : wcK xs C j (i * C) = tab ((i - 1) * (C - 1)) (wcG xs C j)) : ∀ k, k ≤ C → wcK xs C j (i * C + k) = tab ((i - 1) * (C - 1) + wcN j k) (wcG xs C j)
  | 0, _ => by
    have : wcN j 0 = 0 := by unfold wcN; omega
    rw [this, Nat.add_zero, Nat.add_zero]; exact h0
  | k + 1, hk => by
    have ih := wcK_tab_row hj hi h0 k (by omega)
    by_cases hc : k = j
    · have : wcN j (k + 1) = wcN j k := by unfold wcN; subst hc; rw [if_pos (by omega), if_neg (by omega)]; omega
      rw [wcK_no (by omega) (.inr hc), ih, this]
    · have e1 : wcN j (k + 1) = wcN j k + 1 := by unfold wcN; repeat' split
                                                  all_goals omega
      have e2 : wcN j k < C - 1 := by unfold wcN; split <;> omega
      have e3 : sk j (wcN j k) = k := by unfold sk wcN; repeat' split
                                         all_goals omega
      rw [wcK_yes (by omega) (by omega) hc, ih, e1, ← Nat.add_assoc, tab_succ]
      congr 2
      unfold wcG
      rw [(idx_div e2).1, (idx_div e2).2, e3, Nat.sub_add_cancel hi, cel_nat]
theorem wcK_tab {xs : List Int} {C j : Nat} (hj : j < C) : ∀ i, 1 ≤ i → wcK xs C j (i * C) = tab ((i - 1) * (C - 1)) (wcG xs C j)
  | 0, h => absurd h (by omega)
  | 1, _ => by
    have := wcK_len (xs := xs) hj 1
    rw [Nat.sub_self, Nat.zero_mul] at this ⊢
    exact List.length_eq_zero_iff.1 this
  | i + 2, _ => by
    have ih := wcK_tab (xs := xs) hj (i + 1) (by omega)
    have h := wcK_tab_row hj (by omega) ih C (Nat.le_refl _)
    have e : (i + 2) * C = (i + 1) * C + C := by rw [show i + 2 = (i + 1) + 1 by omega, Nat.add_mul (i + 1) 1 C, Nat.one_mul]
    have e2 : wcN j C = C - 1 := by unfold wcN; rw [if_pos hj]
    rw [e, h, e2]
    congr 1
    rw [show i + 1 - 1 = i by omega, show i + 2 - 1 = i + 1 by omega, Nat.add_mul, Nat.one_mul]
theorem wc_cel {xs : List Int} {n j a b : Nat} (hj : j < n + 1) (ha : a < n) (hb : b < n) : cel (wcK xs (n + 1) j ((n + 1) * (n + 1))) n a b = mnr (fun i j => cel xs (n + 1 : Nat) i j) j a b := by
  have h := wcK_tab (xs := xs) hj (n + 1) (by omega)
  rw [h, cel_nat, Nat.add_sub_cancel, tab_getD (idx_nat ha hb)]
  unfold wcG
  rw [Nat.add_sub_cancel, (idx_div hb).1, (idx_div hb).2]
  rfl
theorem wc_len {xs : List Int} {n j : Nat} (hj : j < n + 1) : (wcK xs (n + 1) j ((n + 1) * (n + 1))).length = n * n := by
  rw [wcK_len hj (n + 1), Nat.add_sub_cancel]
theorem detS_sum {n : Nat} {D : List Int → Option Int} (hD : ∀ ys d, ys.length = n * n → D ys = some d → d = Dt n (fun i j => cel ys n i j)) {xs : List Int} :
    ∀ j s, j ≤ n + 1 → detS D (n + 1) xs j = some s → s = sumTo (fun k => sg k * cel xs (n + 1 : Nat) (0 : Nat) k * Dt n (mnr (fun i j => cel xs (n + 1 : Nat) i j) k)) j
  | 0, s, _, h => by cases h; rfl
  | j + 1, s, hj, h => by
    have h' : (detS D (n + 1) xs j).bind (fun s => if xs.getD j 0 = 0 then some s else (D (wcK xs (n + 1) j ((n + 1) * (n + 1)))).bind fun d => some (s + (if j % 2 = 1 then -(xs.getD j 0) else xs.getD j 0) * d)) = some s := h
    rcases hs : detS D (n + 1) xs j with _ | s0
    · rw [hs] at h'; cases h'
    · rw [hs] at h'
      have ih := detS_sum hD j s0 (by omega) hs
      have ec : cel xs (n + 1 : Nat) (0 : Nat) j = xs.getD j 0 := by rw [cel_nat, Nat.zero_mul, Nat.zero_add]
      rw [sumTo_succ, ← ih, ec]
      simp only [Option.bind_some] at h'
      by_cases h0 : xs.getD j 0 = 0
      · rw [if_pos h0] at h'
        cases h'
        rw [h0]
        grind
      · rw [if_neg h0] at h'
        rcases hd : D (wcK xs (n + 1) j ((n + 1) * (n + 1))) with _ | d
        · rw [hd] at h'; cases h'
        · rw [hd] at h'
          simp only [Option.bind_some] at h'
          have e := hD _ d (wc_len (by omega)) hd
          have e2 : Dt n (fun a b => cel (wcK xs (n + 1) j ((n + 1) * (n + 1))) n a b) = Dt n (mnr (fun i j => cel xs (n + 1 : Nat) i j) j) := Dt_congr n fun a b ha hb => wc_cel (by omega) ha hb
          rw [e2] at e
          cases h'
          rw [e]
          unfold sg
          split
          · grind
          · grind
/-- The determinant that is found is the determinant. -/
theorem detL_Dt : ∀ (n : Nat) (xs : List Int) (d : Int), xs.length = n * n → detL n xs = some d → d = Dt n (fun i j => cel xs n i j)
  | 0, xs, d, _, h => by cases h; rfl
  | n + 1, xs, d, hl, h => by
    unfold detL at h
    rcases hs : detS (detL n) (n + 1) xs (n + 1) with _ | s
    · rw [hs] at h; cases h
    · rw [hs] at h
      simp only [Option.bind_some] at h
      split at h
      · cases h
        have := detS_sum (fun ys d hy hd => detL_Dt n ys d hy hd) (n + 1) _ (Nat.le_refl _) hs
        rw [this]
        rfl
      · cases h
end Go.Proofs.Ytacjonkehcamgaa

/-
  DERIVED. What is drawn where one matrix is wanted: DrawHermiteForm, DrawEchelonOf, DrawBasisOf, DrawSmithForm.
-/
namespace Go.Proofs.Ytacjonkehcamgaa
open Go.RowKit
set_option linter.unusedVariables false
set_option linter.unusedSimpArgs false
/-- The call drew a matrix, its cells its own. -/
def DMA (wo : World) (e : Ending) (w' : World) : Prop := ∃ (r c : Int) (Am : Option Addr) (nm cm : Nat) (ys : List Int), e = .returned (.agg #[.int .i64 r, .int .i64 c, .slice Am nm cm]) ∧ OR w' wo.heap.size (.slice Am nm cm) ys ∧ ys.length ≤ 17 ∧ (-1 ≤ r ∧ r ≤ 12) ∧ Below wo.heap.size wo w'
set_option maxRecDepth 100000 in
set_option maxHeartbeats 4000000 in
theorem spec_DrawHermiteForm (n cap : Nat) (A : Option Addr) (xs : List Int) (wo : World) (hby : RB wo wo.heap.size A n xs) (hn : n ≤ 2000000) :
    Calls Try.prog 49 #[.slice A n cap] wo (DMA wo) := by
  have HBY := Lib.hid hby
  clear hby
  go_enter Try.func49, Try.ntmps49
  go_wp2_with fail
  refine (spec_l1New n cap A xs _ (B := wo.heap.size) (by (with_reducible (repeat (first | exact HBY.out | refine RB.drew ?_ | refine RB.drewN ?_ _ | refine RB.alloc ?_ Ks _ | refine RB.setCell ?_ Ks _ | refine RB.below ?_ (by assumption) Ks)))) hn).mono ?_
  rintro e w ⟨b, rfl, hcu, hbs, hb2⟩
  have hsz2 := hb2.size
  simp at hsz2 hbs
  have hct : CT w w wo.heap.size b n cap A xs := CT.new hcu (by (with_reducible (repeat (first | exact HBY.out | refine RB.drew ?_ | refine RB.drewN ?_ _ | refine RB.alloc ?_ Ks _ | refine RB.setCell ?_ Ks _ | refine RB.below ?_ (by assumption) Ks)))) (by omega) hn
  have HB0 : Hid (Below wo.heap.size wo w) := Lib.hid Kw
  have hR0 : BM w wo.heap.size 0 0 none 0 0 := Ka
  have hb := hct.hb
  clear hb2 hcu
  go_wp2_with fail
  refine (spec_l3Any b n cap A xs _ (CT.self (w0 := w) (B := wo.heap.size) (by (with_reducible (repeat (first | exact hct | refine CT.drew ?_ | refine CT.drewN ?_ _ | refine CT.alloc ?_ _ | refine CT.far ?_ Ks _ | refine CT.below ?_ (by assumption) Ks)))))).mono ?_
  rintro e w1 ⟨v, rfl, ⟨r, c, Am, nm, cm, ys, rfl, ho1, hl1, hr1, hc1⟩, hct1⟩
  have hsz1 := hct1.size
  have hR : BM w1 wo.heap.size 0 0 none 0 0 := hR0.grown hct1.gr (by simp; omega)
  have hvr := B3.of hR
  have hbw : Below wo.heap.size wo w1 := HB0.out.trans (CT.under hct1 (by omega))
  obtain ⟨ra, rb, rc, rf, rl⟩ := hR.mx
  have ho2 : OR w1 (wo.heap.size + 1) (.slice Am nm cm) ys := OR.mono ho1 (by omega)
  clear ho1 hct hct1
  go_wp2_with fail
  refine ret_M (b := wo.heap.size) Try.results49 rfl (Kb hvr) rfl ?_
  exact ⟨r, c, Am, nm, cm, ys, rfl, OR.mono (B := wo.heap.size + 1) (Ko ho2) (by omega), hl1, by omega, Kw⟩
set_option maxRecDepth 100000 in
set_option maxHeartbeats 4000000 in
theorem spec_DrawEchelonOf (n cap : Nat) (A : Option Addr) (xs : List Int) (wo : World) (hby : RB wo wo.heap.size A n xs) (hn : n ≤ 2000000) :
    Calls Try.prog 77 #[.slice A n cap] wo (DMA wo) := by
  have HBY := Lib.hid hby
  clear hby
  go_enter Try.func77, Try.ntmps77
  go_wp2_with fail
  refine (spec_l1New n cap A xs _ (B := wo.heap.size) (by (with_reducible (repeat (first | exact HBY.out | refine RB.drew ?_ | refine RB.drewN ?_ _ | refine RB.alloc ?_ Ks _ | refine RB.setCell ?_ Ks _ | refine RB.below ?_ (by assumption) Ks)))) hn).mono ?_
  rintro e w ⟨b, rfl, hcu, hbs, hb2⟩
  have hsz2 := hb2.size
  simp at hsz2 hbs
  have hct : CT w w wo.heap.size b n cap A xs := CT.new hcu (by (with_reducible (repeat (first | exact HBY.out | refine RB.drew ?_ | refine RB.drewN ?_ _ | refine RB.alloc ?_ Ks _ | refine RB.setCell ?_ Ks _ | refine RB.below ?_ (by assumption) Ks)))) (by omega) hn
  have HB0 : Hid (Below wo.heap.size wo w) := Lib.hid Kw
  have hR0 : BM w wo.heap.size 0 0 none 0 0 := Ka
  have hb := hct.hb
  clear hb2 hcu
  go_wp2_with fail
  refine (spec_l3Any b n cap A xs _ (CT.self (w0 := w) (B := wo.heap.size) (by (with_reducible (repeat (first | exact hct | refine CT.drew ?_ | refine CT.drewN ?_ _ | refine CT.alloc ?_ _ | refine CT.far ?_ Ks _ | refine CT.below ?_ (by assumption) Ks)))))).mono ?_
  rintro e w1 ⟨v, rfl, ⟨r, c, Am, nm, cm, ys, rfl, ho1, hl1, hr1, hc1⟩, hct1⟩
  have hsz1 := hct1.size
  have hR : BM w1 wo.heap.size 0 0 none 0 0 := hR0.grown hct1.gr (by simp; omega)
  have hvr := B3.of hR
  have hbw : Below wo.heap.size wo w1 := HB0.out.trans (CT.under hct1 (by omega))
  obtain ⟨ra, rb, rc, rf, rl⟩ := hR.mx
  have ho2 : OR w1 (wo.heap.size + 1) (.slice Am nm cm) ys := OR.mono ho1 (by omega)
  clear ho1 hct hct1
  go_wp2_with fail
  refine ret_M (b := wo.heap.size) Try.results77 rfl (Kb hvr) rfl ?_
  exact ⟨r, c, Am, nm, cm, ys, rfl, OR.mono (B := wo.heap.size + 1) (Ko ho2) (by omega), hl1, by omega, Kw⟩
set_option maxRecDepth 100000 in
set_option maxHeartbeats 4000000 in
theorem spec_DrawBasisOf (n cap : Nat) (A : Option Addr) (xs : List Int) (wo : World) (hby : RB wo wo.heap.size A n xs) (hn : n ≤ 2000000) :
    Calls Try.prog 85 #[.slice A n cap] wo (DMA wo) := by
  have HBY := Lib.hid hby
  clear hby
  go_enter Try.func85, Try.ntmps85
  go_wp2_with fail
  refine (spec_l1New n cap A xs _ (B := wo.heap.size) (by (with_reducible (repeat (first | exact HBY.out | refine RB.drew ?_ | refine RB.drewN ?_ _ | refine RB.alloc ?_ Ks _ | refine RB.setCell ?_ Ks _ | refine RB.below ?_ (by assumption) Ks)))) hn).mono ?_
  rintro e w ⟨b, rfl, hcu, hbs, hb2⟩
  have hsz2 := hb2.size
  simp at hsz2 hbs
  have hct : CT w w wo.heap.size b n cap A xs := CT.new hcu (by (with_reducible (repeat (first | exact HBY.out | refine RB.drew ?_ | refine RB.drewN ?_ _ | refine RB.alloc ?_ Ks _ | refine RB.setCell ?_ Ks _ | refine RB.below ?_ (by assumption) Ks)))) (by omega) hn
  have HB0 : Hid (Below wo.heap.size wo w) := Lib.hid Kw
  have hR0 : BM w wo.heap.size 0 0 none 0 0 := Ka
  have hb := hct.hb
  clear hb2 hcu
  go_wp2_with fail
  refine (spec_l3Any b n cap A xs _ (CT.self (w0 := w) (B := wo.heap.size) (by (with_reducible (repeat (first | exact hct | refine CT.drew ?_ | refine CT.drewN ?_ _ | refine CT.alloc ?_ _ | refine CT.far ?_ Ks _ | refine CT.below ?_ (by assumption) Ks)))))).mono ?_
  rintro e w1 ⟨v, rfl, ⟨r, c, Am, nm, cm, ys, rfl, ho1, hl1, hr1, hc1⟩, hct1⟩
  have hsz1 := hct1.size
  have hR : BM w1 wo.heap.size 0 0 none 0 0 := hR0.grown hct1.gr (by simp; omega)
  have hvr := B3.of hR
  have hbw : Below wo.heap.size wo w1 := HB0.out.trans (CT.under hct1 (by omega))
  obtain ⟨ra, rb, rc, rf, rl⟩ := hR.mx
  have ho2 : OR w1 (wo.heap.size + 1) (.slice Am nm cm) ys := OR.mono ho1 (by omega)
  clear ho1 hct hct1
  go_wp2_with fail
  refine ret_M (b := wo.heap.size) Try.results85 rfl (Kb hvr) rfl ?_
  exact ⟨r, c, Am, nm, cm, ys, rfl, OR.mono (B := wo.heap.size + 1) (Ko ho2) (by omega), hl1, by omega, Kw⟩
set_option maxRecDepth 100000 in
set_option maxHeartbeats 4000000 in
theorem spec_DrawSmithForm (n cap : Nat) (A : Option Addr) (xs : List Int) (wo : World) (hby : RB wo wo.heap.size A n xs) (hn : n ≤ 2000000) :
    Calls Try.prog 55 #[.slice A n cap] wo (DMA wo) := by
  have HBY := Lib.hid hby
  clear hby
  go_enter Try.func55, Try.ntmps55
  go_wp2_with fail
  refine (spec_l1New n cap A xs _ (B := wo.heap.size) (by (with_reducible (repeat (first | exact HBY.out | refine RB.drew ?_ | refine RB.drewN ?_ _ | refine RB.alloc ?_ Ks _ | refine RB.setCell ?_ Ks _ | refine RB.below ?_ (by assumption) Ks)))) hn).mono ?_
  rintro e w ⟨b, rfl, hcu, hbs, hb2⟩
  have hsz2 := hb2.size
  simp at hsz2 hbs
  have hct : CT w w wo.heap.size b n cap A xs := CT.new hcu (by (with_reducible (repeat (first | exact HBY.out | refine RB.drew ?_ | refine RB.drewN ?_ _ | refine RB.alloc ?_ Ks _ | refine RB.setCell ?_ Ks _ | refine RB.below ?_ (by assumption) Ks)))) (by omega) hn
  have HB0 : Hid (Below wo.heap.size wo w) := Lib.hid Kw
  have hR0 : BM w wo.heap.size 0 0 none 0 0 := Ka
  have hb := hct.hb
  clear hb2 hcu
  go_wp2_with fail
  refine (spec_l3Any b n cap A xs _ (CT.self (w0 := w) (B := wo.heap.size) (by (with_reducible (repeat (first | exact hct | refine CT.drew ?_ | refine CT.drewN ?_ _ | refine CT.alloc ?_ _ | refine CT.far ?_ Ks _ | refine CT.below ?_ (by assumption) Ks)))))).mono ?_
  rintro e w1 ⟨v, rfl, ⟨r, c, Am, nm, cm, ys, rfl, ho1, hl1, hr1, hc1⟩, hct1⟩
  have hsz1 := hct1.size
  have hR : BM w1 wo.heap.size 0 0 none 0 0 := hR0.grown hct1.gr (by simp; omega)
  have hvr := B3.of hR
  have hbw : Below wo.heap.size wo w1 := HB0.out.trans (CT.under hct1 (by omega))
  obtain ⟨ra, rb, rc, rf, rl⟩ := hR.mx
  have ho2 : OR w1 (wo.heap.size + 1) (.slice Am nm cm) ys := OR.mono ho1 (by omega)
  clear ho1 hct hct1
  go_wp2_with fail
  refine ret_M (b := wo.heap.size) Try.results55 rfl (Kb hvr) rfl ?_
  exact ⟨r, c, Am, nm, cm, ys, rfl, OR.mono (B := wo.heap.size + 1) (Ko ho2) (by omega), hl1, by omega, Kw⟩
end Go.Proofs.Ytacjonkehcamgaa

/-
  DERIVED. Choices of k of n indices as a list of lists; lists of slices, each in a block that is not the list's own; choices of the program.
-/
namespace Go.Proofs.Ytacjonkehcamgaa
open Go.RowKit
set_option linter.unusedVariables false
set_option linter.unusedSimpArgs false
def frm (c : List Int) : Int := if c.length = 0 then 0 else c.getD (c.length - 1) 0 + 1
def extF (n : Int) (c : List Int) : Nat → Int → List (List Int)
  | 0, _ => []
  | m + 1, i => if i < n then (c ++ [i]) :: extF n c m (i + 1) else []
def extL (n : Int) (c : List Int) (i : Int) : List (List Int) := extF n c (n - i).toNat i
theorem extL_yes {n : Int} {c : List Int} {i : Int} (h : i < n) : extL n c i = (c ++ [i]) :: extL n c (i + 1) := by
  unfold extL
  obtain ⟨m, hm⟩ : ∃ m, (n - i).toNat = m + 1 := ⟨(n - i).toNat - 1, by omega⟩
  rw [hm, show (n - (i + 1)).toNat = m by omega]
  show (if _ then _ else _) = _
  rw [if_pos h]
theorem extL_no {n : Int} {c : List Int} {i : Int} (h : ¬ i < n) : extL n c i = [] := by
  unfold extL
  rw [show (n - i).toNat = 0 by omega]
  rfl
theorem extF_len (n : Int) (c : List Int) : ∀ m i, (extF n c m i).length ≤ m
  | 0, _ => Nat.le_refl _
  | m + 1, i => by
    show (if _ then _ else _ : List (List Int)).length ≤ _
    split
    · have := extF_len n c m (i + 1); simp; omega
    · exact Nat.zero_le _
theorem extF_mem {n : Int} {c r : List Int} : ∀ m i, r ∈ extF n c m i → ∃ j, i ≤ j ∧ j < n ∧ r = c ++ [j]
  | 0, _, h => by cases h
  | m + 1, i, h => by
    have h' : r ∈ (if i < n then (c ++ [i]) :: extF n c m (i + 1) else []) := h
    split at h'
    · rename_i hi
      rcases List.mem_cons.1 h' with e | e
      · exact ⟨i, Int.le_refl _, hi, e⟩
      · obtain ⟨j, h1, h2, h3⟩ := extF_mem m (i + 1) e
        exact ⟨j, by omega, h2, h3⟩
    · cases h'
def chL (n : Int) : Nat → List (List Int)
  | 0 => [[]]
  | k + 1 => (chL n k).flatMap fun c => extL n c (frm c)
theorem frm_bd {n : Int} {c : List Int} (h : ∀ x ∈ c, 0 ≤ x ∧ x < n) (hn : 0 ≤ n) : 0 ≤ frm c ∧ frm c ≤ n := by
  unfold frm
  split
  · omega
  · rename_i h0
    have hm : c.getD (c.length - 1) 0 ∈ c := by
      have hlt : c.length - 1 < c.length := by omega
      simp [List.getD, hlt]
    have := h _ hm
    omega
theorem chL_mem {n : Int} (hn : 0 ≤ n) : ∀ k, ∀ c ∈ chL n k, c.length = k ∧ ∀ x ∈ c, 0 ≤ x ∧ x < n
  | 0, c, h => by
    have : c = [] := by simpa [chL] using h
    subst this
    exact ⟨rfl, fun x hx => by cases hx⟩
  | k + 1, c, h => by
    obtain ⟨d, hd, hc⟩ := List.mem_flatMap.1 h
    obtain ⟨h1, h2⟩ := chL_mem hn k d hd
    have hb := frm_bd h2 hn
    obtain ⟨j, h3, h4, rfl⟩ := extF_mem _ _ hc
    refine ⟨by simp [h1], fun x hx => ?_⟩
    rcases List.mem_append.1 hx with hx | hx
    · exact h2 x hx
    · have : x = j := by simpa using hx
      subst this
      omega
theorem flat_len_le {l : List (List Int)} {f : List Int → List (List Int)} {N : Nat} (h : ∀ c ∈ l, (f c).length ≤ N) : (l.flatMap f).length ≤ l.length * N := by
  induction l with
  | nil => simp
  | cons c l ih =>
    rw [List.flatMap_cons, List.length_append, List.length_cons, Nat.add_mul, Nat.one_mul]
    have h1 := h c (by simp)
    have h2 := ih (fun d hd => h d (by simp [hd]))
    omega
theorem chL_len {n : Nat} (hn : n ≤ 6) : ∀ k, (chL (n : Int) k).length ≤ 6 ^ k
  | 0 => by simp [chL]
  | k + 1 => by
    have h1 := chL_len hn k
    have h2 : ((chL (n : Int) k).flatMap fun c => extL n c (frm c)).length ≤ (chL (n : Int) k).length * 6 := flat_len_le fun c hc => by
      have hb := frm_bd (chL_mem (Int.natCast_nonneg n) k c hc).2 (Int.natCast_nonneg n)
      have := extF_len n c (n - frm c).toNat (frm c)
      unfold extL
      omega
    show ((chL (n : Int) k).flatMap fun c => extL n c (frm c)).length ≤ _
    rw [Nat.pow_succ]
    omega
/-- From block B on, the slice value v owns just these slice values. -/
def OT (w : World) (B : Nat) (v : Value) (vs : List Value) : Prop := w.ownsRow B 24 1 v vs.length vs
/-- These slice values read as these rows; each that holds something lies in a block from B on that is not v's own. -/
def Rwx (w : World) (B : Nat) (v : Value) (vs : List Value) (rs : List (List Int)) : Prop :=
  vs.length = rs.length ∧ ∀ k, k < rs.length → ∃ A m c, vs[k]? = some (.slice A m c) ∧ RI w w.heap.size A m (rs.getD k []) ∧ (0 < m → ∀ b o, A = some ⟨b, o, none⟩ → B ≤ b ∧ v.ownBlock ≠ some b)
section
variable {w w' : World} {B : Nat} {v v' : Value} {vs : List Value} {rs : List (List Int)}
theorem OT.kept {row : Option Nat} (h : OT w B v vs) (hg : w.grownBy w' row) (hne : v.ownBlock = none ∨ v.ownBlock ≠ row) : OT w' B v vs := World.ownsRow.kept h hg hne
theorem OT.alloc (h : OT w B v vs) (o : Obj) : OT (w.alloc o) B v vs := World.ownsRow.alloc h o
theorem OT.below {C : Nat} (h : OT w B v vs) (hb : Below C w w') (hC : w.heap.size ≤ C) : OT w' B v vs :=
  h.kept (row := none) ⟨hb.os, hb.tape, hb.output, hb.size, fun k hk _ => hb.block k (by omega)⟩ (by cases v.ownBlock <;> simp)
theorem OT.form (h : OT w B v vs) : (v = .slice none 0 0 ∧ vs = []) ∨ ∃ g cap, v = .slice (some ⟨g, 0, none⟩) vs.length cap ∧ B ≤ g ∧ g < w.heap.size ∧ vs.length ≤ cap ∧ cap ≤ maxLen := by
  rcases h.2 with ⟨h1, h2⟩ | ⟨g, cap, cur, h1, h2, h3, h4, h5, _⟩
  · exact .inl ⟨h1, List.eq_nil_of_length_eq_zero h2⟩
  · refine .inr ⟨g, cap, h1, h2, ?_, h4, h5⟩
    rcases Nat.lt_or_ge g w.heap.size with hlt | hge
    · exact hlt
    · rw [Array.getElem?_eq_none hge] at h3; cases h3
theorem OT.own (h : OT w B v vs) : Own v B w.heap.size := by
  intro g hg
  rcases h.form with ⟨h1, h2⟩ | ⟨g', cap', h1, h2, h3, _⟩
  · subst h1; cases hg
  · subst h1
    have e : g' = g := by simpa [Value.ownBlock] using hg
    subst e; exact ⟨h2, h3⟩
theorem OT.cell {g n cap : Nat} (h : OT w B (.slice (some ⟨g, 0, none⟩) n cap) vs) (k : Nat) (hk : k < vs.length) : w.cell? ⟨g, k, none⟩ = vs[k]? := by
  have hn : n = vs.length := by
    rcases h.2 with ⟨h1, _⟩ | ⟨g', cap', cur, h1, _⟩
    · cases h1
    · injection h1
  subst hn
  exact World.ownsRow.cellAt h k (by omega)
theorem OT.empty (w : World) (g : Nat) (hg : g = w.heap.size) {B : Nat} (hB : B ≤ w.heap.size) : OT (w.alloc (.cells #[] 24)) B (.slice (some ⟨g, 0, none⟩) 0 0) [] := by
  subst hg
  exact ⟨rfl, .inr ⟨w.heap.size, 0, #[], rfl, hB, heap_alloc_new w _, Nat.le_refl _, Nat.zero_le _, rfl, rfl⟩⟩
theorem OT.one (w : World) (y : Value) (g : Nat) (hg : g = w.heap.size) {B : Nat} (hB : B ≤ w.heap.size) : OT (w.alloc (.cells #[y] 24)) B (.slice (some ⟨g, 0, none⟩) 1 1) [y] := by
  subst hg
  exact ⟨rfl, .inr ⟨w.heap.size, 1, #[y], rfl, hB, heap_alloc_new w _, Nat.le_refl _, by unfold maxLen; omega, rfl, rfl⟩⟩
theorem OT.shape (h : OT w B v vs) : ∃ A c, v = .slice A vs.length c := by
  rcases h.form with ⟨h1, h2⟩ | ⟨g, cap, h1, _⟩
  · subst h2; exact ⟨none, 0, h1⟩
  · exact ⟨_, _, h1⟩
theorem Rwx.nil_ (w : World) (B : Nat) (v : Value) : Rwx w B v [] [] := ⟨rfl, fun k h => absurd h (Nat.not_lt_zero _)⟩
theorem Rwx.below {D : Nat} (h : Rwx w B v vs rs) (hb : Below D w w') (hD : w.heap.size ≤ D) : Rwx w' B v vs rs :=
  ⟨h.1, fun k hk => by
    obtain ⟨A, m, c, e, hr, hx⟩ := h.2 k hk
    exact ⟨A, m, c, e, (hr.below hb hD).more hb.size, hx⟩⟩
theorem Rwx.grown (h : Rwx w B v vs rs) (hg : w.grownBy w' v.ownBlock) (hat : v'.ownBlock = v.ownBlock ∨ v'.ownBlock = some w.heap.size) : Rwx w' B v' vs rs :=
  ⟨h.1, fun k hk => by
    obtain ⟨A, m, c, e, hr, hx⟩ := h.2 k hk
    refine ⟨A, m, c, e, ⟨hr.1, fun hm => ?_⟩, fun hm b o hA => ?_⟩
    · obtain ⟨b, o, hA, hb, hc⟩ := hr.2 hm
      have hne := (hx hm b o hA).2
      refine ⟨b, o, hA, by have := hg.size; omega, fun q hq => ?_⟩
      rw [World.cell?_of_block (hg.block b hb (fun e => hne e.symm))]
      exact hc q hq
    · obtain ⟨b', o', hA', hb, hc⟩ := hr.2 hm
      have e2 : b' = b := by rw [hA] at hA'; injection hA' with e3; injection e3 with e4; exact e4.symm
      subst e2
      obtain ⟨h1, h2⟩ := hx hm b' o hA
      refine ⟨h1, ?_⟩
      rcases hat with e | e
      · rw [e]; exact h2
      · rw [e]; intro e3; injection e3 with e3; omega⟩
theorem Rwx.snoc {A : Option Addr} {m c : Nat} {r : List Int} (h : Rwx w B v vs rs) (hr : RI w w.heap.size A m r) (hx : 0 < m → ∀ b o, A = some ⟨b, o, none⟩ → B ≤ b ∧ v.ownBlock ≠ some b) : Rwx w B v (vs ++ [.slice A m c]) (rs ++ [r]) := by
  refine ⟨by simp [h.1], fun k hk => ?_⟩
  have hl := h.1
  simp at hk
  by_cases hlt : k < rs.length
  · obtain ⟨A', m', c', e, hr', hx'⟩ := h.2 k hlt
    refine ⟨A', m', c', ?_, ?_, hx'⟩
    · rw [List.getElem?_append_left (by omega)]; exact e
    · rw [List.getD, List.getElem?_append_left hlt]; exact hr'
  · obtain rfl : k = rs.length := by omega
    refine ⟨A, m, c, ?_, ?_, hx⟩
    · rw [← hl]; simp
    · simpa using hr
end
theorem sl_infoT : (Try.prog.info? 24).map (fun i => (i.zero, i.size, i.bytes)) = some (some (.slice none 0 0), 1, 24) := by kernel_rfl
section
variable (w : World)
set_option maxRecDepth 100000 in
theorem wpList_append_slT {ops : Array Oper} {rest : List Oper} {o : Oper} {a : Act} {Q : Exit → Act → World → Prop} (hgd : o.guard = none) (s x : Operand)
    (ho : o.op = .call { callee := .builtin .append, args := #[s, x], argTypes := #[137, 137] })
    (B : Nat) (v : Value) (vs : List Value) (hs : a.eval s = v) (hown : OT w B v vs) (g : Nat) (y : Value) (hy : y.oneCell' = true) (hx : a.eval x = .slice (some ⟨g, 0, none⟩) 1 1) (hc : w.cell? ⟨g, 0, none⟩ = some y)
    (h63 : vs.length ≤ 100000000) (hbase : B ≤ w.heap.size)
    (h : ∀ v' w', OT w' B v' (vs ++ [y]) → w.grownBy w' v.ownBlock → (v'.ownBlock = v.ownBlock ∨ v'.ownBlock = some w.heap.size) → wpList Try.prog ops Q rest (a.put o.dst v') w') : wpList Try.prog ops Q (o :: rest) a w := by
  refine wpList_plain hgd fun _ hK => ?_
  obtain ⟨i0, hi, hz0, hz1, hz2⟩ := info_parts sl_infoT
  obtain ⟨v', w', hrun, h2, h3, _, h5⟩ := run_append_own_at (P := Try.prog) w B 137 o.type 24 i0 (.slice none 0 0) 1 24 Try.underlying137 hi hz0 hz1 hz2 rfl (by omega) v vs.length vs hown ⟨g, 0, none⟩ 1 1 [y] rfl (by
    intro j u hu
    rcases j with _ | j
    · simp at hu
      subst hu
      rw [show (⟨g, 0, none⟩ : Addr).add 0 = ⟨g, 0, none⟩ from Go.WideShapes.add_plain g 0 0, hc]
    · simp at hu) (by simp [hy]) (by unfold maxLen; omega) (by omega) hbase
  unfold Oper.wp execOp
  simp only [ho, resolve, invoke, builtin, Sem.run_bind, Sem.run_pure, Result.andThen_ok, List.map_toArray, List.map_cons, List.map_nil, hs, hx, hrun]
  exact hK _ _ (h v' w' (by
    unfold OT
    rw [List.length_append]
    exact h2) h3 h5)
end
/-- The call returned a list of rows of its own. -/
def ChR (rs : List (List Int)) (w : World) (e : Ending) (w' : World) : Prop := ∃ A n cap vs, e = .returned (.slice A n cap) ∧ OT w' w.heap.size (.slice A n cap) vs ∧ Rwx w' w.heap.size (.slice A n cap) vs rs ∧ Below w.heap.size w w'
end Go.Proofs.Ytacjonkehcamgaa

/-
  DERIVED. determinant of the program, l6Det of the reference, DeterminantOf of both.
-/
namespace Go.Proofs.Ytacjonkehcamgaa
open Go.RowKit
set_option linter.unusedVariables false
set_option linter.unusedSimpArgs false
section
variable {D : List Int → Option Int} {C j : Nat} {xs : List Int} {s d : Int}
theorem detS_zero (h : detS D C xs j = some s) (hz : xs.getD j 0 = 0) : detS D C xs (j + 1) = some s := by
  unfold detS; rw [h, Option.bind_some, if_pos hz]
theorem detS_bad (hz : ¬ xs.getD j 0 = 0) (hd : D (wcK xs C j (C * C)) = none) : detS D C xs (j + 1) = none := by
  unfold detS
  cases h : detS D C xs j with
  | none => rfl
  | some s => rw [Option.bind_some, if_neg hz, hd]; rfl
theorem detS_next (h : detS D C xs j = some s) (hz : ¬ xs.getD j 0 = 0) (hd : D (wcK xs C j (C * C)) = some d) : detS D C xs (j + 1) = some (s + (if j % 2 = 1 then -(xs.getD j 0) else xs.getD j 0) * d) := by
  unfold detS; rw [h, Option.bind_some, if_neg hz, hd]; rfl
theorem detS_up (h : detS D C xs j = none) : ∀ k, j ≤ k → detS D C xs k = none
  | 0, hk => by
    have e : j = 0 := by omega
    rw [← e]; exact h
  | k + 1, hk => by
    by_cases e : j = k + 1
    · rw [← e]; exact h
    · have := detS_up h k (by omega)
      unfold detS; rw [this]; rfl
end
theorem detL_succ (n : Nat) (xs : List Int) : detL (n + 1) xs = (detS (detL n) (n + 1) xs (n + 1)).bind fun s => if isNum s then some s else none := rfl
/-- What determinant answers. -/
def DetR (o : Option Int) (w : World) (e : Ending) (w' : World) : Prop := (∃ v, e = .returned (.tuple #[.int .i64 v, .bool o.isSome]) ∧ ∀ d, o = some d → v = d) ∧ Below w.heap.size w w'
def detV (o : Option Int) : Int := o.getD bad
theorem rem2_one {j : Nat} (h : j % 2 = 1) : ((j : Int) % 2 == 1) = true := by
  have : (j : Int) % 2 = 1 := by omega
  rw [this]; rfl
theorem rem2_no {j : Nat} (h : ¬ j % 2 = 1) : ((j : Int) % 2 == 1) = false := by
  have : (j : Int) % 2 = 0 := by omega
  rw [this]; rfl
set_option maxRecDepth 100000 in
set_option maxHeartbeats 8000000 in
theorem impl_determinant : ∀ (n : Nat) (A : Option Addr) (m cap : Nat) (xs : List Int) (w : World) {B : Nat}, RI w B A m xs → B ≤ w.heap.size → xs.length = n * n → n ≤ 24 → xs.all isNum = true →
    Calls Try.prog 160 #[.agg #[.int .i64 n, .int .i64 n, .slice A m cap]] w (DetR (detL n xs) w) := by
  intro n
  induction n with
  | zero =>
    intro A m cap xs w B h hB hl hn hnum
    have hv : detL 0 xs = some 1 := rfl
    rw [hv]
    clear h hnum hl hv
    go_enter Try.func160, Try.ntmps160
    go_wp2_with fail
    go_ret2
    exact ⟨⟨1, rfl, fun d hd => by cases hd; rfl⟩, Kw⟩
  | succ n ih =>
    intro A m cap xs w B h hB hl hn hnum
    obtain ⟨C, hCe⟩ : ∃ C, C = n + 1 := ⟨_, rfl⟩
    have hXS : ∀ s, detS (detL n) C xs C = some s → detL (n + 1) xs = if isNum s then some s else none := fun s h => by rw [detL_succ, ← hCe, h]; rfl
    have hXN : ∀ j, j ≤ C → detS (detL n) C xs j = none → detL (n + 1) xs = none := fun j hj h => by rw [detL_succ, ← hCe, detS_up h C hj]; rfl
    have hln := h.len
    have H2 := Lib.hid (h.more hB)
    clear h
    generalize hXX : detL (n + 1) xs = X at hXS hXN ⊢
    clear hXX
    rw [← hCe] at hl hn ⊢
    have HXS := Lib.hid hXS
    have HXN := Lib.hid hXN
    clear hXS hXN
    have hnC : (C : Int) - 1 = (n : Int) := by omega
    have hCC : C * C ≤ 24 * 24 := Nat.mul_le_mul hn hn
    have hmm : m ≤ C * C ∧ C * C ≤ m := by omega
    have hC0 : 0 < C := by omega
    have hjm : ∀ j, j < C → j < m := fun j hj => by have := Nat.le_mul_of_pos_left C hC0; omega
    have HJM := Lib.hid hjm
    have HNUM : Hid (∀ j, Num (xs.getD j 0)) := Lib.hid (getD_num hnum)
    have HWC : Hid (∀ (j : Nat) w', j < C → RI w' w.heap.size A m xs → w.heap.size ≤ w'.heap.size → Calls Try.prog 219 #[.agg #[.int .i64 C, .int .i64 C, .slice A m cap], .int .i64 0, .int .i64 j] w' (MR ⟨n, n, wcK xs C j (C * C)⟩ w')) := Lib.hid (fun j w' hj k1 k2 => by
      have := impl_withoutCross C j A m cap xs w' k1 k2 hl hj hn
      rw [hnC] at this
      exact this)
    have HIH := Lib.hid ih
    have HWL : Hid (∀ j, j < C → (wcK xs C j (C * C)).length = n * n) := Lib.hid (fun j hj => by rw [wcK_len hj, show C - 1 = n by omega])
    have HWN : Hid (∀ j, (wcK xs C j (C * C)).all isNum = true) := Lib.hid (fun j => wcK_num hnum _)
    have HCE := Lib.hid hCe
    have hnn : n ≤ 24 := by omega
    clear ih hnum hl hln hjm hnC hCe
    have HAT : Hid (∀ (j : Nat) w', j < C → RI w' w.heap.size A m xs → w.heap.size ≤ w'.heap.size → Calls Try.prog 117 #[.agg #[.int .i64 C, .int .i64 C, .slice A m cap], .int .i64 0, .int .i64 j] w' (BV (.int .i64 (xs.getD j 0)) w')) := Lib.hid (fun j w' hj k1 k2 => by
      have h1 := HJM.out j hj
      have := impl_at C C 0 j A m cap xs w' k1 k2 (by omega) (by omega) (by omega)
      have e : cel xs C 0 j = xs.getD j 0 := by unfold cel; congr 1; omega
      rw [e] at this
      exact this)
    have hCz : ((C : Int) == 0) = false := by simp; omega
    go_enter Try.func160, Try.ntmps160
    go_wp2_with fail
    go_loopg [4, 5] (C + 1) (fun gn vs vj wr => ∃ (j : Nat) (s : Int), vj = .int .i64 j ∧ vs = .int .i64 s ∧ j ≤ C ∧ C - j < gn ∧ Hid (detS (detL n) C xs j = some s) ∧ -((j : Int) * 160000000000000000) ≤ s ∧ s ≤ (j : Int) * 160000000000000000 ∧ BM wr w.heap.size C C A m cap ∧ Below w.heap.size w wr)
    case atStart => exact ⟨0, 0, rfl, rfl, Nat.zero_le _, by omega, Lib.hid rfl, by omega, by omega, Ka, Kw⟩
    case round =>
      obtain ⟨j, s, rfl, rfl, hj, hgk, HS, hs1, hs2, hM, hbw⟩ := hrel
      obtain ⟨ma, mb, mc, mf, ml⟩ := hM.mx
      have hszr := hbw.size
      by_cases hjC : j < C
      · go_wp2_with fail
        refine (HAT.out j _ hjC (Kr H2.out) Ks).mono ?_
        rintro e w1 ⟨rfl, hb1⟩
        (have hsz_1 := hb1.size); (try simp at hsz_1); (have hM_1 : BM w1 w.heap.size C C A m cap := (Kb hM)); (have hbw_1 : Below w.heap.size w w1 := Kw); clear ma mb mc mf ml; clear hM hbw; (have hM := hM_1); (have hbw := hbw_1); clear hM_1 hbw_1; obtain ⟨ma, mb, mc, mf, ml⟩ := hM.mx
        have hcn := HNUM.out j
        obtain ⟨hc1, hc2⟩ := hcn
        by_cases hz : xs.getD j 0 = 0
        · have HS2 := Lib.hid (detS_zero HS.out hz)
          rw [hz]
          clear hz hc1 hc2
          go_wp2_with fail
          go_roundg (gk - 1)
          case measure => omega
          case rel => exact ⟨j + 1, s, by go_num, rfl, by omega, by omega, HS2, by omega, by omega, Kb hM, Kw⟩
        · have hzb : (xs.getD j 0 == 0) = false := by simpa using hz
          have HDJ : Hid (∀ (A5 : Option Addr) (n5 c5 : Nat) w' B', RI w' B' A5 n5 (wcK xs C j (C * C)) → B' ≤ w'.heap.size → Calls Try.prog 160 #[.agg #[.int .i64 n, .int .i64 n, .slice A5 n5 c5]] w' (DetR (detL n (wcK xs C j (C * C))) w')) := Lib.hid (fun A5 n5 c5 w' B' k1 k2 => HIH.out A5 n5 c5 _ w' k1 k2 (HWL.out j hjC) hnn (HWN.out j))
          have HWJ := Lib.hid (fun w' => HWC.out j w' hjC)
          rcases hd : detL n (wcK xs C j (C * C)) with _ | d
          · rw [hd] at HDJ
            have HX := Lib.hid (HXN.out (j + 1) (by omega) (detS_bad hz hd))
            clear hz hd
            generalize wcK xs C j (C * C) = ys at *
            generalize xs.getD j 0 = c at *
            go_wp2_with fail
            refine (HWJ.out _ (Kr H2.out) Ks).mono ?_
            rintro e w2 ⟨A5, n5, c5, rfl, ho5, hb5⟩
            have HO5 := Lib.hid ho5
            (have hsz_1 := hb5.size); (try simp at hsz_1); (have hM_1 : BM w2 w.heap.size C C A m cap := (Kb hM)); (have hbw_1 : Below w.heap.size w w2 := Kw); clear ma mb mc mf ml; clear hM hbw; (have hM := hM_1); (have hbw := hbw_1); clear hM_1 hbw_1; obtain ⟨ma, mb, mc, mf, ml⟩ := hM.mx
            clear ho5
            go_wp2_with fail
            refine (HDJ.out A5 n5 c5 _ _ (OR.reads (xs := ys) HO5.out) (Nat.le_refl _)).mono ?_
            rintro e w3 ⟨⟨v, rfl, hv⟩, hb6⟩
            (have hsz_1 := hb6.size); (try simp at hsz_1); (have hM_1 : BM w3 w.heap.size C C A m cap := (Kb hM)); (have hbw_1 : Below w.heap.size w w3 := Kw); clear ma mb mc mf ml; clear hM hbw; (have hM := hM_1); (have hbw := hbw_1); clear hM_1 hbw_1; obtain ⟨ma, mb, mc, mf, ml⟩ := hM.mx
            clear hv
            go_wp2_with fail
            go_ret2
            rw [HX.out]
            exact ⟨⟨0, rfl, fun d hd => by cases hd⟩, Kw⟩
          · have hdn := detL_num _ _ _ hd
            have HS2 := Lib.hid (detS_next HS.out hz hd)
            rw [hd] at HDJ
            clear hz hd
            generalize wcK xs C j (C * C) = ys at *
            generalize xs.getD j 0 = c at *
            obtain ⟨hd1, hd2⟩ := hdn
            have hcd := mul_bd4 c d 400000000 400000000 hc1 hc2 hd1 hd2
            have hcd2 := mul_bd4 (-c) d 400000000 400000000 (by omega) (by omega) hd1 hd2
            obtain ⟨k1, k2⟩ := hcd
            obtain ⟨k3, k4⟩ := hcd2
            have wn : IntKind.i64.wrap (-c) = -c := IntWalk.i64_in _ (by omega)
            by_cases hp : j % 2 = 1
            · have hr := rem2_one hp
              rw [if_pos hp] at HS2
              have w1' : IntKind.i64.wrap (-c * d) = -c * d := IntWalk.i64_in _ (by omega)
              have w2' : IntKind.i64.wrap (s + -c * d) = s + -c * d := IntWalk.i64_in _ (by omega)
              clear hp k1 k2
              go_wp2_with fail
              refine (HWJ.out _ (Kr H2.out) Ks).mono ?_
              rintro e w2 ⟨A5, n5, c5, rfl, ho5, hb5⟩
              have HO5 := Lib.hid ho5
              (have hsz_1 := hb5.size); (try simp at hsz_1); (have hM_1 : BM w2 w.heap.size C C A m cap := (Kb hM)); (have hbw_1 : Below w.heap.size w w2 := Kw); clear ma mb mc mf ml; clear hM hbw; (have hM := hM_1); (have hbw := hbw_1); clear hM_1 hbw_1; obtain ⟨ma, mb, mc, mf, ml⟩ := hM.mx
              clear ho5
              go_wp2_with fail
              refine (HDJ.out A5 n5 c5 _ _ (OR.reads (xs := ys) HO5.out) (Nat.le_refl _)).mono ?_
              rintro e w3 ⟨⟨v, rfl, hv⟩, hb6⟩
              obtain rfl := hv d rfl
              (have hsz_1 := hb6.size); (try simp at hsz_1); (have hM_1 : BM w3 w.heap.size C C A m cap := (Kb hM)); (have hbw_1 : Below w.heap.size w w3 := Kw); clear ma mb mc mf ml; clear hM hbw; (have hM := hM_1); (have hbw := hbw_1); clear hM_1 hbw_1; obtain ⟨ma, mb, mc, mf, ml⟩ := hM.mx
              go_wp2_with fail
              go_roundg (gk - 1)
              case measure => omega
              case rel => exact ⟨j + 1, s + -c * v, by go_num, rfl, by omega, by omega, HS2, by omega, by omega, Kb hM, Kw⟩
            · have hr := rem2_no hp
              rw [if_neg hp] at HS2
              have w1' : IntKind.i64.wrap (c * d) = c * d := IntWalk.i64_in _ (by omega)
              have w2' : IntKind.i64.wrap (s + c * d) = s + c * d := IntWalk.i64_in _ (by omega)
              clear hp k3 k4
              go_wp2_with fail
              refine (HWJ.out _ (Kr H2.out) Ks).mono ?_
              rintro e w2 ⟨A5, n5, c5, rfl, ho5, hb5⟩
              have HO5 := Lib.hid ho5
              (have hsz_1 := hb5.size); (try simp at hsz_1); (have hM_1 : BM w2 w.heap.size C C A m cap := (Kb hM)); (have hbw_1 : Below w.heap.size w w2 := Kw); clear ma mb mc mf ml; clear hM hbw; (have hM := hM_1); (have hbw := hbw_1); clear hM_1 hbw_1; obtain ⟨ma, mb, mc, mf, ml⟩ := hM.mx
              clear ho5
              go_wp2_with fail
              refine (HDJ.out A5 n5 c5 _ _ (OR.reads (xs := ys) HO5.out) (Nat.le_refl _)).mono ?_
              rintro e w3 ⟨⟨v, rfl, hv⟩, hb6⟩
              obtain rfl := hv d rfl
              (have hsz_1 := hb6.size); (try simp at hsz_1); (have hM_1 : BM w3 w.heap.size C C A m cap := (Kb hM)); (have hbw_1 : Below w.heap.size w w3 := Kw); clear ma mb mc mf ml; clear hM hbw; (have hM := hM_1); (have hbw := hbw_1); clear hM_1 hbw_1; obtain ⟨ma, mb, mc, mf, ml⟩ := hM.mx
              go_wp2_with fail
              go_roundg (gk - 1)
              case measure => omega
              case rel => exact ⟨j + 1, s + c * v, by go_num, rfl, by omega, by omega, HS2, by omega, by omega, Kb hM, Kw⟩
      · obtain rfl : j = C := by omega
        have HX := Lib.hid (HXS.out s HS.out)
        rcases hi : isNum s with _ | _
        · have HI := Lib.hid hi
          rw [hi] at HX
          clear hi
          go_wp2_with fail
          refine (impl_IsNumber s _).mono ?_
          rw [HI.out]
          rintro e w' ⟨rfl, rfl⟩
          go_wp2_with fail
          go_ret2
          rw [HX.out]
          exact ⟨⟨s, rfl, fun d hd => by cases hd⟩, Kw⟩
        · have HI := Lib.hid hi
          rw [hi] at HX
          clear hi
          go_wp2_with fail
          refine (impl_IsNumber s _).mono ?_
          rw [HI.out]
          rintro e w' ⟨rfl, rfl⟩
          go_wp2_with fail
          go_ret2
          rw [HX.out]
          exact ⟨⟨s, rfl, fun d hd => by cases hd; rfl⟩, Kw⟩
end Go.Proofs.Ytacjonkehcamgaa

/-
  DERIVED. l6Det of the reference; DeterminantOf, both sides.
-/
namespace Go.Proofs.Ytacjonkehcamgaa
open Go.RowKit
set_option linter.unusedVariables false
set_option linter.unusedSimpArgs false
/-- The sign in column j. -/
def sgD (j : Nat) : Int := if j % 2 = 1 then -1 else 1
theorem sgD_succ (j : Nat) : sgD (j + 1) = -sgD j := by unfold sgD; split <;> split <;> omega
theorem sgD_bd (j : Nat) : -1 ≤ sgD j ∧ sgD j ≤ 1 := by unfold sgD; split <;> omega
theorem sgD_mul (j : Nat) (c : Int) : (if j % 2 = 1 then -c else c) = sgD j * c := by unfold sgD; split <;> omega
theorem sgD_cbd {j : Nat} {c : Int} (h : -400000000 ≤ c ∧ c ≤ 400000000) : -400000000 ≤ sgD j * c ∧ sgD j * c ≤ 400000000 := by rw [← sgD_mul]; split <;> omega
theorem detV_of {X : Option Int} {s : Int} (h : X = if isNum s then some s else none) : detV X = fit s := by
  subst h; unfold detV fit; split <;> rfl
set_option maxRecDepth 100000 in
set_option maxHeartbeats 8000000 in
theorem spec_l6Det : ∀ (n : Nat) (A : Option Addr) (m cap : Nat) (xs : List Int) (w : World) {B : Nat}, RI w B A m xs → B ≤ w.heap.size → xs.length = n * n → n ≤ 24 → xs.all isNum = true →
    Calls Try.prog 164 #[.agg #[.int .i64 n, .int .i64 n, .slice A m cap]] w (BV (.int .i64 (detV (detL n xs))) w) := by
  intro n
  induction n with
  | zero =>
    intro A m cap xs w B h hB hl hn hnum
    have hv : detV (detL 0 xs) = 1 := rfl
    rw [hv]
    clear h hnum hl hv
    go_enter Try.func164, Try.ntmps164
    go_wp2_with fail
    go_ret
    exact BV.mk rfl Kw
  | succ n ih =>
    intro A m cap xs w B h hB hl hn hnum
    obtain ⟨C, hCe⟩ : ∃ C, C = n + 1 := ⟨_, rfl⟩
    have hXS : ∀ s, detS (detL n) C xs C = some s → detL (n + 1) xs = if isNum s then some s else none := fun s h => by rw [detL_succ, ← hCe, h]; rfl
    have hXN : ∀ j, j ≤ C → detS (detL n) C xs j = none → detL (n + 1) xs = none := fun j hj h => by rw [detL_succ, ← hCe, detS_up h C hj]; rfl
    have hln := h.len
    have H2 := Lib.hid (h.more hB)
    clear h
    generalize hXX : detL (n + 1) xs = X at hXS hXN ⊢
    clear hXX
    rw [← hCe] at hl hn ⊢
    have HXS := Lib.hid hXS
    have HXN := Lib.hid hXN
    clear hXS hXN
    have hnC : (C : Int) - 1 = (n : Int) := by omega
    have hCC : C * C ≤ 24 * 24 := Nat.mul_le_mul hn hn
    have hmm : m ≤ C * C ∧ C * C ≤ m := by omega
    have hC0 : 0 < C := by omega
    have hjm : ∀ j, j < C → j < m := fun j hj => by have := Nat.le_mul_of_pos_left C hC0; omega
    have HJM := Lib.hid hjm
    have HNUM : Hid (∀ j, Num (xs.getD j 0)) := Lib.hid (getD_num hnum)
    have HWC : Hid (∀ (j : Nat) w', j < C → RI w' w.heap.size A m xs → w.heap.size ≤ w'.heap.size → Calls Try.prog 220 #[.agg #[.int .i64 C, .int .i64 C, .slice A m cap], .int .i64 0, .int .i64 j] w' (MR ⟨n, n, wcK xs C j (C * C)⟩ w')) := Lib.hid (fun j w' hj k1 k2 => by
      have := spec_l6Without C j A m cap xs w' k1 k2 hl hj hn
      rw [hnC] at this
      exact this)
    have HIH := Lib.hid ih
    have HWL : Hid (∀ j, j < C → (wcK xs C j (C * C)).length = n * n) := Lib.hid (fun j hj => by rw [wcK_len hj, show C - 1 = n by omega])
    have HWN : Hid (∀ j, (wcK xs C j (C * C)).all isNum = true) := Lib.hid (fun j => wcK_num hnum _)
    have HCE := Lib.hid hCe
    have hnn : n ≤ 24 := by omega
    clear ih hnum hl hln hjm hnC hCe
    obtain ⟨b, o, rfl, hbb, hcells⟩ := H2.out.2 (by have := Nat.mul_pos hC0 hC0; omega)
    have HCJ : Hid (∀ (j : Nat) w', j < C → Below w.heap.size w w' → w'.cell? ⟨b, o + j, none⟩ = some (.int .i64 (xs.getD j 0))) := Lib.hid (fun j w' hj hb => (hb.cell (p := ⟨b, o + j, none⟩) (by simpa using hbb)).trans (hcells j (HJM.out j hj)))
    have hCz : ((C : Int) == 0) = false := by simp; omega
    clear hcells
    go_enter Try.func164, Try.ntmps164
    go_wp2_with fail
    go_loopg [3, 4, 5] (C + 1) (fun gn vs vg vj wr => ∃ (j : Nat) (s g : Int), vj = .int .i64 j ∧ vs = .int .i64 s ∧ vg = .int .i64 g ∧ Hid (g = sgD j) ∧ j ≤ C ∧ C - j < gn ∧ Hid (detS (detL n) C xs j = some s) ∧ -((j : Int) * 160000000000000000) ≤ s ∧ s ≤ (j : Int) * 160000000000000000 ∧ BM wr w.heap.size C C (some ⟨b, o, none⟩) m cap ∧ Below w.heap.size w wr)
    case atStart => exact ⟨0, 0, 1, rfl, rfl, rfl, Lib.hid rfl, Nat.zero_le _, by omega, Lib.hid rfl, by omega, by omega, Ka, Kw⟩
    case round =>
      obtain ⟨j, s, g, rfl, rfl, rfl, HG, hj, hgk, HS, hs1, hs2, hM, hbw⟩ := hrel
      obtain ⟨ma, mb, mc, mf, ml⟩ := hM.mx
      have hszr := hbw.size
      have hgb := sgD_bd j
      rw [← HG.out] at hgb
      obtain ⟨hg1, hg2⟩ := hgb
      have wg : IntKind.i64.wrap (-g) = -g := IntWalk.i64_in _ (by omega)
      have HG2 : Hid (-g = sgD (j + 1)) := Lib.hid (by rw [sgD_succ, HG.out])
      by_cases hjC : j < C
      · have hjm := HJM.out j hjC
        have cj := HCJ.out j _ hjC hbw
        have hcn := HNUM.out j
        by_cases hz : xs.getD j 0 = 0
        · have HS2 := Lib.hid (detS_zero HS.out hz)
          rw [hz] at cj
          clear hz hcn
          go_wp2_with fail
          go_roundg (gk - 1)
          case measure => omega
          case rel => exact ⟨j + 1, s, -g, by go_num, rfl, rfl, HG2, by omega, by omega, HS2, by omega, by omega, Kb hM, Kw⟩
        · have hzb : (xs.getD j 0 != 0) = true := by simpa using hz
          have HDJ : Hid (∀ (A5 : Option Addr) (n5 c5 : Nat) w' B', RI w' B' A5 n5 (wcK xs C j (C * C)) → B' ≤ w'.heap.size → Calls Try.prog 164 #[.agg #[.int .i64 n, .int .i64 n, .slice A5 n5 c5]] w' (BV (.int .i64 (detV (detL n (wcK xs C j (C * C))))) w')) := Lib.hid (fun A5 n5 c5 w' B' k1 k2 => HIH.out A5 n5 c5 _ w' k1 k2 (HWL.out j hjC) hnn (HWN.out j))
          have HWJ := Lib.hid (fun w' => HWC.out j w' hjC)
          rcases hd : detL n (wcK xs C j (C * C)) with _ | d
          · rw [hd] at HDJ
            have HX := Lib.hid (HXN.out (j + 1) (by omega) (detS_bad hz hd))
            clear hz hd
            generalize wcK xs C j (C * C) = ys at *
            generalize xs.getD j 0 = c at *
            go_wp2_with fail
            refine (HWJ.out _ (Kr H2.out) Ks).mono ?_
            rintro e w2 ⟨A5, n5, c5, rfl, ho5, hb5⟩
            have HO5 := Lib.hid ho5
            (have hsz_1 := hb5.size); (try simp at hsz_1); (have hM_1 : BM w2 w.heap.size C C (some ⟨b, o, none⟩) m cap := (Kb hM)); (have hbw_1 : Below w.heap.size w w2 := Kw); clear ma mb mc mf ml; clear hM hbw; (have hM := hM_1); (have hbw := hbw_1); clear hM_1 hbw_1; obtain ⟨ma, mb, mc, mf, ml⟩ := hM.mx
            clear ho5
            go_wp2_with fail
            refine (HDJ.out A5 n5 c5 _ _ (OR.reads (xs := ys) HO5.out) (Nat.le_refl _)).mono ?_
            rintro e w3 ⟨rfl, hb6⟩
            (have hsz_1 := hb6.size); (try simp at hsz_1); (have hM_1 : BM w3 w.heap.size C C (some ⟨b, o, none⟩) m cap := (Kb hM)); (have hbw_1 : Below w.heap.size w w3 := Kw); clear ma mb mc mf ml; clear hM hbw; (have hM := hM_1); (have hbw := hbw_1); clear hM_1 hbw_1; obtain ⟨ma, mb, mc, mf, ml⟩ := hM.mx
            have hvb : detV none = -4611686018427387904 := rfl
            go_wp2_with fail
            go_ret
            exact BV.mk (vint (by rw [HX.out]; rfl)) Kw
          · have hdn := detL_num _ _ _ hd
            have HS2 := detS_next HS.out hz hd
            rw [sgD_mul, ← HG.out] at HS2
            have hgc := sgD_cbd (j := j) hcn
            rw [← HG.out] at hgc
            have HS3 := Lib.hid HS2
            have hvd : detV (some d) = d := rfl
            rw [hd, hvd] at HDJ
            have hdb : (d == -4611686018427387904) = false := by
              rw [beq_eq_false_iff_ne]
              have := hdn.1
              omega
            have hc2w : ∀ w', Below w.heap.size w w' → w'.cell? ⟨b, o + j, none⟩ = some (.int .i64 (xs.getD j 0)) := fun w' hb => HCJ.out j w' hjC hb
            have HC2 := Lib.hid hc2w
            clear hz hd HS2 hvd hc2w
            generalize wcK xs C j (C * C) = ys at *
            generalize xs.getD j 0 = c at *
            obtain ⟨hd1, hd2⟩ := hdn
            obtain ⟨hgc1, hgc2⟩ := hgc
            have hcd := mul_bd4 (g * c) d 400000000 400000000 hgc1 hgc2 hd1 hd2
            obtain ⟨k1, k2⟩ := hcd
            have w0' : IntKind.i64.wrap (g * c) = g * c := IntWalk.i64_in _ (by omega)
            have w1' : IntKind.i64.wrap (g * c * d) = g * c * d := IntWalk.i64_in _ (by omega)
            have w2' : IntKind.i64.wrap (s + g * c * d) = s + g * c * d := IntWalk.i64_in _ (by omega)
            go_wp2_with fail
            refine (HWJ.out _ (Kr H2.out) Ks).mono ?_
            rintro e w2 ⟨A5, n5, c5, rfl, ho5, hb5⟩
            have HO5 := Lib.hid ho5
            (have hsz_1 := hb5.size); (try simp at hsz_1); (have hM_1 : BM w2 w.heap.size C C (some ⟨b, o, none⟩) m cap := (Kb hM)); (have hbw_1 : Below w.heap.size w w2 := Kw); clear ma mb mc mf ml; clear hM hbw; (have hM := hM_1); (have hbw := hbw_1); clear hM_1 hbw_1; obtain ⟨ma, mb, mc, mf, ml⟩ := hM.mx
            clear ho5
            go_wp2_with fail
            refine (HDJ.out A5 n5 c5 _ _ (OR.reads (xs := ys) HO5.out) (Nat.le_refl _)).mono ?_
            rintro e w3 ⟨rfl, hb6⟩
            (have hsz_1 := hb6.size); (try simp at hsz_1); (have hM_1 : BM w3 w.heap.size C C (some ⟨b, o, none⟩) m cap := (Kb hM)); (have hbw_1 : Below w.heap.size w w3 := Kw); clear ma mb mc mf ml; clear hM hbw; (have hM := hM_1); (have hbw := hbw_1); clear hM_1 hbw_1; obtain ⟨ma, mb, mc, mf, ml⟩ := hM.mx
            clear cj
            have cj := HC2.out _ hbw
            go_wp2_with fail
            go_roundg (gk - 1)
            case measure => omega
            case rel => exact ⟨j + 1, s + g * c * d, -g, by go_num, rfl, rfl, HG2, by omega, by omega, HS3, by omega, by omega, Kb hM, Kw⟩
      · obtain rfl : j = C := by omega
        have HX := Lib.hid (detV_of (HXS.out s HS.out))
        go_wp2_with fail
        refine (spec_l1Fit s _).mono ?_
        rintro e w' ⟨rfl, rfl⟩
        go_wp2_with fail
        go_ret
        exact BV.mk (vint HX.out.symm) Kw
def dtO (r c : Int) (xs : List Int) : Option Int := if isSq r c xs then detL r.toNat xs else none
/-- A number that may lack: 0 where it does, and the flag. -/
def ODV (o : Option Int) (w : World) (e : Ending) (w' : World) : Prop := e = .returned (.tuple #[.int .i64 (o.getD 0), .bool o.isSome]) ∧ Below w.heap.size w w'
theorem dtO_num {r c : Int} {xs : List Int} {d : Int} (h : dtO r c xs = some d) : Num d := by
  unfold dtO at h
  split at h
  · exact detL_num _ _ _ h
  · cases h
set_option maxHeartbeats 4000000 in
theorem impl_DeterminantOf (r c : Int) (A : Option Addr) (n cap : Nat) (xs : List Int) (w : World) {B : Nat} (h : RI w B A n xs) (hB : B ≤ w.heap.size) (hn : n ≤ 1048576) :
    Calls Try.prog 66 #[.agg #[.int .i64 r, .int .i64 c, .slice A n cap]] w (ODV (dtO r c xs) w) := by
  have H2 := Lib.hid (h.more hB)
  clear h
  rcases hq : isSq r c xs with _ | _
  · have hv : dtO r c xs = none := by unfold dtO; rw [hq]; rfl
    rw [hv]
    have HQ := Lib.hid hq
    clear hq hv
    go_enter Try.func66, Try.ntmps66
    go_wp2_with fail
    refine (impl_IsSquare r c A n cap xs _ (B := w.heap.size) (Kr H2.out) Ks hn).mono ?_
    rw [HQ.out]
    rintro e w1 ⟨rfl, hb1⟩
    have hbw : Below w.heap.size w w1 := Kw
    go_wp2_with fail
    go_ret2
    exact ⟨rfl, Kw⟩
  · have S := isSq_iff.1 hq
    have hv : dtO r c xs = detL r.toNat xs := by unfold dtO; rw [hq]; rfl
    rw [hv]
    obtain ⟨R, rfl⟩ := nat_of S.m.r0
    have hc := S.e
    subst hc
    have hR := S.le
    have HLX : Hid (xs.length = R * R) := Lib.hid (by have := S.m.len; rw [← Int.natCast_mul] at this; omega)
    have HNU := Lib.hid S.m.num
    have HQ := Lib.hid hq
    clear hq hv S
    simp only [Int.toNat_natCast]
    have HD : Hid (∀ w', RI w' w.heap.size A n xs → w.heap.size ≤ w'.heap.size → Calls Try.prog 160 #[.agg #[.int .i64 R, .int .i64 R, .slice A n cap]] w' (DetR (detL R xs) w')) := Lib.hid (fun w' k1 k2 => impl_determinant R A n cap xs w' k1 k2 HLX.out (by omega) HNU.out)
    have hdn := detL_num R xs
    generalize detL R xs = X at *
    rcases X with _ | d
    · skip
      go_enter Try.func66, Try.ntmps66
      go_wp2_with fail
      refine (impl_IsSquare R R A n cap xs _ (B := w.heap.size) (Kr H2.out) Ks hn).mono ?_
      rw [HQ.out]
      rintro e w1 ⟨rfl, hb1⟩
      have hsz1 := hb1.size
      (try simp at hsz1)
      have hM : BM w1 w.heap.size R R A n cap := Ka
      have hbw : Below w.heap.size w w1 := Kw
      have hri : RI w1 w.heap.size A n xs := Kr H2.out
      obtain ⟨ma, mb, mc, mf, ml⟩ := hM.mx
      go_wp2_with fail
      refine (HD.out _ (Kr hri) Ks).mono ?_
      rintro e w2 ⟨⟨v, rfl, -⟩, hb2⟩
      have hbw2 : Below w.heap.size w w2 := Kw
      go_wp2_with fail
      go_ret2
      exact ⟨rfl, Kw⟩
    · skip
      go_enter Try.func66, Try.ntmps66
      go_wp2_with fail
      refine (impl_IsSquare R R A n cap xs _ (B := w.heap.size) (Kr H2.out) Ks hn).mono ?_
      rw [HQ.out]
      rintro e w1 ⟨rfl, hb1⟩
      have hsz1 := hb1.size
      (try simp at hsz1)
      have hM : BM w1 w.heap.size R R A n cap := Ka
      have hbw : Below w.heap.size w w1 := Kw
      have hri : RI w1 w.heap.size A n xs := Kr H2.out
      obtain ⟨ma, mb, mc, mf, ml⟩ := hM.mx
      go_wp2_with fail
      refine (HD.out _ (Kr hri) Ks).mono ?_
      rintro e w2 ⟨⟨v, rfl, hv⟩, hb2⟩
      obtain rfl := hv d rfl
      have hbw2 : Below w.heap.size w w2 := Kw
      go_wp2_with fail
      go_ret2
      exact ⟨rfl, Kw⟩
set_option maxHeartbeats 4000000 in
theorem spec_DeterminantOf (r c : Int) (A : Option Addr) (n cap : Nat) (xs : List Int) (w : World) {B : Nat} (h : RI w B A n xs) (hB : B ≤ w.heap.size) (hn : n ≤ 1048576) :
    Calls Try.prog 67 #[.agg #[.int .i64 r, .int .i64 c, .slice A n cap]] w (ODV (dtO r c xs) w) := by
  have H2 := Lib.hid (h.more hB)
  clear h
  rcases hq : isSq r c xs with _ | _
  · have hv : dtO r c xs = none := by unfold dtO; rw [hq]; rfl
    rw [hv]
    have HQ := Lib.hid hq
    clear hq hv
    go_enter Try.func67, Try.ntmps67
    go_wp2_with fail
    refine (spec_IsSquare r c A n cap xs _ (B := w.heap.size) (Kr H2.out) Ks hn).mono ?_
    rw [HQ.out]
    rintro e w1 ⟨rfl, hb1⟩
    have hbw : Below w.heap.size w w1 := Kw
    go_wp2_with fail
    go_ret2
    exact ⟨rfl, Kw⟩
  · have S := isSq_iff.1 hq
    have hv : dtO r c xs = detL r.toNat xs := by unfold dtO; rw [hq]; rfl
    rw [hv]
    obtain ⟨R, rfl⟩ := nat_of S.m.r0
    have hc := S.e
    subst hc
    have hR := S.le
    have HLX : Hid (xs.length = R * R) := Lib.hid (by have := S.m.len; rw [← Int.natCast_mul] at this; omega)
    have HNU := Lib.hid S.m.num
    have HQ := Lib.hid hq
    clear hq hv S
    simp only [Int.toNat_natCast]
    have HD : Hid (∀ w', RI w' w.heap.size A n xs → w.heap.size ≤ w'.heap.size → Calls Try.prog 164 #[.agg #[.int .i64 R, .int .i64 R, .slice A n cap]] w' (BV (.int .i64 (detV (detL R xs))) w')) := Lib.hid (fun w' k1 k2 => spec_l6Det R A n cap xs w' k1 k2 HLX.out (by omega) HNU.out)
    have hdn := detL_num R xs
    generalize detL R xs = X at *
    rcases X with _ | d
    · have hvb : detV none = -4611686018427387904 := rfl
      rw [hvb] at HD
      clear hvb
      go_enter Try.func67, Try.ntmps67
      go_wp2_with fail
      refine (spec_IsSquare R R A n cap xs _ (B := w.heap.size) (Kr H2.out) Ks hn).mono ?_
      rw [HQ.out]
      rintro e w1 ⟨rfl, hb1⟩
      have hsz1 := hb1.size
      (try simp at hsz1)
      have hM : BM w1 w.heap.size R R A n cap := Ka
      have hbw : Below w.heap.size w w1 := Kw
      have hri : RI w1 w.heap.size A n xs := Kr H2.out
      obtain ⟨ma, mb, mc, mf, ml⟩ := hM.mx
      go_wp2_with fail
      refine (HD.out _ (Kr hri) Ks).mono ?_
      rintro e w2 ⟨rfl, hb2⟩
      have hbw2 : Below w.heap.size w w2 := Kw
      go_wp2_with fail
      go_ret2
      exact ⟨rfl, Kw⟩
    · have hvd : detV (some d) = d := rfl
      rw [hvd] at HD
      have hdb : (d == -4611686018427387904) = false := by
        rw [beq_eq_false_iff_ne]
        have := (hdn d rfl).1
        omega
      clear hvd
      go_enter Try.func67, Try.ntmps67
      go_wp2_with fail
      refine (spec_IsSquare R R A n cap xs _ (B := w.heap.size) (Kr H2.out) Ks hn).mono ?_
      rw [HQ.out]
      rintro e w1 ⟨rfl, hb1⟩
      have hsz1 := hb1.size
      (try simp at hsz1)
      have hM : BM w1 w.heap.size R R A n cap := Ka
      have hbw : Below w.heap.size w w1 := Kw
      have hri : RI w1 w.heap.size A n xs := Kr H2.out
      obtain ⟨ma, mb, mc, mf, ml⟩ := hM.mx
      go_wp2_with fail
      refine (HD.out _ (Kr hri) Ks).mono ?_
      rintro e w2 ⟨rfl, hb2⟩
      have hbw2 : Below w.heap.size w w2 := Kw
      go_wp2_with fail
      go_ret2
      exact ⟨rfl, Kw⟩
end Go.Proofs.Ytacjonkehcamgaa

/-
  DERIVED. l3Mul.
-/
namespace Go.Proofs.Ytacjonkehcamgaa
open Go.RowKit
set_option linter.unusedVariables false
set_option linter.unusedSimpArgs false
set_option maxRecDepth 100000 in
set_option maxHeartbeats 8000000 in
theorem spec_l3Mul (R C C2 : Nat) (A A' : Option Addr) (n cap n' cap' : Nat) (xs ys : List Int) (w : World) {B B' : Nat} (h : RI w B A n xs) (h' : RI w B' A' n' ys) (hB : B ≤ w.heap.size) (hB' : B' ≤ w.heap.size) (hn : n ≤ 1048576) (hn' : n' ≤ 1048576) (M : IsM R C xs) (M2 : IsM C C2 ys) :
    Calls Try.prog 171 #[.agg #[.int .i64 R, .int .i64 C, .slice A n cap], .agg #[.int .i64 C, .int .i64 C2, .slice A' n' cap']] w (MR ⟨R, C2, mulL xs R C ys C2⟩ w) := by
  have hlen := h.len
  have hlen' := h'.len
  have H2 := Lib.hid (h.more hB)
  have H3 := Lib.hid (h'.more hB')
  clear h h' hB hB'
  have HMM := Lib.hid M
  have HMM2 := Lib.hid M2
  have hR' := M.r1
  have hC := M.c1
  have hC2 := M2.c1
  have hl1 : (n : Int) ≤ (R : Int) * (C : Int) ∧ (R : Int) * (C : Int) ≤ n := by have := M.len; omega
  have hl2 : (n' : Int) ≤ (C : Int) * (C2 : Int) ∧ (C : Int) * (C2 : Int) ≤ n' := by have := M2.len; omega
  have hRC : R * C2 ≤ 24 * 24 := Nat.mul_le_mul (by omega) (by omega)
  clear M M2 hlen hlen'
  go_enter Try.func171, Try.ntmps171
  go_wp2_with fail
  refine (spec_l3New R C2 _ (by omega) (by omega) (by omega)).mono ?_
  rintro e w3 ⟨Ao, no, co, rfl, hown, hb3⟩
  have hsz3 := hb3.size
  simp at hsz3
  have hno := hown.lenEq
  have hU : Own (.slice Ao no co) (w.heap.size + 1 + 1 + 1) w3.heap.size := hown.own.wide Ks (Nat.le_refl _)
  have hno1 : no ≤ R * C2 ∧ R * C2 ≤ no := by simp at hno; omega
  have hno2 : (no : Int) ≤ (R : Int) * (C2 : Int) ∧ (R : Int) * (C2 : Int) ≤ no := by rw [← Int.natCast_mul]; omega
  have hA3 : BM (w3.alloc (.cells #[.int .i64 R, .int .i64 C2, .slice Ao no co] 26)) w.heap.size R C A n cap := Ka
  have hB3 : BM (w3.alloc (.cells #[.int .i64 R, .int .i64 C2, .slice Ao no co] 26)) (w.heap.size + 1) C C2 A' n' cap' := Ka
  have hR3 : BM (w3.alloc (.cells #[.int .i64 R, .int .i64 C2, .slice Ao no co] 26)) (w.heap.size + 1 + 1) 0 0 none 0 0 := Ka
  have hO3 : BM (w3.alloc (.cells #[.int .i64 R, .int .i64 C2, .slice Ao no co] 26)) w3.heap.size R C2 Ao no co := Ka
  have hown3 : OR (w3.alloc (.cells #[.int .i64 R, .int .i64 C2, .slice Ao no co] 26)) (w.heap.size + 1 + 1 + 1) (.slice Ao no co) (fillTo (mulL xs R C ys C2) (R * C2) 0) := by
    rw [fillTo_zero]; exact (hown.mono Ks).alloc _
  have hbw3 : Below w.heap.size w (w3.alloc (.cells #[.int .i64 R, .int .i64 C2, .slice Ao no co] 26)) := Kw
  have hq3 : w.heap.size + 1 + 1 + 1 ≤ w3.heap.size := by omega
  have hU0 : Hid (0 < R * C2 → ∃ g, Ao = some ⟨g, 0, none⟩ ∧ w.heap.size + 1 + 1 + 1 ≤ g ∧ g < w3.heap.size) := Lib.hid (fun hp => by have := hown.begins (by simpa using hp); simpa using this)
  clear hown hno hb3
  go_wp2_with fail
  generalize hbO : w3.heap.size = bO at *
  have HBO := Lib.hid hbO
  clear hbO
  go_loopw [6] (fun v wr => ∃ i : Nat, v = .int .i64 i ∧ i ≤ R ∧ BM wr w.heap.size R C A n cap ∧ BM wr (w.heap.size + 1) C C2 A' n' cap' ∧ BM wr (w.heap.size + 1 + 1) 0 0 none 0 0 ∧ BM wr bO R C2 Ao no co ∧ OR wr (w.heap.size + 1 + 1 + 1) (.slice Ao no co) (fillTo (mulL xs R C ys C2) (R * C2) (i*C2)) ∧ Below w.heap.size w wr) (fun v _ => R - (intOf v).toNat)
  case atStart => exact ⟨0, rfl, Nat.zero_le _, hA3, hB3, hR3, hO3, by rw [Nat.zero_mul]; exact hown3, hbw3⟩
  case round =>
    clear hA3 hB3 hR3 hO3 hown3 hbw3
    obtain ⟨i, rfl, hi, hA, hB, hR, hO, hown, hbw⟩ := hrel
    obtain ⟨aa, ab, ac, af, al⟩ := hA.mx; obtain ⟨ba, bb, bc, bf, bl⟩ := hB.mx; obtain ⟨oa, ob, oc, of, ol⟩ := hO.mx
    by_cases hiR : i < R
    · go_wp2_with fail
      obtain ⟨wo, rfl⟩ : ∃ wo : World, wo = wr := ⟨_, rfl⟩
      go_loopw [7, 8, 9] (fun v _ _ wr => ∃ j : Nat, v = .int .i64 j ∧ j ≤ C2 ∧ BM wr w.heap.size R C A n cap ∧ BM wr (w.heap.size + 1) C C2 A' n' cap' ∧ BM wr (w.heap.size + 1 + 1) 0 0 none 0 0 ∧ BM wr bO R C2 Ao no co ∧ OR wr (w.heap.size + 1 + 1 + 1) (.slice Ao no co) (fillTo (mulL xs R C ys C2) (R * C2) (i*C2+j)) ∧ Below w.heap.size w wr) (fun v _ _ _ => C2 - (intOf v).toNat)
      case atStart => exact ⟨0, rfl, Nat.zero_le _, hA, hB, hR, hO, hown, hbw⟩
      case round =>
        clear hA hB hR hO hown hbw
        clear aa ab ac af al ba bb bc bf bl oa ob oc of ol
        obtain ⟨j, rfl, hj, hA, hB, hR, hO, hown, hbw⟩ := hrel
        obtain ⟨aa, ab, ac, af, al⟩ := hA.mx; obtain ⟨ba, bb, bc, bf, bl⟩ := hB.mx; obtain ⟨oa, ob, oc, of, ol⟩ := hO.mx
        by_cases hjC : j < C2
        · go_wp2_with fail
          obtain ⟨wo2, rfl⟩ : ∃ wo : World, wo = wr := ⟨_, rfl⟩
          go_loopw [8, 9] (fun u v wr => ∃ k : Nat, v = .int .i64 k ∧ u = .int .i64 (psum xs C ys C2 i j k) ∧ k ≤ C ∧ BM wr w.heap.size R C A n cap ∧ BM wr (w.heap.size + 1) C C2 A' n' cap' ∧ BM wr (w.heap.size + 1 + 1) 0 0 none 0 0 ∧ BM wr bO R C2 Ao no co ∧ OR wr (w.heap.size + 1 + 1 + 1) (.slice Ao no co) (fillTo (mulL xs R C ys C2) (R * C2) (i*C2+j)) ∧ Below w.heap.size w wr) (fun _ v _ => C - (intOf v).toNat)
          case atStart => exact ⟨0, rfl, rfl, Nat.zero_le _, hA, hB, hR, hO, hown, hbw⟩
          case round =>
            clear hA hB hR hO hown hbw
            clear aa ab ac af al ba bb bc bf bl oa ob oc of ol
            obtain ⟨k, rfl, rfl, hk, hA, hB, hR, hO, hown, hbw⟩ := hrel
            obtain ⟨aa, ab, ac, af, al⟩ := hA.mx; obtain ⟨ba, bb, bc, bf, bl⟩ := hB.mx; obtain ⟨oa, ob, oc, of, ol⟩ := hO.mx
            generalize hq : i * C2 + j = q at *
            have HQ := Lib.hid hq
            clear hq
            by_cases hkC : k < C
            · obtain ⟨p1, p2⟩ := psum_bd HMM.out HMM2.out i j k (by omega)
              obtain ⟨p3, p4⟩ := psum_bd HMM.out HMM2.out i j (k + 1) (by omega)
              have hps : psum xs C ys C2 i j (k + 1) = psum xs C ys C2 i j k + cel xs C i k * cel ys C2 k j := rfl
              rw [hps] at p3 p4
              have HPS := Lib.hid hps
              clear hps
              obtain ⟨x1, x2, x3, x4⟩ := idx_bd (r := R) (c := C) (i := i) (j := k) hR' hC (by omega) (by omega) (by omega) (by omega)
              obtain ⟨x5, x6, x7, x8⟩ := idx_bd (r := C) (c := C2) (i := k) (j := j) hC hC2 (by omega) (by omega) (by omega) (by omega)
              obtain ⟨y1, y2⟩ := HMM.out.cel_bd i k
              obtain ⟨y3, y4⟩ := HMM2.out.cel_bd k j
              obtain ⟨z1, z2⟩ := mul_bd4 _ _ 400000000 400000000 y1 y2 y3 y4
              have g1 : IntKind.i64.wrap (cel xs C i k * cel ys C2 k j) = cel xs C i k * cel ys C2 k j := IntWalk.i64_in _ (by omega)
              have g2 : IntKind.i64.wrap (psum xs C ys C2 i j k + cel xs C i k * cel ys C2 k j) = psum xs C ys C2 i j k + cel xs C i k * cel ys C2 k j := IntWalk.i64_in _ (by omega)
              go_wp2_with fail
              obtain ⟨ab1, ao1, rfl, hab, hac⟩ := H2.out.2 (by omega)
              obtain ⟨bb1, bo1, rfl, hbb, hbc⟩ := H3.out.2 (by omega)
              have c1 := (hbw.cell (p := ⟨ab1, ao1 + ((i : Int) * (C : Int) + (k : Int)).toNat, none⟩) hab).trans (hac _ (by omega))
              have c2 := (hbw.cell (p := ⟨bb1, bo1 + ((k : Int) * (C2 : Int) + (j : Int)).toNat, none⟩) hbb).trans (hbc _ (by omega))
              clear hac hbc
              rw [show xs.getD ((i : Int) * (C : Int) + (k : Int)).toNat 0 = cel xs C i k from rfl] at c1
              rw [show ys.getD ((k : Int) * (C2 : Int) + (j : Int)).toNat 0 = cel ys C2 k j from rfl] at c2
              have g3 : IntKind.i64.wrap ((i : Int) * (C : Int)) = (i : Int) * (C : Int) := IntWalk.i64_in _ (by omega)
              have g4 : IntKind.i64.wrap ((k : Int) * (C2 : Int)) = (k : Int) * (C2 : Int) := IntWalk.i64_in _ (by omega)
              have g5 : IntKind.i64.wrap ((i : Int) * (C : Int) + (k : Int)) = (i : Int) * (C : Int) + (k : Int) := IntWalk.i64_in _ (by omega)
              have g6 : IntKind.i64.wrap ((k : Int) * (C2 : Int) + (j : Int)) = (k : Int) * (C2 : Int) + (j : Int) := IntWalk.i64_in _ (by omega)
              have g7 : 0 ≤ (i : Int) * (C : Int) + (k : Int) ∧ (i : Int) * (C : Int) + (k : Int) < (n : Int) := by omega
              have g8 : 0 ≤ (k : Int) * (C2 : Int) + (j : Int) ∧ (k : Int) * (C2 : Int) + (j : Int) < (n' : Int) := by omega
              obtain ⟨g7a, g7b⟩ := g7
              obtain ⟨g8a, g8b⟩ := g8
              generalize cel xs C i k = xv at *
              generalize cel ys C2 k j = yv at *
              ((refine wp_region_held_drew (S := (fun w' => w'.cell? ⟨w.heap.size, 1, none⟩ = some (.int .i64 C) ∧ w'.cell? ⟨w.heap.size, 2, none⟩ = some (.slice (some ⟨ab1, ao1, none⟩) n cap) ∧ w'.cell? ⟨w.heap.size + 1, 1, none⟩ = some (.int .i64 C2) ∧ w'.cell? ⟨w.heap.size + 1, 2, none⟩ = some (.slice (some ⟨bb1, bo1, none⟩) n' cap') ∧ w'.cell? ⟨ab1, ao1 + ((i : Int) * (C : Int) + (k : Int)).toNat, none⟩ = some (.int .i64 xv) ∧ w'.cell? ⟨bb1, bo1 + ((k : Int) * (C2 : Int) + (j : Int)).toNat, none⟩ = some (.int .i64 yv))) (by kernel_rfl) ?_ (fun hHeld => ?_)); ((focus ((try dsimp only); (go_keep)))); ((refine tk_ (i := 0) (v := ?_) (y := Or.inl ⟨by rfl, ?_⟩) (h := ?_); rotate_left; (focus (((intro w hSw; (try dsimp only at hSw); go_simp) <;> (try with_reducible rfl)); done)); (try simp only [Act.put, p1_, p2_, p3_]))); ((refine tk_ (i := 1) (v := ?_) (y := Or.inl ⟨by rfl, ?_⟩) (h := ?_); rotate_left; (focus (((intro w hSw; (try dsimp only at hSw); go_simp) <;> (try with_reducible rfl)); done)); (try simp only [Act.put, p1_, p2_, p3_]))); ((refine tk_ (i := 2) (v := ?_) (y := Or.inl ⟨by rfl, ?_⟩) (h := ?_); rotate_left; (focus (((intro w hSw; (try dsimp only at hSw); go_simp) <;> (try with_reducible rfl)); done)); (try simp only [Act.put, p1_, p2_, p3_]))); ((refine tk_ (i := 3) (v := ?_) (y := Or.inl ⟨by rfl, ?_⟩) (h := ?_); rotate_left; (focus (((intro w hSw; (try dsimp only at hSw); go_simp) <;> (try with_reducible rfl)); done)); (try simp only [Act.put, p1_, p2_, p3_]))); ((refine tk_ (i := 4) (v := ?_) (y := Or.inl ⟨by rfl, ?_⟩) (h := ?_); rotate_left; (focus (((intro w hSw; (try dsimp only at hSw); go_simp) <;> (try with_reducible rfl)); done)); (try simp only [Act.put, p1_, p2_, p3_]))); ((refine tk_ (i := 5) (v := ?_) (y := Or.inl ⟨by rfl, ?_⟩) (h := ?_); rotate_left; (focus (((intro w hSw; (try dsimp only at hSw); go_simp) <;> (try with_reducible rfl)); done)); (try simp only [Act.put, p1_, p2_, p3_]))); ((refine tk_ (i := 6) (v := ?_) (y := Or.inl ⟨by rfl, ?_⟩) (h := ?_); rotate_left; (focus (((intro w hSw; (try dsimp only at hSw); go_simp) <;> (try with_reducible rfl)); done)); (try simp only [Act.put, p1_, p2_, p3_]))); ((refine tk_ (i := 7) (v := ?_) (y := Or.inl ⟨by rfl, ?_⟩) (h := ?_); rotate_left; (focus (((intro w hSw; (try dsimp only at hSw); go_simp) <;> (try with_reducible rfl)); done)); (try simp only [Act.put, p1_, p2_, p3_]))); ((refine tk_ (i := 8) (v := ?_) (y := Or.inl ⟨by rfl, ?_⟩) (h := ?_); rotate_left; (focus (((intro w hSw; (try dsimp only at hSw); go_simp) <;> (try with_reducible rfl)); done)); (try simp only [Act.put, p1_, p2_, p3_]))); ((refine tk_ (i := 9) (v := ?_) (y := Or.inl ⟨by rfl, ?_⟩) (h := ?_); rotate_left; (focus (((intro w hSw; (try dsimp only at hSw); go_simp) <;> (try with_reducible rfl)); done)); (try simp only [Act.put, p1_, p2_, p3_]))); ((refine tk_ (i := 10) (v := ?_) (y := Or.inl ⟨by rfl, ?_⟩) (h := ?_); rotate_left; (focus (((intro w hSw; (try dsimp only at hSw); go_simp) <;> (try with_reducible rfl)); done)); (try simp only [Act.put, p1_, p2_, p3_]))); ((refine tk_ (i := 11) (v := ?_) (y := Or.inl ⟨by rfl, ?_⟩) (h := ?_); rotate_left; (focus (((intro w hSw; (try dsimp only at hSw); go_simp) <;> (try with_reducible rfl)); done)); (try simp only [Act.put, p1_, p2_, p3_]))); ((refine tk_ (i := 12) (v := ?_) (y := Or.inl ⟨by rfl, ?_⟩) (h := ?_); rotate_left; (focus (((intro w hSw; (try dsimp only at hSw); go_simp) <;> (try with_reducible rfl)); done)); (try simp only [Act.put, p1_, p2_, p3_]))); ((refine tk_ (i := 13) (v := ?_) (y := Or.inl ⟨by rfl, ?_⟩) (h := ?_); rotate_left; (focus (((intro w hSw; (try dsimp only at hSw); go_simp) <;> (try with_reducible rfl)); done)); (try simp only [Act.put, p1_, p2_, p3_]))); ((refine tk_ (i := 14) (v := ?_) (y := Or.inl ⟨by rfl, ?_⟩) (h := ?_); rotate_left; (focus (((intro w hSw; (try dsimp only at hSw); go_simp) <;> (try with_reducible rfl)); done)); (try simp only [Act.put, p1_, p2_, p3_]))); ((refine tk_ (i := 15) (v := ?_) (y := Or.inl ⟨by rfl, ?_⟩) (h := ?_); rotate_left; (focus (((intro w hSw; (try dsimp only at hSw); go_simp) <;> (try with_reducible rfl)); done)); (try simp only [Act.put, p1_, p2_, p3_]))); ((refine tk_ (i := 16) (v := ?_) (y := Or.inl ⟨by rfl, ?_⟩) (h := ?_); rotate_left; (focus (((intro w hSw; (try dsimp only at hSw); go_simp) <;> (try with_reducible rfl)); done)); (try simp only [Act.put, p1_, p2_, p3_]))); ((refine tk_ (i := 17) (v := ?_) (y := Or.inl ⟨by rfl, ?_⟩) (h := ?_); rotate_left; (focus (((intro w hSw; (try dsimp only at hSw); go_simp) <;> (try with_reducible rfl)); done)); (try simp only [Act.put, p1_, p2_, p3_]))); ((refine tk_ (i := 18) (v := ?_) (y := Or.inl ⟨by rfl, ?_⟩) (h := ?_); rotate_left; (focus (((intro w hSw; (try dsimp only at hSw); go_simp) <;> (try with_reducible rfl)); done)); (try simp only [Act.put, p1_, p2_, p3_]))); ((refine tk_ (i := 19) (v := ?_) (y := Or.inl ⟨by rfl, ?_⟩) (h := ?_); rotate_left; (focus (((intro w hSw; (try dsimp only at hSw); go_simp) <;> (try with_reducible rfl)); done)); (try simp only [Act.put, p1_, p2_, p3_]))); ((refine tk_ (i := 20) (v := ?_) (y := Or.inl ⟨by rfl, ?_⟩) (h := ?_); rotate_left; (focus (((intro w hSw; (try dsimp only at hSw); go_simp) <;> (try with_reducible rfl)); done)); (try simp only [Act.put, p1_, p2_, p3_]))); ((refine tk_ (i := 21) (v := ?_) (y := Or.inl ⟨by rfl, ?_⟩) (h := ?_); rotate_left; (focus (((intro w hSw; (try dsimp only at hSw); go_simp) <;> (try with_reducible rfl)); done)); (try simp only [Act.put, p1_, p2_, p3_]))); ((refine tk_ (i := 22) (v := ?_) (y := Or.inl ⟨by rfl, ?_⟩) (h := ?_); rotate_left; (focus (((intro w hSw; (try dsimp only at hSw); go_simp) <;> (try with_reducible rfl)); done)); (try simp only [Act.put, p1_, p2_, p3_]))); ((refine tk_ (i := 23) (v := ?_) (y := Or.inl ⟨by rfl, ?_⟩) (h := ?_); rotate_left; (focus (((intro w hSw; (try dsimp only at hSw); go_simp) <;> (try with_reducible rfl)); done)); (try simp only [Act.put, p1_, p2_, p3_]))); (refine wpAnyH_done (by kernel_rfl) ?_ _))
              clear g1 g2 g3 g4 g5 g6 c1 c2
              go_wp2_with fail
              go_roundw
              case rel => exact ⟨k + 1, by go_num, by rw [HPS.out], by omega, Kb hA, Kb hB, Kb hR, Kb hO, Ko hown, Kw⟩
              case measure => simp only [intOf]; omega
            · obtain rfl : k = C := by omega
              obtain ⟨x1, x2, x3, x4⟩ := idx_bd (r := R) (c := C2) (i := i) (j := j) hR' hC2 (by omega) (by omega) (by omega) (by omega)
              have hqR : q < R * C2 := by rw [← HQ.out]; exact idx_nat hiR hjC
              have e9 : ((i : Int) * (C2 : Int) + (j : Int)).toNat = q := by rw [← HQ.out, ← Int.natCast_mul, ← Int.natCast_add, Int.toNat_natCast]
              have e8 : (mulL xs R k ys C2).getD q 0 = psum xs k ys C2 i j k := by rw [← HQ.out]; exact mulL_at hiR hjC
              have E9 := Lib.hid e9
              have E8 := Lib.hid e8
              clear e9 e8
              have hnq : q < no := by omega
              obtain ⟨g, rfl, hg1, hg2⟩ := hU0.out (by omega)
              have hc1 := hown.cell q (by rw [fillTo_len (mulL_len _ _ _ _ _) (by omega)]; exact hqR)
              have hf1 := hown.frozen q
              generalize (fillTo (mulL xs R k ys C2) (R * C2) q).getD q 0 = oldv at hc1
              have hst := hown.set_ q (psum xs k ys C2 i j k)
              rw [fillTo_set' (mulL_len _ _ _ _ _) hqR E8.out] at hst
              have hgr := only_set (g := g) (World.grownBy.refl wr (some g)) q (.int .i64 (psum xs k ys C2 i j k))
              have hsz4 : wr.heap.size ≤ (wr.setCell ⟨g, q, none⟩ (.int .i64 (psum xs k ys C2 i j k))).heap.size := by simp [World.setCell]
              have i1 : (0 : Int) ≤ (i : Int) * (C2 : Int) + (j : Int) := by omega
              have i2 : (i : Int) * (C2 : Int) + (j : Int) < (no : Int) := by omega
              have i3 := E9.out
              have hA4 := hA.keptOwn (sv := .slice (some ⟨g, 0, none⟩) no co) hgr hU (by omega)
              have hB4 := hB.keptOwn (sv := .slice (some ⟨g, 0, none⟩) no co) hgr hU (by omega)
              have hR4 := hR.keptOwn (sv := .slice (some ⟨g, 0, none⟩) no co) hgr hU (by omega)
              have hO4 := hO.keptOwn (sv := .slice (some ⟨g, 0, none⟩) no co) hgr hU (by omega)
              have hbw4 : Below w.heap.size w (wr.setCell ⟨g, q, none⟩ (.int .i64 (psum xs k ys C2 i j k))) := hbw.trans (below_keptOwn (sv := .slice (some ⟨g, 0, none⟩) no co) hgr hU (by omega) (by omega))
              have HS := Lib.hid hst
              clear hst
              go_wp2_with fail
              go_roundw
              case rel => exact ⟨j + 1, by go_num, by omega, Kb hA4, Kb hB4, Kb hR4, Kb hO4, by rw [← Nat.add_assoc, HQ.out]; (with_reducible (repeat (first | exact HS.out | refine OR.drew ?_ | refine OR.drewN ?_ _ | refine OR.alloc ?_ _ | refine OR.b_ ?_ | refine OR.l_ ?_))), Kw⟩
              case measure => simp only [intOf]; omega
        · obtain rfl : j = C2 := by omega
          have E7 : Hid ((i + 1) * j = i * j + j) := Lib.hid (by rw [Nat.add_mul, Nat.one_mul])
          go_wp2_with fail
          go_roundw
          case rel => exact ⟨i + 1, by go_num, by omega, Kb hA, Kb hB, Kb hR, Kb hO, by rw [E7.out]; (with_reducible (repeat (first | exact hown | refine OR.drew ?_ | refine OR.drewN ?_ _ | refine OR.alloc ?_ _ | refine OR.b_ ?_ | refine OR.l_ ?_))), Kw⟩
          case measure => simp only [intOf]; omega
    · obtain rfl : i = R := by omega
      have hfin := hown.as (fillTo_all (mulL_len xs i C ys C2))
      obtain ⟨ra, rb, rc, rf, rl⟩ := hR.mx
      clear hown
      go_wp2_with fail
      refine ret_M (r := i) (c := C2) (A := Ao) (n := no) (cap := co) Try.results171 rfl (Kb hR) rfl ?_
      exact MR.mk (xs := mulL xs i C ys C2) rfl (OR.mono (B := w.heap.size + 1 + 1 + 1) (Ko hfin) (by omega)) Kw
end Go.Proofs.Ytacjonkehcamgaa

/-
  DERIVED. choices of the program.
-/
namespace Go.Proofs.Ytacjonkehcamgaa
open Go.RowKit
set_option linter.unusedVariables false
set_option linter.unusedSimpArgs false
theorem OR.shapeC {w : World} {B : Nat} {v : Value} {xs : List Int} (h : OR w B v xs) : ∃ A c, v = .slice A xs.length c := by
  rcases h.form with ⟨h1, h2⟩ | ⟨g, cap, h1, _⟩
  · subst h2; exact ⟨none, 0, h1⟩
  · exact ⟨_, _, h1⟩
theorem pow6 {k : Nat} (h : k ≤ 6) : 6 ^ k ≤ 46656 := by
  have := Nat.pow_le_pow_right (show 0 < 6 by omega) h
  exact Nat.le_trans this (by decide)
/-- A row that was read in one world is read in another that agrees on the blocks from lo on and below hi. -/
theorem RI.agree {w w' : World} {lo hi m : Nat} {A : Option Addr} {xs : List Int} (h : RI w hi A m xs) (hx : 0 < m → ∀ b o, A = some ⟨b, o, none⟩ → lo ≤ b) (ha : ∀ b, lo ≤ b → b < hi → w'.heap[b]? = w.heap[b]?) : RI w' hi A m xs :=
  ⟨h.1, fun hm => by
    obtain ⟨b, o, e, hb, hc⟩ := h.2 hm
    exact ⟨b, o, e, hb, fun k hk => (World.cell?_of_block (a := ⟨b, o + k, none⟩) (ha b (hx hm b o e) hb)).trans (hc k hk)⟩⟩
set_option maxRecDepth 100000 in
set_option maxHeartbeats 8000000 in
theorem impl_choices (n : Nat) (hn : n ≤ 6) : ∀ (k : Nat) (w : World), k ≤ 6 → Calls Try.prog 159 #[.int .i64 n, .int .i64 k] w (ChR (chL n k) w) := by
  intro k
  induction k with
  | zero =>
    intro w hk
    have hc : chL (n : Int) 0 = [] ++ [[]] := rfl
    rw [hc]
    go_enter Try.func159, Try.ntmps159
    go_wp2_with fail
    go_ret
    exact ⟨_, _, _, _, rfl, OT.one _ _ _ (by simp) (by simp), (Rwx.nil_ _ _ _).snoc (RI.nil_ _ _ _) (fun h => absurd h (by omega)), Kw⟩
  | succ k ih =>
    intro w hk
    obtain ⟨T, hT⟩ : ∃ T, T = chL (n : Int) (k + 1) := ⟨_, rfl⟩
    rw [← hT]
    have HIH : Hid (∀ w', Calls Try.prog 159 #[.int .i64 n, .int .i64 (((k + 1 : Nat) : Int) - 1)] w' (ChR (chL n k) w')) := Lib.hid (fun w' => by
      rw [show ((k + 1 : Nat) : Int) - 1 = (k : Int) by omega]
      exact ih w' (by omega))
    have HTL : Hid (T.length ≤ 46656) := Lib.hid (by rw [hT]; exact Nat.le_trans (chL_len hn (k + 1)) (pow6 hk))
    have HT0 : Hid ([] ++ ((chL (n : Int) k).drop 0).flatMap (fun c => extL n c (frm c)) = T) := Lib.hid (by rw [List.drop_zero, List.nil_append, hT]; rfl)
    have HMEM := Lib.hid (chL_mem (Int.natCast_nonneg n) k)
    obtain ⟨K, hK⟩ : ∃ K, K = k + 1 := ⟨_, rfl⟩
    have hkk : k ≤ 6 := by omega
    have hLL : (chL (n : Int) k).length ≤ 46656 := Nat.le_trans (chL_len hn k) (pow6 hkk)
    have hKz : ((K : Int) == 0) = false := by simp; omega
    rw [← hK] at HIH hk ⊢
    have HK := Lib.hid hK
    clear ih hT hK
    generalize chL (n : Int) k = L at *
    go_enter Try.func159, Try.ntmps159
    go_wp2_with fail
    refine (HIH.out _).mono ?_
    rintro e wS ⟨Ac, nc, capc, vsc, rfl, hOc, hRc, hbS⟩
    have hsS := hbS.size
    simp at hsS
    have hO0 : OT wS w.heap.size (.slice (some ⟨w.heap.size, 0, none⟩) 0 0) [] := (OT.empty w w.heap.size rfl (Nat.le_refl _)).below hbS (Nat.le_refl _)
    have hbw0 : Below w.heap.size w wS := Below.trans (show Below w.heap.size w (w.alloc (.cells #[] 24)) from Kw) (hbS.mono (by simp))
    have hlc : vsc.length = L.length := hRc.1
    have hncl : nc = vsc.length := by
      rcases hOc.form with ⟨h1, h2⟩ | ⟨g, cap, h1, _⟩
      · injection h1 with e1 e2 e3; subst h2; exact e2
      · injection h1
    have hnl : nc ≤ L.length ∧ L.length ≤ nc := by omega
    have HOC := Lib.hid hOc
    have HRC0 := Lib.hid hRc
    obtain ⟨Bs, hBs⟩ : ∃ Bs, Hid (Bs = wS.heap.size) := ⟨_, Lib.hid rfl⟩
    have hBs1 : Bs ≤ wS.heap.size ∧ w.heap.size + 1 ≤ Bs := by have := hBs.out; omega
    clear hOc hRc hbS hlc hncl
    go_wp2_with fail
    go_loopg [5, 20] (nc + 1) (fun gn vo u wr => ∃ (q : Nat) (vs : List Value) (rs : List (List Int)), u = .int .i64 q ∧ q ≤ nc ∧ nc - q < gn ∧ OT wr w.heap.size vo vs ∧ Rwx wr w.heap.size vo vs rs ∧ Hid (rs ++ (L.drop q).flatMap (fun c => extL n c (frm c)) = T) ∧ Hid (∀ b, vo.ownBlock = some b → b < w.heap.size + 1 ∨ Bs ≤ b) ∧ Hid (∀ b, w.heap.size + 1 ≤ b → b < Bs → wr.heap[b]? = wS.heap[b]?) ∧ Bs ≤ wr.heap.size ∧ Below w.heap.size w wr)
    case atStart => exact ⟨0, [], [], rfl, Nat.zero_le _, by omega, hO0, Rwx.nil_ _ _ _, HT0, Lib.hid (fun b e => by cases e; exact .inl (Nat.lt_succ_self _)), Lib.hid (fun b _ _ => rfl), hBs1.1, hbw0⟩
    case round =>
      clear hO0 hbw0 HT0
      obtain ⟨q, vs, rs, rfl, hq, hgk, hO, hR, HT1, HOB, HAG, hBs2, hbw⟩ := hrel
      by_cases hlt : q < nc
      · have hqL : q < L.length := by omega
        obtain ⟨gC, rfl, hgC1, hgC2⟩ : ∃ gC, Ac = some ⟨gC, 0, none⟩ ∧ w.heap.size + 1 ≤ gC ∧ gC < Bs := by
          rcases HOC.out.form with ⟨h1, h2⟩ | ⟨g, cap, h1, h2, h3, _⟩
          · injection h1 with e1 e2 e3; omega
          · injection h1 with e1 e2 e3
            have := hBs.out
            simp at h2
            exact ⟨g, e1, h2, by omega⟩
        obtain ⟨A, m, c, e1, hri, hxx⟩ := HRC0.out.2 q hqL
        have hcc := HMEM.out (L.getD q []) (by simp [List.getD, hqL])
        have cl : wr.cell? ⟨gC, q, none⟩ = some (.slice A m c) := (World.cell?_of_block (a := ⟨gC, q, none⟩) (HAG.out gC hgC1 hgC2)).trans ((HOC.out.cell q (by have := HRC0.out.1; omega)).trans e1)
        have hml : m = (L.getD q []).length := hri.len.symm
        have HRC : Hid (RI wS Bs A m (L.getD q [])) := Lib.hid (by rw [hBs.out]; exact hri)
        have HXC : Hid (0 < m → ∀ b o, A = some ⟨b, o, none⟩ → w.heap.size + 1 ≤ b) := Lib.hid (fun h b o e => by have := (hxx h b o e).1; simp at this; exact this)
        have HT1' : Hid (rs ++ (extL n (L.getD q []) (frm (L.getD q [])) ++ (L.drop (q + 1)).flatMap (fun c => extL n c (frm c))) = T) := Lib.hid (by
          have := HT1.out
          rw [List.drop_eq_getElem_cons hqL, List.flatMap_cons] at this
          rw [← this]
          simp [List.getD, hqL])
        have hfb := frm_bd hcc.2 (Int.natCast_nonneg n)
        have hck := hcc.1
        have hfr0 : k = 0 → frm (L.getD q []) = 0 := fun h => by unfold frm; rw [if_pos (by omega)]
        have hfr1 : 0 < k → frm (L.getD q []) = (L.getD q []).getD (k - 1) 0 + 1 := fun h => by unfold frm; rw [if_neg (by omega), hck]
        have HF0 := Lib.hid hfr0
        have HF1 := Lib.hid hfr1
        clear HT1 e1 hri hxx hcc hfr0 hfr1
        have HT1 := HT1'
        clear HT1'
        obtain ⟨rest, HREST⟩ : ∃ r, Hid ((L.drop (q + 1)).flatMap (fun c => extL n c (frm c)) = r) := ⟨_, Lib.hid rfl⟩
        rw [HREST.out] at HT1
        obtain ⟨gO, rfl⟩ : ∃ gO : Nat, gO = gk := ⟨_, rfl⟩
        generalize L.getD q [] = cc at *
        obtain ⟨hf1, hf2⟩ := hfb
        have hccl : cc.length ≤ 6 ∧ m ≤ cc.length ∧ cc.length ≤ m := by omega
        obtain ⟨hcl, hcm1, hcm2⟩ := hccl
        have HCK := Lib.hid hck
        by_cases hk0 : k = 0
        · have hm0 : m = 0 := by omega
          clear hck hml
          subst hm0
          have HFZ := Lib.hid (HF0.out hk0)
          clear hk0
          have hf3 := hf1
          have hf4 := hf2
          rw [HFZ.out] at hf3 hf4 HT1
          clear hf1 hf2 HF0 HF1
          have hf1 := hf3
          have hf2 := hf4
          clear hf3 hf4
          go_wp2_with fail
          obtain ⟨wo2, rfl⟩ : ∃ wo : World, wo = wr := ⟨_, rfl⟩
          go_loopg [5, 9] (n + 2) (fun gn vo u wq => ∃ (i : Int) (vs : List Value) (rs : List (List Int)), u = .int .i64 i ∧ 0 ≤ i ∧ i ≤ n ∧ ((n : Int) - i).toNat < gn ∧ OT wq w.heap.size vo vs ∧ Rwx wq w.heap.size vo vs rs ∧ Hid (rs ++ (extL n cc i ++ rest) = T) ∧ Hid (∀ b, vo.ownBlock = some b → b < w.heap.size + 1 ∨ Bs ≤ b) ∧ Hid (∀ b, w.heap.size + 1 ≤ b → b < Bs → wq.heap[b]? = wS.heap[b]?) ∧ Bs ≤ wq.heap.size ∧ Below w.heap.size w wq)
          case atStart => exact ⟨0, vs, rs, rfl, hf1, hf2, by omega, by first | exact hO | exact hO.drewN _, by first | exact hR, HT1, HOB, by first | exact HAG, hBs2, Kw⟩
          case round =>
            clear hO hR HT1 HOB HAG hBs2 hbw
            obtain ⟨i, vs, rs, rfl, hi0, hin, hgi, hO, hR, HT2, HOB, HAG, hBs2, hbw⟩ := hrel
            by_cases hlt : i < n
            · have hric : RI wr Bs A 0 cc := RI.agree (lo := w.heap.size + 1) HRC.out HXC.out HAG.out
              have hsq := hbw.size
              have hvl : vs.length ≤ 1000000 := by
                have h1 := hR.1
                have h2 := congrArg List.length HT2.out
                rw [List.length_append] at h2
                have h3 := HTL.out
                omega
              have HT3 : Hid ((rs ++ [cc ++ [i]]) ++ (extL n cc (i + 1) ++ rest) = T) := Lib.hid (by
                have := HT2.out
                rw [extL_yes hlt] at this
                rw [← this]
                simp)
              have hRC := Lib.hid hric
              clear hric HT2
              have hob0 : OR (wr.alloc (.cells #[] 3)) wr.heap.size (.slice (some ⟨wr.heap.size, 0, none⟩) 0 0) [] := OR.empty' _ _ rfl (Nat.le_refl _)
              go_wp2_with (at_builtin; refine wpList_append_ints _ rfl (.tmp 41) (.tmp 42) rfl wr.heap.size _ [] rfl ?c1 Bs A 0 c cc rfl ?c2 ?c3 ?c4 ?_)
              case c1 => exact hob0
              case c2 => exact hRC.out.alloc hBs2 _
              case c3 => first | omega | (simp; omega) | (simp; done)
              case c4 => simp
              intro v1 w1 hown1 hgr1 hat1
              (try rw [List.nil_append] at hown1)
              have hb1 : Below wr.heap.size wr w1 := Below.trans (Below.alloc (Below.refl _ _) (Nat.le_refl _) _) (only_below hgr1 (by simp) (fun g e => by cases e; exact Nat.le_refl _))
              obtain ⟨A1, c1, rfl⟩ := hown1.shapeC
              clear hgr1 hat1 hob0
              go_wp2_with (at_builtin; refine wpList_append_one _ rfl (.tmp 43) (.tmp 45) rfl wr.heap.size _ cc rfl (hown1.alloc _) _ i rfl ?d1 ?d2 ?d3 ?_)
              case d1 => simp [go_sem]
              case d2 => omega
              case d3 => have := hb1.size; simp; omega
              intro v2 w2 hown2 hgr2 hat2
              have hb2 : Below wr.heap.size wr w2 := Below.trans (Below.alloc hb1 hb1.size _) ((hown1.alloc (.cells #[.int .i64 i] 3)).below_grown hgr2 (by have := hb1.size; simp; omega))
              obtain ⟨A2, c2, rfl⟩ := hown2.shapeC
              have hl1 : (cc ++ [i]).length = cc.length + 1 := by simp
              rw [hl1] at hown2 hat2 ⊢
              obtain ⟨gA, rfl, hgA1, hgA2⟩ := hown2.begins (by simp)
              have hO2 := (hO.below hb2 (Nat.le_refl _))
              have hR2 := (hR.below hb2 (Nat.le_refl _))
              have hs2 := hb2.size
              clear hgr2 hat2 hown1 hb1
              go_wp2_with (at_builtin; refine wpList_append_slT _ rfl (.tmp 40) (.tmp 47) rfl w.heap.size _ vs rfl (hO2.alloc _) _ (.slice (some ⟨gA, 0, none⟩) (cc.length + 1) c2) rfl rfl ?e1 ?e2 ?e3 ?_)
              case e1 => simp [go_sem]
              case e2 => omega
              case e3 => simp; omega
              intro v3 w3 hown3 hgr3 hat3
              have how3 := hown2.alloc (.cells #[.slice (some ⟨gA, 0, none⟩) (cc.length + 1) c2] 24)
              have how4 := how3.kept hgr3 (.inr (fun e => by have h2 := hO.own gA (by rw [← e]; rfl); omega))
              have hR3 := (hR2.below (w' := w2.alloc (.cells #[.slice (some ⟨gA, 0, none⟩) (cc.length + 1) c2] 24)) (D := w2.heap.size) (Below.alloc (Below.refl _ _) (Nat.le_refl _) _) (Nat.le_refl _)).grown (v' := v3) hgr3 (by simpa using hat3)
              have hsq2 := hbw.size
              have hR4 := hR3.snoc (c := c2) how4.reads (fun hm b o hA => by
                injection hA with hA
                injection hA with h1
                subst h1
                refine ⟨by omega, ?_⟩
                rcases hat3 with e | e
                · rw [e]; intro e2; have := (hO.own _ e2).2; omega
                · rw [e]; intro e2; injection e2 with e2; (try simp at e2); omega)
              have HOB3 : Hid (∀ b, v3.ownBlock = some b → b < w.heap.size + 1 ∨ Bs ≤ b) := Lib.hid (fun b e => by
                rcases hat3 with e2 | e2
                · rw [e2] at e; exact HOB.out b e
                · rw [e2] at e; injection e with e; (try simp at e); right; omega)
              have HAG3 : Hid (∀ b, w.heap.size + 1 ≤ b → b < Bs → w3.heap[b]? = wS.heap[b]?) := Lib.hid (fun b h1 h2 => by
                refine (hgr3.block b (by simp; omega) (fun e => ?_)).trans ((Below.heap_alloc w2 _ b (by omega)).trans ((hb2.block b (by omega)).trans (HAG.out b h1 h2)))
                rcases HOB.out b e.symm with h3 | h3 <;> omega)
              have hs3 := hgr3.size
              simp at hs3
              have hbw3 : Below w.heap.size w w3 := (hbw.trans (hb2.mono (by omega))).trans (Below.trans (Below.alloc (Below.refl _ _) (by omega) _) (only_below hgr3 (by simp; omega) (fun g e => (hO.own g e).1)))
              clear hgr3 hat3 hO hR hbw hown2 hO2 hR2 how3 how4 hR3 hb2 HOB HAG
              go_wp2_with fail
              go_roundg (gk - 1)
              case measure => omega
              case rel => exact ⟨i + 1, _, _, by go_num, by omega, by omega, by omega, hown3, hR4, HT3, HOB3, HAG3, by omega, hbw3⟩
            · have HT3 : Hid (rs ++ (L.drop (q + 1)).flatMap (fun c => extL n c (frm c)) = T) := Lib.hid (by
                have := HT2.out
                rw [extL_no hlt, List.nil_append] at this
                rw [HREST.out]
                exact this)
              clear HT2
              go_wp2_with fail
              go_roundg (gO - 1)
              case measure => omega
              case rel => exact ⟨q + 1, vs, rs, by go_num, by omega, by omega, hO, hR, HT3, HOB, HAG, hBs2, hbw⟩
        · have hkp : 0 < k := by omega
          have hric : RI wr Bs A m cc := RI.agree (lo := w.heap.size + 1) HRC.out HXC.out HAG.out
          obtain ⟨b, o, rfl, hbb, hcells⟩ := hric.2 (by omega)
          have cx := hcells (k - 1) (by omega)
          have HFX := Lib.hid (HF1.out hkp)
          have hx := HFX.out
          rw [hx] at hf1 hf2 HT1
          have e6 : k - 1 = m - 1 := by omega
          generalize hxx : cc.getD (k - 1) 0 = x at *
          rw [e6] at cx
          have hxx2 := Lib.hid hxx
          clear hxx
          have hm1 : IntKind.i64.wrap ((m : Int) - 1) = (m : Int) - 1 := IntWalk.i64_in _ (by omega)
          have hm2 : 0 ≤ (m : Int) - 1 ∧ (m : Int) - 1 < (m : Int) := by omega
          have hmz : decide (0 < m) = true := by simp; omega
          clear hx e6 hcells hric hck hml HF0 HF1
          clear hkp hk0
          go_wp2_with fail
          obtain ⟨wo2, rfl⟩ : ∃ wo : World, wo = wr := ⟨_, rfl⟩
          go_loopg [5, 9] (n + 2) (fun gn vo u wq => ∃ (i : Int) (vs : List Value) (rs : List (List Int)), u = .int .i64 i ∧ 0 ≤ i ∧ i ≤ n ∧ ((n : Int) - i).toNat < gn ∧ OT wq w.heap.size vo vs ∧ Rwx wq w.heap.size vo vs rs ∧ Hid (rs ++ (extL n cc i ++ rest) = T) ∧ Hid (∀ b, vo.ownBlock = some b → b < w.heap.size + 1 ∨ Bs ≤ b) ∧ Hid (∀ b, w.heap.size + 1 ≤ b → b < Bs → wq.heap[b]? = wS.heap[b]?) ∧ Bs ≤ wq.heap.size ∧ Below w.heap.size w wq)
          case atStart => exact ⟨x + 1, vs, rs, rfl, hf1, hf2, by omega, by first | exact hO | exact hO.drewN _, by first | exact hR, HT1, HOB, by first | exact HAG, hBs2, Kw⟩
          case round =>
            clear hO hR HT1 HOB HAG hBs2 hbw
            obtain ⟨i, vs, rs, rfl, hi0, hin, hgi, hO, hR, HT2, HOB, HAG, hBs2, hbw⟩ := hrel
            by_cases hlt : i < n
            · have hric : RI wr Bs (some ⟨b, o, none⟩) m cc := RI.agree (lo := w.heap.size + 1) HRC.out HXC.out HAG.out
              have hsq := hbw.size
              have hvl : vs.length ≤ 1000000 := by
                have h1 := hR.1
                have h2 := congrArg List.length HT2.out
                rw [List.length_append] at h2
                have h3 := HTL.out
                omega
              have HT3 : Hid ((rs ++ [cc ++ [i]]) ++ (extL n cc (i + 1) ++ rest) = T) := Lib.hid (by
                have := HT2.out
                rw [extL_yes hlt] at this
                rw [← this]
                simp)
              have hRC := Lib.hid hric
              clear hric HT2
              have hob0 : OR (wr.alloc (.cells #[] 3)) wr.heap.size (.slice (some ⟨wr.heap.size, 0, none⟩) 0 0) [] := OR.empty' _ _ rfl (Nat.le_refl _)
              go_wp2_with (at_builtin; refine wpList_append_ints _ rfl (.tmp 41) (.tmp 42) rfl wr.heap.size _ [] rfl ?c1 Bs (some ⟨b, o, none⟩) m c cc rfl ?c2 ?c3 ?c4 ?_)
              case c1 => exact hob0
              case c2 => exact hRC.out.alloc hBs2 _
              case c3 => first | omega | (simp; omega) | (simp; done)
              case c4 => simp
              intro v1 w1 hown1 hgr1 hat1
              (try rw [List.nil_append] at hown1)
              have hb1 : Below wr.heap.size wr w1 := Below.trans (Below.alloc (Below.refl _ _) (Nat.le_refl _) _) (only_below hgr1 (by simp) (fun g e => by cases e; exact Nat.le_refl _))
              obtain ⟨A1, c1, rfl⟩ := hown1.shapeC
              clear hgr1 hat1 hob0
              go_wp2_with (at_builtin; refine wpList_append_one _ rfl (.tmp 43) (.tmp 45) rfl wr.heap.size _ cc rfl (hown1.alloc _) _ i rfl ?d1 ?d2 ?d3 ?_)
              case d1 => simp [go_sem]
              case d2 => omega
              case d3 => have := hb1.size; simp; omega
              intro v2 w2 hown2 hgr2 hat2
              have hb2 : Below wr.heap.size wr w2 := Below.trans (Below.alloc hb1 hb1.size _) ((hown1.alloc (.cells #[.int .i64 i] 3)).below_grown hgr2 (by have := hb1.size; simp; omega))
              obtain ⟨A2, c2, rfl⟩ := hown2.shapeC
              have hl1 : (cc ++ [i]).length = cc.length + 1 := by simp
              rw [hl1] at hown2 hat2 ⊢
              obtain ⟨gA, rfl, hgA1, hgA2⟩ := hown2.begins (by simp)
              have hO2 := (hO.below hb2 (Nat.le_refl _))
              have hR2 := (hR.below hb2 (Nat.le_refl _))
              have hs2 := hb2.size
              clear hgr2 hat2 hown1 hb1
              go_wp2_with (at_builtin; refine wpList_append_slT _ rfl (.tmp 40) (.tmp 47) rfl w.heap.size _ vs rfl (hO2.alloc _) _ (.slice (some ⟨gA, 0, none⟩) (cc.length + 1) c2) rfl rfl ?e1 ?e2 ?e3 ?_)
              case e1 => simp [go_sem]
              case e2 => omega
              case e3 => simp; omega
              intro v3 w3 hown3 hgr3 hat3
              have how3 := hown2.alloc (.cells #[.slice (some ⟨gA, 0, none⟩) (cc.length + 1) c2] 24)
              have how4 := how3.kept hgr3 (.inr (fun e => by have h2 := hO.own gA (by rw [← e]; rfl); omega))
              have hR3 := (hR2.below (w' := w2.alloc (.cells #[.slice (some ⟨gA, 0, none⟩) (cc.length + 1) c2] 24)) (D := w2.heap.size) (Below.alloc (Below.refl _ _) (Nat.le_refl _) _) (Nat.le_refl _)).grown (v' := v3) hgr3 (by simpa using hat3)
              have hsq2 := hbw.size
              have hR4 := hR3.snoc (c := c2) how4.reads (fun hm b o hA => by
                injection hA with hA
                injection hA with h1
                subst h1
                refine ⟨by omega, ?_⟩
                rcases hat3 with e | e
                · rw [e]; intro e2; have := (hO.own _ e2).2; omega
                · rw [e]; intro e2; injection e2 with e2; (try simp at e2); omega)
              have HOB3 : Hid (∀ b, v3.ownBlock = some b → b < w.heap.size + 1 ∨ Bs ≤ b) := Lib.hid (fun b e => by
                rcases hat3 with e2 | e2
                · rw [e2] at e; exact HOB.out b e
                · rw [e2] at e; injection e with e; (try simp at e); right; omega)
              have HAG3 : Hid (∀ b, w.heap.size + 1 ≤ b → b < Bs → w3.heap[b]? = wS.heap[b]?) := Lib.hid (fun b h1 h2 => by
                refine (hgr3.block b (by simp; omega) (fun e => ?_)).trans ((Below.heap_alloc w2 _ b (by omega)).trans ((hb2.block b (by omega)).trans (HAG.out b h1 h2)))
                rcases HOB.out b e.symm with h3 | h3 <;> omega)
              have hs3 := hgr3.size
              simp at hs3
              have hbw3 : Below w.heap.size w w3 := (hbw.trans (hb2.mono (by omega))).trans (Below.trans (Below.alloc (Below.refl _ _) (by omega) _) (only_below hgr3 (by simp; omega) (fun g e => (hO.own g e).1)))
              clear hgr3 hat3 hO hR hbw hown2 hO2 hR2 how3 how4 hR3 hb2 HOB HAG
              go_wp2_with fail
              go_roundg (gk - 1)
              case measure => omega
              case rel => exact ⟨i + 1, _, _, by go_num, by omega, by omega, by omega, hown3, hR4, HT3, HOB3, HAG3, by omega, hbw3⟩
            · have HT3 : Hid (rs ++ (L.drop (q + 1)).flatMap (fun c => extL n c (frm c)) = T) := Lib.hid (by
                have := HT2.out
                rw [extL_no hlt, List.nil_append] at this
                rw [HREST.out]
                exact this)
              clear HT2
              go_wp2_with fail
              go_roundg (gO - 1)
              case measure => omega
              case rel => exact ⟨q + 1, vs, rs, by go_num, by omega, by omega, hO, hR, HT3, HOB, HAG, hBs2, hbw⟩
      · have HT2 : Hid (rs = T) := Lib.hid (by
          have := HT1.out
          rw [List.drop_of_length_le (by omega)] at this
          simpa using this)
        obtain ⟨A9, c9, rfl⟩ := hO.shape
        go_wp2_with fail
        go_ret
        rw [← HT2.out]
        exact ⟨_, _, _, vs, rfl, hO, hR, hbw⟩
end Go.Proofs.Ytacjonkehcamgaa

/-
  DERIVED. l13Subsets of the reference.
-/
namespace Go.Proofs.Ytacjonkehcamgaa
open Go.RowKit
set_option linter.unusedVariables false
set_option linter.unusedSimpArgs false
theorem Rwx.more {w : World} {B C : Nat} {v : Value} {vs : List Value} {rs : List (List Int)} (h : Rwx w C v vs rs) (hB : B ≤ C) : Rwx w B v vs rs :=
  ⟨h.1, fun k hk => by
    obtain ⟨A, m, c, e, hr, hx⟩ := h.2 k hk
    exact ⟨A, m, c, e, hr, fun hm b o hA => ⟨Nat.le_trans hB (hx hm b o hA).1, (hx hm b o hA).2⟩⟩⟩
theorem OT.more {w : World} {B C : Nat} {v : Value} {vs : List Value} (h : OT w C v vs) (hB : B ≤ C) : OT w B v vs := by
  refine ⟨h.1, h.2.imp id ?_⟩
  rintro ⟨g, cap, cur, h1, h2, h3⟩
  exact ⟨g, cap, cur, h1, Nat.le_trans hB h2, h3⟩
end Go.Proofs.Ytacjonkehcamgaa

/-
  DERIVED. The cells of some rows and columns; l13Part of the reference.
-/
namespace Go.Proofs.Ytacjonkehcamgaa
open Go.RowKit
set_option linter.unusedVariables false
set_option linter.unusedSimpArgs false
def pF (xs : List Int) (C : Nat) (rs cs : List Int) : Nat → Nat → Int := fun i j => cel xs C (rs.getD i 0) (cs.getD j 0)
theorem take_snocP {xs : List Int} {k : Nat} (h : k < xs.length) : xs.take (k + 1) = xs.take k ++ [xs.getD k 0] := by
  rw [List.take_add_one]
  simp [List.getD, h]
theorem tb_stepP {k i j : Nat} {f : Nat → Nat → Int} (hi : i < k) (hj : j < k) : (tb k k f).take (i * k + (j + 1)) = (tb k k f).take (i * k + j) ++ [f i j] := by
  have h := idx_nat hi hj
  rw [← Nat.add_assoc, take_snocP (by rw [tb_len]; exact h), tb_at hi hj]
theorem mem_getDP {l : List Int} {i : Nat} (h : i < l.length) : l.getD i 0 ∈ l := by simp [List.getD, h]
theorem pF_idx {R C : Nat} {x y : Int} (hR : R ≤ 24) (hC : C ≤ 24) (h1 : 0 ≤ x ∧ x < (R : Int)) (h2 : 0 ≤ y ∧ y < (C : Int)) : (0 ≤ x * (C : Int) ∧ x * (C : Int) ≤ 10000) ∧ (0 ≤ y ∧ y ≤ 10000) ∧ x * (C : Int) + y < (R : Int) * (C : Int) := by
  obtain ⟨a, rfl⟩ := nat_of h1.1
  obtain ⟨b, rfl⟩ := nat_of h2.1
  have h3 := idx_nat (r := R) (c := C) (i := a) (j := b) (by omega) (by omega)
  have h4 : a * C ≤ 24 * 24 := Nat.mul_le_mul (by omega) hC
  have e : (a : Int) * (C : Int) = ((a * C : Nat) : Int) := by rw [Int.natCast_mul]
  have e2 : (R : Int) * (C : Int) = ((R * C : Nat) : Int) := by rw [Int.natCast_mul]
  omega
end Go.Proofs.Ytacjonkehcamgaa

/-
  DERIVED. The laws' unimodular, IsUnimodular: where the determinant is 1 or -1.
-/
namespace Go.Proofs.Ytacjonkehcamgaa
open Go.RowKit
set_option linter.unusedVariables false
set_option linter.unusedSimpArgs false
theorem impl_IsUnimodular (r c : Int) (A : Option Addr) (n cap : Nat) (xs : List Int) (w : World) {B : Nat} {d : Int} (h : RI w B A n xs) (hB : B ≤ w.heap.size) (hn : n ≤ 1048576) (hd : dtO r c xs = some d) (h1 : d = 1 ∨ d = -1) :
    Calls Try.prog 143 #[.agg #[.int .i64 r, .int .i64 c, .slice A n cap]] w (BV (.bool true) w) := by
  have H2 := Lib.hid (h.more hB)
  have HD := Lib.hid hd
  clear h hd
  go_enter Try.func143, Try.ntmps143
  go_wp2_with fail
  refine (impl_DeterminantOf r c A n cap xs _ (B := w.heap.size) (Kr H2.out) Ks hn).mono ?_
  rw [HD.out]
  rintro e w1 ⟨rfl, hb1⟩
  rcases h1 with h1 | h1
  all_goals
    subst h1
    go_wp2_with fail
    refine (impl_absInt _ _ (by decide) (by decide)).mono ?_
    rintro e w2 ⟨rfl, rfl⟩
    go_wp2_with fail
    go_ret
    exact BV.mk rfl Kw
theorem laws_unimodular (r c : Int) (A : Option Addr) (n cap : Nat) (xs : List Int) (w : World) {B : Nat} (h : RI w B A n xs) (hB : B ≤ w.heap.size) (hn : n ≤ 1048576) (h1 : ∀ d, dtO r c xs = some d → d = 1 ∨ d = -1) :
    Calls Try.prog 47 #[.agg #[.int .i64 r, .int .i64 c, .slice A n cap]] w (BV (.bool true) w) := by
  have H2 := Lib.hid (h.more hB)
  clear h
  rcases hd : dtO r c xs with _ | d
  · have HD := Lib.hid hd
    clear hd
    go_enter Try.func47, Try.ntmps47
    go_wp2_with fail
    refine (spec_DeterminantOf r c A n cap xs _ (B := w.heap.size) (Kr H2.out) Ks hn).mono ?_
    rw [HD.out]
    rintro e w1 ⟨rfl, hb1⟩
    go_wp2_with fail
    go_ret
    exact BV.mk rfl Kw
  · have h2 := h1 d hd
    have HD := Lib.hid hd
    clear hd h1
    go_enter Try.func47, Try.ntmps47
    go_wp2_with fail
    refine (spec_DeterminantOf r c A n cap xs _ (B := w.heap.size) (Kr H2.out) Ks hn).mono ?_
    rw [HD.out]
    rintro e w1 ⟨rfl, hb1⟩
    have hsz := hb1.size
    simp at hsz
    have hM : BM w1 w.heap.size r c A n cap := Ka
    have H2' : Hid (RI w1 w.heap.size A n xs) := Lib.hid (Kr H2.out)
    have hbw : Below w.heap.size w w1 := Kw
    clear hb1
    obtain ⟨ma, mb, mc, mf, ml⟩ := hM.mx
    rcases h2 with h2 | h2
    all_goals
      have HD' := HD
      subst h2
      go_wp2_with fail
      refine (impl_IsUnimodular r c A n cap xs _ (B := w.heap.size) (Kr H2'.out) Ks hn HD'.out (by first | exact .inl rfl | exact .inr rfl)).mono ?_
      rintro e w2 ⟨rfl, hb2⟩
      go_wp2_with fail
      go_ret
      exact BV.mk rfl Kw
end Go.Proofs.Ytacjonkehcamgaa

/-
  DERIVED. The greatest common divisor of the minors: its plain form; MinorGcd of the reference.
-/
namespace Go.Proofs.Ytacjonkehcamgaa
open Go.RowKit
set_option linter.unusedVariables false
set_option linter.unusedSimpArgs false
def mgK (D : Nat → Option Int) : Nat → Option Int
  | 0 => some 0
  | q + 1 => (mgK D q).bind fun g => (D q).bind fun d => some (Int.gcd g d : Nat)
theorem mgK_next {D : Nat → Option Int} {q : Nat} {g d : Int} (h : mgK D q = some g) (hd : D q = some d) : mgK D (q + 1) = some (Int.gcd g d : Nat) := by
  show (mgK D q).bind _ = _
  rw [h]
  show (D q).bind _ = _
  rw [hd]; rfl
theorem mgK_bad {D : Nat → Option Int} {q : Nat} (hd : D q = none) : ∀ p, q < p → mgK D p = none
  | 0, h => absurd h (Nat.not_lt_zero _)
  | p + 1, h => by
    show (mgK D p).bind _ = _
    rcases Nat.lt_or_ge q p with h1 | h1
    · rw [mgK_bad hd p h1]; rfl
    · obtain rfl : q = p := by omega
      rcases mgK D q with _ | g
      · rfl
      · show (D q).bind _ = _
        rw [hd]; rfl
theorem gcd_bdM {g d : Int} (hg : 0 ≤ g ∧ g ≤ 400000000) (hd : -400000000 ≤ d ∧ d ≤ 400000000) : 0 ≤ ((Int.gcd g d : Nat) : Int) ∧ ((Int.gcd g d : Nat) : Int) ≤ 400000000 := by
  refine ⟨Int.natCast_nonneg _, ?_⟩
  by_cases h0 : g = 0
  · subst h0
    simp only [Int.gcd_zero_left]
    omega
  · have := Nat.le_of_dvd (show 0 < g.natAbs by omega) (Int.gcd_dvd_natAbs_left g d)
    omega
/-- The minors in order. -/
def mgD (r c : Int) (xs : List Int) (k : Nat) (q : Nat) : Option Int :=
  detL k (tb k k (pF xs c.toNat ((chL r k).getD (q / (chL c k).length) []) ((chL c k).getD (q % (chL c k).length) [])))
def mgB (r c : Int) (xs : List Int) (k : Int) : Bool := isMat r c xs && decide (r ≤ 6) && decide (c ≤ 6) && decide (0 ≤ k) && decide (k ≤ min r c)
def mgO (r c : Int) (xs : List Int) (k : Int) : Option Int := if mgB r c xs k then mgK (mgD r c xs k.toNat) ((chL r k.toNat).length * (chL c k.toNat).length) else none
theorem mg_cases (r c : Int) (xs : List Int) (k : Int) : (mgO r c xs k = none ∧ isMat r c xs = false) ∨ (mgO r c xs k = none ∧ isMat r c xs = true ∧ 6 < r) ∨ (mgO r c xs k = none ∧ isMat r c xs = true ∧ r ≤ 6 ∧ 6 < c) ∨
    (mgO r c xs k = none ∧ isMat r c xs = true ∧ r ≤ 6 ∧ c ≤ 6 ∧ k < 0) ∨ (mgO r c xs k = none ∧ isMat r c xs = true ∧ r ≤ 6 ∧ c ≤ 6 ∧ 0 ≤ k ∧ min r c < k) ∨
    (mgO r c xs k = mgK (mgD r c xs k.toNat) ((chL r k.toNat).length * (chL c k.toNat).length) ∧ isMat r c xs = true ∧ r ≤ 6 ∧ c ≤ 6 ∧ 0 ≤ k ∧ k ≤ min r c) := by
  unfold mgO mgB
  rcases isMat r c xs with _ | _
  · exact .inl ⟨rfl, rfl⟩
  · by_cases h1 : r ≤ 6
    · by_cases h2 : c ≤ 6
      · by_cases h3 : 0 ≤ k
        · by_cases h4 : k ≤ min r c
          · right; right; right; right; right
            simp only [h1, h2, h3, h4, decide_true, Bool.and_self, if_true, and_self]
          · right; right; right; right; left
            simp only [h1, h2, h3, h4, decide_true, decide_false, Bool.and_self, Bool.and_false, Bool.false_eq_true, if_false, true_and]
            omega
        · right; right; right; left
          simp only [h1, h2, h3, decide_true, decide_false, Bool.and_self, Bool.and_false, Bool.false_and, Bool.false_eq_true, if_false, true_and]
          omega
      · right; right; left
        simp only [h1, h2, decide_true, decide_false, Bool.and_self, Bool.and_false, Bool.false_and, Bool.false_eq_true, if_false, true_and]
        omega
    · right; left
      simp only [h1, decide_false, Bool.and_false, Bool.false_and, Bool.false_eq_true, if_false, true_and]
      omega
theorem mem_getDL {l : List (List Int)} {i : Nat} (h : i < l.length) : l.getD i [] ∈ l := by simp [List.getD, h]
theorem OT.row {w : World} {B n c : Nat} {A : Option Addr} {vs : List Value} {rs : List (List Int)} (hO : OT w B (.slice A n c) vs) (hR : Rwx w B (.slice A n c) vs rs) {i : Nat} (hi : i < rs.length) :
    ∃ g A' m c', A = some ⟨g, 0, none⟩ ∧ g < w.heap.size ∧ w.cell? ⟨g, i, none⟩ = some (.slice A' m c') ∧ RI w w.heap.size A' m (rs.getD i []) := by
  obtain ⟨A', m, c', e1, hri, _⟩ := hR.2 i hi
  have hv : i < vs.length := by have := hR.1; omega
  rcases hO.form with ⟨h1, h2⟩ | ⟨g, cap, h1, h2, h3, _⟩
  · subst h2; exact absurd hv (Nat.not_lt_zero _)
  · injection h1 with e2 e3 e4
    subst e2
    exact ⟨g, A', m, c', rfl, h3, (hO.cell i hv).trans e1, hri⟩
theorem OT.lenN {w : World} {B n c : Nat} {A : Option Addr} {vs : List Value} {rs : List (List Int)} (hO : OT w B (.slice A n c) vs) (hR : Rwx w B (.slice A n c) vs rs) : n = rs.length := by
  rcases hO.form with ⟨h1, h2⟩ | ⟨g, cap, h1, h2, h3, _⟩
  · injection h1 with e2 e3 e4; subst h2; have := hR.1; simp at this; omega
  · injection h1 with e2 e3 e4; have := hR.1; omega
theorem pF_num {xs : List Int} {C k : Nat} {rs cs : List Int} (h : xs.all isNum = true) : (tb k k (pF xs C rs cs)).all isNum = true := by
  rw [List.all_eq_true]
  exact tb_mem (P := fun x => isNum x = true) (fun i j _ _ => (getD_num h _).isN)
end Go.Proofs.Ytacjonkehcamgaa

/-
  DERIVED. MultiplyMatrices of the reference.
-/
namespace Go.Proofs.Ytacjonkehcamgaa
open Go.RowKit
set_option linter.unusedVariables false
set_option linter.unusedSimpArgs false
set_option maxRecDepth 100000 in
set_option maxHeartbeats 8000000 in
theorem spec_MultiplyMatrices (r c r2 c2 : Int) (A A' : Option Addr) (n cap n' cap' : Nat) (xs ys : List Int) (w : World) {B B' : Nat} (h : RI w B A n xs) (h' : RI w B' A' n' ys) (hB : B ≤ w.heap.size) (hB' : B' ≤ w.heap.size) (hn : n ≤ 1048576) (hn' : n' ≤ 1048576) :
    Calls Try.prog 228 #[.agg #[.int .i64 r, .int .i64 c, .slice A n cap], .agg #[.int .i64 r2, .int .i64 c2, .slice A' n' cap']] w (MBR (mulM r c xs r2 c2 ys) (mulB r c xs r2 c2 ys) w) := by
  have hlen := h.len
  have hlen' := h'.len
  have H2 := Lib.hid (h.more hB)
  have H3 := Lib.hid (h'.more hB')
  clear h h' hB hB'
  rcases mul_cases r c xs r2 c2 ys with ⟨hb0, hm⟩ | ⟨hb0, hm, hm2⟩ | ⟨hb0, hm, hm2, hne⟩ | ⟨hb0, hm, hm2, hne⟩
  · rw [mulM_no hb0, hb0]
    have HM := Lib.hid hm
    clear hb0 hm
    go_enter Try.func228, Try.ntmps228
    go_wp2_with fail
    (refine (spec_IsMatrix r c A n cap xs _ (C := w.heap.size) (Kr H2.out) Ks hn).mono ?_; rw [HM.out]; rintro e w1 ⟨rfl, hb⟩; have hsz := hb.size; simp at hsz; have hA : BM w1 w.heap.size r c A n cap := Ka; have hB : BM w1 (w.heap.size + 1) r2 c2 A' n' cap' := Ka; have hR : BM w1 (w.heap.size + 1 + 1) 0 0 none 0 0 := Ka; have hbw : Below w.heap.size w w1 := Kw; obtain ⟨aa, ab, ac, af, al⟩ := hA.mx; obtain ⟨ba, bb, bc, bf, bl⟩ := hB.mx; obtain ⟨ra, rb, rc, rf, rl⟩ := hR.mx)
    go_wp2_with fail
    refine ret_MB (r := 0) (c := 0) (A := none) (n := 0) (cap := 0) Try.results228 rfl (Kb hR) rfl ?_
    exact MBR.mk rfl (OR.nil_ _ _) Kw
  · rw [mulM_no hb0, hb0]
    have HM := Lib.hid hm
    have HM2 := Lib.hid hm2
    clear hb0 hm hm2
    go_enter Try.func228, Try.ntmps228
    go_wp2_with fail
    (refine (spec_IsMatrix r c A n cap xs _ (C := w.heap.size) (Kr H2.out) Ks hn).mono ?_; rw [HM.out]; rintro e w1 ⟨rfl, hb⟩; have hsz := hb.size; simp at hsz; have hA : BM w1 w.heap.size r c A n cap := Ka; have hB : BM w1 (w.heap.size + 1) r2 c2 A' n' cap' := Ka; have hR : BM w1 (w.heap.size + 1 + 1) 0 0 none 0 0 := Ka; have hbw : Below w.heap.size w w1 := Kw; obtain ⟨aa, ab, ac, af, al⟩ := hA.mx; obtain ⟨ba, bb, bc, bf, bl⟩ := hB.mx; obtain ⟨ra, rb, rc, rf, rl⟩ := hR.mx)
    go_wp2_with fail
    (refine (spec_IsMatrix r2 c2 A' n' cap' ys _ (C := w.heap.size) (Kr H3.out) Ks hn').mono ?_; rw [HM2.out]; rintro e w2 ⟨rfl, hb2⟩; have hsz2 := hb2.size; have hA2 : BM w2 w.heap.size r c A n cap := (Kb hA); have hB2 : BM w2 (w.heap.size + 1) r2 c2 A' n' cap' := (Kb hB); have hR2 : BM w2 (w.heap.size + 1 + 1) 0 0 none 0 0 := (Kb hR); have hbw2 : Below w.heap.size w w2 := Kw; clear hA hB hR hbw aa ab ac af al ba bb bc bf bl ra rb rc rf rl; obtain ⟨aa, ab, ac, af, al⟩ := hA2.mx; obtain ⟨ba, bb, bc, bf, bl⟩ := hB2.mx; obtain ⟨ra, rb, rc, rf, rl⟩ := hR2.mx)
    go_wp2_with fail
    refine ret_MB (r := 0) (c := 0) (A := none) (n := 0) (cap := 0) Try.results228 rfl (Kb hR2) rfl ?_
    exact MBR.mk rfl (OR.nil_ _ _) Kw
  · rw [mulM_no hb0, hb0]
    have HM := Lib.hid hm
    have HM2 := Lib.hid hm2
    have hnb : (c != r2) = true := by simpa using hne
    clear hb0 hm hm2 hne
    go_enter Try.func228, Try.ntmps228
    go_wp2_with fail
    (refine (spec_IsMatrix r c A n cap xs _ (C := w.heap.size) (Kr H2.out) Ks hn).mono ?_; rw [HM.out]; rintro e w1 ⟨rfl, hb⟩; have hsz := hb.size; simp at hsz; have hA : BM w1 w.heap.size r c A n cap := Ka; have hB : BM w1 (w.heap.size + 1) r2 c2 A' n' cap' := Ka; have hR : BM w1 (w.heap.size + 1 + 1) 0 0 none 0 0 := Ka; have hbw : Below w.heap.size w w1 := Kw; obtain ⟨aa, ab, ac, af, al⟩ := hA.mx; obtain ⟨ba, bb, bc, bf, bl⟩ := hB.mx; obtain ⟨ra, rb, rc, rf, rl⟩ := hR.mx)
    go_wp2_with fail
    (refine (spec_IsMatrix r2 c2 A' n' cap' ys _ (C := w.heap.size) (Kr H3.out) Ks hn').mono ?_; rw [HM2.out]; rintro e w2 ⟨rfl, hb2⟩; have hsz2 := hb2.size; have hA2 : BM w2 w.heap.size r c A n cap := (Kb hA); have hB2 : BM w2 (w.heap.size + 1) r2 c2 A' n' cap' := (Kb hB); have hR2 : BM w2 (w.heap.size + 1 + 1) 0 0 none 0 0 := (Kb hR); have hbw2 : Below w.heap.size w w2 := Kw; clear hA hB hR hbw aa ab ac af al ba bb bc bf bl ra rb rc rf rl; obtain ⟨aa, ab, ac, af, al⟩ := hA2.mx; obtain ⟨ba, bb, bc, bf, bl⟩ := hB2.mx; obtain ⟨ra, rb, rc, rf, rl⟩ := hR2.mx)
    go_wp2_with fail
    refine ret_MB (r := 0) (c := 0) (A := none) (n := 0) (cap := 0) Try.results228 rfl (Kb hR2) rfl ?_
    exact MBR.mk rfl (OR.nil_ _ _) Kw
  · subst hne
    have M := isMat_iff.1 hm
    have M2 := isMat_iff.1 hm2
    have HM := Lib.hid hm
    have HM2 := Lib.hid hm2
    have HB0 := Lib.hid hb0
    have HMM := Lib.hid M
    have HMM2 := Lib.hid M2
    obtain ⟨R, rfl⟩ := nat_of M.r0
    obtain ⟨C, rfl⟩ := nat_of M.c0
    obtain ⟨C2, rfl⟩ := nat_of M2.c0
    have hR' := M.r1
    have hC := M.c1
    have hC2 := M2.c1
    have hl1 : (n : Int) ≤ (R : Int) * (C : Int) ∧ (R : Int) * (C : Int) ≤ n := by have := M.len; omega
    have hl2 : (n' : Int) ≤ (C : Int) * (C2 : Int) ∧ (C : Int) * (C2 : Int) ≤ n' := by have := M2.len; omega
    have hLL : Hid ((mulL xs R C ys C2).length ≤ 576) := Lib.hid (by rw [mulL_len]; have := Nat.mul_le_mul (show R ≤ 24 by omega) (show C2 ≤ 24 by omega); omega)
    clear hm hm2 hb0 M M2 hlen hlen'
    go_enter Try.func228, Try.ntmps228
    go_wp2_with fail
    (refine (spec_IsMatrix R C A n cap xs _ (C := w.heap.size) (Kr H2.out) Ks hn).mono ?_; rw [HM.out]; rintro e w1 ⟨rfl, hb⟩; have hsz := hb.size; simp at hsz; have hA : BM w1 w.heap.size R C A n cap := Ka; have hB : BM w1 (w.heap.size + 1) C C2 A' n' cap' := Ka; have hR : BM w1 (w.heap.size + 1 + 1) 0 0 none 0 0 := Ka; have hbw : Below w.heap.size w w1 := Kw; obtain ⟨aa, ab, ac, af, al⟩ := hA.mx; obtain ⟨ba, bb, bc, bf, bl⟩ := hB.mx; obtain ⟨ra, rb, rc, rf, rl⟩ := hR.mx)
    go_wp2_with fail
    (refine (spec_IsMatrix C C2 A' n' cap' ys _ (C := w.heap.size) (Kr H3.out) Ks hn').mono ?_; rw [HM2.out]; rintro e w2 ⟨rfl, hb2⟩; have hsz2 := hb2.size; have hA2 : BM w2 w.heap.size R C A n cap := (Kb hA); have hB2 : BM w2 (w.heap.size + 1) C C2 A' n' cap' := (Kb hB); have hR2 : BM w2 (w.heap.size + 1 + 1) 0 0 none 0 0 := (Kb hR); have hbw2 : Below w.heap.size w w2 := Kw; clear hA hB hR hbw aa ab ac af al ba bb bc bf bl ra rb rc rf rl; obtain ⟨aa, ab, ac, af, al⟩ := hA2.mx; obtain ⟨ba, bb, bc, bf, bl⟩ := hB2.mx; obtain ⟨ra, rb, rc, rf, rl⟩ := hR2.mx)
    go_wp2_with fail
    refine (spec_l3Mul R C C2 A A' n cap n' cap' xs ys _ (B := w.heap.size) (B' := w.heap.size) (Kr H2.out) (Kr H3.out) Ks Ks hn hn' HMM.out HMM2.out).mono ?_
    rintro e w3 ⟨Ao, no, co, rfl, hown, hb3⟩
    have hsz3 := hb3.size
    have hno : no ≤ 1048576 := by have h8 : no = (mulL xs R C ys C2).length := hown.lenEq; have h9 := hLL.out; omega
    have hR3 : BM w3 (w.heap.size + 1 + 1) 0 0 none 0 0 := Kb hR2
    have hbw3 : Below w.heap.size w w3 := Kw
    have hown3 : OR w3 (w.heap.size + 1 + 1 + 1) (.slice Ao no co) (mulL xs R C ys C2) := hown.mono (by omega)
    clear hA2 hB2 hR2 hbw2 aa ab ac af al ba bb bc bf bl ra rb rc rf rl hown hb hb2 hb3
    go_wp2_with fail
    rcases hres : isMat R C2 (mulL xs R C ys C2) with _ | _
    all_goals
      have HRES := Lib.hid hres
      refine (spec_l3Done R C2 Ao no co _ _ (OR.reads (B := w.heap.size + 1 + 1 + 1) (Ko hown3)) (Nat.le_refl _) hno).mono ?_
      rw [HRES.out]
      first | rw [chkV_t] | rw [chkV_f]
      rintro e w5 ⟨rfl, hb5⟩
      have hsz5 := hb5.size
      have hR5 : BM w5 (w.heap.size + 1 + 1) 0 0 none 0 0 := Kb hR3
      have hfin5 : OR w5 (w.heap.size + 1 + 1 + 1) (.slice Ao no co) (mulL xs R C ys C2) := Ko hown3
      have hbw5 : Below w.heap.size w w5 := Kw
      obtain ⟨ra, rb, rc, rf, rl⟩ := hR5.mx
      clear hR3 hbw3 hb5 hres hown3
      go_wp2_with fail
    · have hb6 : mulB R C xs C C2 ys = false := by rw [HB0.out]; simpa using HRES.out
      rw [mulM_no hb6, hb6]
      refine ret_MB (r := 0) (c := 0) (A := none) (n := 0) (cap := 0) Try.results228 rfl (Kb hR5) rfl ?_
      exact MBR.mk rfl (OR.nil_ _ _) Kw
    · have hb6 : mulB R C xs C C2 ys = true := by rw [HB0.out]; simpa using HRES.out
      rw [mulM_yes hb6, hb6]
      refine ret_MB (r := R) (c := C2) (A := Ao) (n := no) (cap := co) Try.results228 rfl (Kb hR5) rfl ?_
      exact MBR.mk (xs := mulL xs R C ys C2) (by simp) (OR.mono (B := w.heap.size + 1 + 1 + 1) (Ko hfin5) (by omega)) Kw
end Go.Proofs.Ytacjonkehcamgaa

/-
  DERIVED. l14Times, IsSolution of the reference.
-/
namespace Go.Proofs.Ytacjonkehcamgaa
open Go.RowKit
set_option linter.unusedVariables false
set_option linter.unusedSimpArgs false
/-- The call returned an own slice and a flag. -/
def IBR (ys : List Int) (b : Bool) (w : World) (e : Ending) (w' : World) : Prop :=
  ∃ A n cap, e = .returned (.tuple #[.slice A n cap, .bool b]) ∧ OR w' w.heap.size (.slice A n cap) ys ∧ Below w.heap.size w w'
theorem IBR.mk {ys zs : List Int} {b : Bool} {A : Option Addr} {n cap : Nat} {w w' : World} (hz : ys = zs) (ho : OR w' w.heap.size (.slice A n cap) zs) (hb : Below w.heap.size w w') :
    IBR ys b w (.returned (.tuple #[.slice A n cap, .bool b])) w' := by subst hz; exact ⟨A, n, cap, rfl, ho, hb⟩
/-- Numbers solve a system. -/
def solB (r c : Int) (xs b x : List Int) : Bool := mulB r c xs x.length 1 x && eqB (mulM r c xs x.length 1 x).xs b
theorem mulM_len (r c : Int) (xs : List Int) (r2 c2 : Int) (ys : List Int) : (mulM r c xs r2 c2 ys).xs.length ≤ 576 := by
  unfold mulM
  split
  · rename_i h
    unfold mulB at h
    simp only [Bool.and_eq_true] at h
    have M := isMat_iff.1 h.1.1.1
    have M2 := isMat_iff.1 h.1.1.2
    show (mulL xs r.toNat c.toNat ys c2.toNat).length ≤ 576
    rw [mulL_len]
    have := Nat.mul_le_mul (show r.toNat ≤ 24 by have := M.r1; omega) (show c2.toNat ≤ 24 by have := M2.c1; omega)
    omega
  · simp [Mx.none]
set_option maxRecDepth 100000 in
set_option maxHeartbeats 4000000 in
theorem spec_l14Times (r c : Int) (A A3 : Option Addr) (n cap n3 cap3 : Nat) (xs x : List Int) (w : World) {B B3' : Nat} (h : RI w B A n xs) (h3 : RI w B3' A3 n3 x) (hB : B ≤ w.heap.size) (hB3 : B3' ≤ w.heap.size) (hn : n ≤ 1048576) (hn3 : n3 ≤ 1048576) :
    Calls Try.prog 193 #[.agg #[.int .i64 r, .int .i64 c, .slice A n cap], .slice A3 n3 cap3] w (IBR (mulM r c xs n3 1 x).xs (mulB r c xs n3 1 x) w) := by
  have H1 := Lib.hid (h.more hB)
  have H3 := Lib.hid (h3.more hB3)
  clear h h3 hB hB3
  rcases hres : mulB r c xs n3 1 x with _ | _
  all_goals
    have HRES := Lib.hid hres
    have HN := mulM_no (r := r) (c := c) (xs := xs) (r2 := n3) (c2 := 1) (ys := x)
    clear hres
    have HNO := Lib.hid HN
    clear HN
    go_enter Try.func193, Try.ntmps193
    go_wp2_with fail
    refine (spec_MultiplyMatrices r c n3 1 A A3 n cap n3 cap3 xs x _ (B := w.heap.size) (B' := w.heap.size) (Kr H1.out) (Kr H3.out) Ks Ks hn hn3).mono ?_
    rw [HRES.out]
    rintro e w2 ⟨Ar, nr, cr, rfl, ho, hb2⟩
    have hs2 := hb2.size
    simp at hs2
    have hbw2 : Below w.heap.size w w2 := Kw
    have hown : OR w2 w.heap.size (.slice Ar nr cr) (mulM r c xs n3 1 x).xs := ho.mono Ks
    clear ho hb2
    go_wp2_with fail
    go_ret2
  · exact IBR.mk (by rw [HNO.out HRES.out]; rfl) (OR.empty' _ _ (by simp) Ks) Kw
  · exact IBR.mk rfl (Ko hown) Kw
end Go.Proofs.Ytacjonkehcamgaa

/-
  DERIVED. FactorsOf of both.
-/
namespace Go.Proofs.Ytacjonkehcamgaa
open Go.RowKit
set_option linter.unusedVariables false
set_option linter.unusedSimpArgs false
theorem OR.shapeF {w : World} {B : Nat} {v : Value} {xs : List Int} (h : OR w B v xs) : ∃ A c, v = .slice A xs.length c := by
  rcases h.form with ⟨h1, h2⟩ | ⟨g, cap, h1, _⟩
  · subst h2; exact ⟨none, 0, h1⟩
  · exact ⟨_, _, h1⟩
/-- A number of the diagonal; 0 beyond it. -/
def dgF (R C : Nat) (f : Fn2) (i : Nat) : Int := if i < R ∧ i < C then f i i else 0
theorem dgF_in {R C i : Nat} {f : Fn2} (h : i < R) (h2 : i < C) : dgF R C f i = f i i := by unfold dgF; rw [if_pos ⟨h, h2⟩]
theorem dgF_out {R C i : Nat} {f : Fn2} (h : ¬ (i < R ∧ i < C)) : dgF R C f i = 0 := by unfold dgF; rw [if_neg h]
theorem dgF_num {R C i : Nat} {f : Fn2} (h : OKF R C f) : Num (dgF R C f i) := by
  unfold dgF
  split
  · rename_i h2; exact h i i h2.1 h2.2
  · unfold Num; omega
def facK (d : Nat → Int) : Nat → List Int
  | 0 => []
  | n + 1 => facK d n ++ (if d n = 0 then [] else [d n])
theorem facK_skip {d : Nat → Int} {n : Nat} (h : d n = 0) : facK d (n + 1) = facK d n := by
  show facK d n ++ (if _ then _ else _) = _
  rw [if_pos h, List.append_nil]
theorem facK_add {d : Nat → Int} {n : Nat} (h : d n ≠ 0) : facK d (n + 1) = facK d n ++ [d n] := by
  show facK d n ++ (if _ then _ else _) = _
  rw [if_neg h]
theorem facK_len (d : Nat → Int) : ∀ n, (facK d n).length ≤ n
  | 0 => Nat.le_refl _
  | n + 1 => by
    have := facK_len d n
    by_cases h : d n = 0
    · rw [facK_skip h]; omega
    · rw [facK_add h, List.length_append, List.length_singleton]; omega
theorem facK_beyond {d : Nat → Int} {m : Nat} (h : ∀ i, m ≤ i → d i = 0) : ∀ k, facK d (m + k) = facK d m
  | 0 => rfl
  | k + 1 => by rw [show m + (k + 1) = m + k + 1 by omega, facK_skip (h _ (by omega)), facK_beyond h k]
def facO (r c : Int) : Option SS → List Int
  | some s => facK (dgF r.toNat c.toNat s.f) (min r.toNat c.toNat)
  | none => []
def facV (r c : Int) (xs : List Int) : List Int := facO r c (sfX r c xs)
theorem facO_rows (R C : Nat) (s : SS) : facO R C (some s) = facK (dgF R C s.f) R := by
  show facK (dgF R C s.f) (min R C) = _
  have := facK_beyond (d := dgF R C s.f) (m := min R C) (fun i hi => dgF_out (by omega)) (R - min R C)
  rw [show min R C + (R - min R C) = R by omega] at this
  exact this.symm
theorem facV_len (r c : Int) (xs : List Int) : (facV r c xs).length ≤ 1048576 := by
  unfold facV
  rcases h : sfX r c xs with _ | s
  · exact Nat.zero_le _
  · rcases hm : isMat r c xs with _ | _
    · rw [sfX_no hm] at h; cases h
    · have M := isMat_iff.1 hm
      have h1 := facK_len (dgF r.toNat c.toNat s.f) (min r.toNat c.toNat)
      have := M.r1
      show (facK _ _).length ≤ _
      omega
theorem impl_diagonal (R C i : Nat) (A : Option Addr) (n cap : Nat) (f : Fn2) (w : World) {B : Nat} (h : OR w B (.slice A n cap) (tb R C f)) (hi : i ≤ 100) (hR : R ≤ 24) (hC : C ≤ 24) :
    Calls Try.prog 101 #[.agg #[.int .i64 R, .int .i64 C, .slice A n cap], .int .i64 i] w (BV (.int .i64 (dgF R C f i)) w) := by
  by_cases h1 : i < R
  · by_cases h2 : i < C
    · rw [dgF_in h1 h2]
      generalize hv : f i i = v
      have HV := Lib.hid hv
      clear hv
      go_enter Try.func101, Try.ntmps101
      go_wp2_with fail
      refine (impl_at_tb R C i i A n cap f v HV.out _ (B := B) (Ko h) (by omega) (by omega) h1 h2).mono ?_
      rintro e w1 ⟨rfl, hb1⟩
      go_wp2_with fail
      go_ret
      exact BV.mk rfl Kw
    · rw [dgF_out (by omega)]
      go_enter Try.func101, Try.ntmps101
      go_wp2_with fail
      go_ret
      exact BV.mk rfl Kw
  · rw [dgF_out (by omega)]
    go_enter Try.func101, Try.ntmps101
    go_wp2_with fail
    go_ret
    exact BV.mk rfl Kw
end Go.Proofs.Ytacjonkehcamgaa

/-
  DERIVED. What divides all minors stays under operations on rows and columns; of a chain on the diagonal it divides the product of the first ones. No program in sight.
-/
namespace Go.Proofs.Ytacjonkehcamgaa
set_option linter.unusedVariables false
def sub_ (f : Fn2) (a b : Nat → Nat) : Fn2 := fun i j => f (a i) (b j)
/-- d divides all minors of k rows and columns, by the functional F. -/
def GDv (k : Nat) (F : Fn2 → Int) (R C : Nat) (f : Fn2) (d : Int) : Prop := ∀ a b : Nat → Nat, (∀ i, i < k → a i < R) → (∀ j, j < k → b j < C) → d ∣ F (sub_ f a b)
def rowS (g : Fn2) (x : Nat) (v : Nat → Int) : Fn2 := fun i y => if i = x then v y else g i y
section
variable {k R S C x : Nat} {F : Fn2 → Int} {f g : Fn2} {d : Int}
theorem Alt.sum (H : Alt k F) (hx : x < k) {c : Nat → Int} {v : Fn2} : ∀ n, (∀ q, q < n → d ∣ F (rowS g x (v q))) → d ∣ F (rowS g x (fun y => sumTo (fun q => c q * v q y) n))
  | 0, _ => by
    rw [H.zero hx (f := rowS g x fun y => sumTo (fun q => c q * v q y) 0) fun y _ => by unfold rowS; rw [if_pos rfl]; rfl]
    exact Int.dvd_zero _
  | n + 1, h => by
    have h1 := Alt.sum H hx (c := c) (v := v) n fun q hq => h q (by omega)
    have h2 := h n (by omega)
    have h3 := H.lin x (c n) (rowS g x (fun y => sumTo (fun q => c q * v q y) (n + 1))) (rowS g x (fun y => sumTo (fun q => c q * v q y) n)) (rowS g x (v n)) hx (fun y _ => by
      unfold rowS
      rw [if_pos rfl, if_pos rfl, if_pos rfl]
      show sumTo (fun q => c q * v q y) n + c n * v n y = sumTo (fun q => c q * v q y) n + v n y * c n
      rw [Int.mul_comm (c n)]) (fun z y _ _ hne => by unfold rowS; rw [if_neg hne, if_neg hne, if_neg hne]; exact ⟨rfl, rfl⟩)
    rw [h3]
    exact Int.dvd_add h1 (Int.dvd_trans h2 ⟨_, rfl⟩)
theorem GDv.rows (H : Alt k F) (hf : GDv k F R C f d) {b : Nat → Nat} (hb : ∀ j, j < k → b j < C) : ∀ n, n ≤ k → ∀ g : Fn2, (∀ i, i < n → ∃ c : Nat → Int, ∀ y, y < k → g i y = sumTo (fun q => c q * f q (b y)) R) → (∀ i, n ≤ i → i < k → ∃ q, q < R ∧ ∀ y, y < k → g i y = f q (b y)) → d ∣ F g
  | 0, _, g, _, h2 => by
    have hch : ∀ i, ∃ q, i < k → q < R ∧ ∀ y, y < k → g i y = f q (b y) := fun i => by
      by_cases hi : i < k
      · obtain ⟨q, hq⟩ := h2 i (Nat.zero_le _) hi
        exact ⟨q, fun _ => hq⟩
      · exact ⟨0, fun h => absurd h hi⟩
    obtain ⟨a, ha⟩ := Classical.axiomOfChoice hch
    rw [H.congr g (sub_ f a b) fun i y hi hy => (ha i hi).2 y hy]
    exact hf a b (fun i hi => (ha i hi).1) hb
  | n + 1, hn, g, h1, h2 => by
    obtain ⟨c, hc⟩ := h1 n (by omega)
    rw [H.congr g (rowS g n (fun y => sumTo (fun q => c q * f q (b y)) R)) fun i y hi hy => by
      unfold rowS
      by_cases e : i = n
      · subst e; rw [if_pos rfl]; exact hc y hy
      · rw [if_neg e]]
    refine H.sum (by omega) (v := fun q y => f q (b y)) R fun q hq => ?_
    refine GDv.rows H hf hb n (by omega) _ (fun i hi => ?_) (fun i hi hik => ?_)
    · obtain ⟨c', hc'⟩ := h1 i (by omega)
      exact ⟨c', fun y hy => by unfold rowS; rw [if_neg (by omega)]; exact hc' y hy⟩
    · by_cases e : i = n
      · subst e
        exact ⟨q, hq, fun y hy => by unfold rowS; rw [if_pos rfl]⟩
      · obtain ⟨q', hq', h'⟩ := h2 i (by omega) hik
        exact ⟨q', hq', fun y hy => by unfold rowS; rw [if_neg e]; exact h' y hy⟩
theorem GDv.sp (H : Alt k F) (hf : GDv k F R C f d) (h : ∀ i, i < S → Sp R C f (g i)) : GDv k F S C g d := fun a b ha hb =>
  GDv.rows H hf hb k (Nat.le_refl _) (sub_ g a b) (fun i hi => by
    obtain ⟨c, hc⟩ := h (a i) (ha i hi)
    exact ⟨c, fun y hy => hc (b y) (hb y hy)⟩) fun i h1 h2 => absurd h2 (by omega)
theorem GDv.spn (H : Alt k F) (h : SPN R C f g) : GDv k F R C f d ↔ GDv k F R C g d := ⟨fun k1 => k1.sp H h.1, fun k1 => k1.sp H h.2⟩
theorem GDv.congr (H : Alt k F) (e : EqM R C f g) : GDv k F R C f d ↔ GDv k F R C g d :=
  GDv.spn H ⟨fun i hi => (Sp.row hi).as fun y hy => (e i y hi hy).symm, fun i hi => (Sp.row hi).as fun y hy => e i y hi hy⟩
theorem GDv.tp_ : GDv k F R C f d ↔ GDv k (fun g => F (tp g)) C R (tp f) d := ⟨fun h a b ha hb => h b a hb ha, fun h a b ha hb => h b a hb ha⟩
end
/-- Alternating in the rows and in the columns. -/
structure Alt2 (k : Nat) (F : Fn2 → Int) : Prop where
  r : Alt k F
  c : Alt k (fun g => F (tp g))
theorem Alt2.dt (k : Nat) : Alt2 k (Dt k) := ⟨Dt_alt k, Dt_altC k⟩
theorem Alt2.tp {k : Nat} {F : Fn2 → Int} (h : Alt2 k F) : Alt2 k (fun g => F (tp g)) := ⟨h.c, h.r⟩
/-- What divides the minors of the Smith form divides those of the matrix. -/
theorem GDv.stays {k : Nat} {F : Fn2 → Int} (H : Alt2 k F) (R C t0 : Nat) (d : Int) (f0 : Fn2) : Stays R C t0 (fun s => GDv k F R C s.f d ↔ GDv k F R C f0 d) where
  radd := fun s i j t hi hj _ _ hij hg hk hP => by
    have kf : OKF R C (opA s.f i j t) := hk.f
    exact (GDv.spn H.r ((SPN.refl R C s.f).add (f' := opA s.f i j t) hi hj hij (fun y hy => opA_val kf hi hy) (fun x y _ _ hne => opA_other hne))).symm.trans hP
  rswap := fun s i j hi hj _ _ hij hg hP => (GDv.spn H.r ((SPN.refl R C s.f).swap hi hj)).symm.trans hP
  rneg := fun s i hi _ hg hP => (GDv.spn H.r ((SPN.refl R C s.f).neg (f' := opM s.f i) hi (fun y hy => opM_at (hg.ok.f i y hi hy)) (fun x y _ _ hne => by unfold opM; rw [if_neg hne]))).symm.trans hP
  cadd := fun s i j t hi hj _ _ hij hg hk hP => by
    have kf : OKF C R (opA (tp s.f) i j t) := tp_ok hk.f
    show GDv k F R C (tp (opA (tp s.f) i j t)) d ↔ _
    have h1 := GDv.spn (d := d) H.c ((SPN.refl C R (tp s.f)).add (f' := opA (tp s.f) i j t) hi hj hij (fun y hy => opA_val kf hi hy) (fun x y _ _ hne => opA_other hne))
    exact ((GDv.tp_ (f := tp (opA (tp s.f) i j t))).trans (h1.symm.trans (GDv.tp_ (f := s.f)).symm)).trans hP
  cswap := fun s i j hi hj _ _ hij hg hP => by
    show GDv k F R C (tp (swF (tp s.f) i j)) d ↔ _
    have h1 := GDv.spn (d := d) H.c ((SPN.refl C R (tp s.f)).swap hi hj)
    exact ((GDv.tp_ (f := tp (swF (tp s.f) i j))).trans (h1.symm.trans (GDv.tp_ (f := s.f)).symm)).trans hP
def prodTo (d : Nat → Int) : Nat → Int
  | 0 => 1
  | n + 1 => prodTo d n * d n
theorem prodTo_congr {d e : Nat → Int} : ∀ n, (∀ i, i < n → d i = e i) → prodTo d n = prodTo e n
  | 0, _ => rfl
  | n + 1, h => by
    show prodTo d n * d n = prodTo e n * e n
    rw [prodTo_congr n fun i hi => h i (by omega), h n (by omega)]
theorem prodTo_zero {d : Nat → Int} {i : Nat} (h0 : d i = 0) : ∀ n, i < n → prodTo d n = 0
  | 0, h => absurd h (Nat.not_lt_zero _)
  | n + 1, h => by
    show prodTo d n * d n = 0
    by_cases e : i = n
    · subst e; rw [h0, Int.mul_zero]
    · rw [prodTo_zero h0 n (by omega), Int.zero_mul]
theorem prodTo_nonneg {d : Nat → Int} (h : ∀ i, 0 ≤ d i) : ∀ n, 0 ≤ prodTo d n
  | 0 => by show (0 : Int) ≤ 1; decide
  | n + 1 => Int.mul_nonneg (prodTo_nonneg h n) (h n)
theorem prodTo_ne {d : Nat → Int} : ∀ n, (∀ i, i < n → d i ≠ 0) → prodTo d n ≠ 0
  | 0, _ => by show (1 : Int) ≠ 0; decide
  | n + 1, h => Int.mul_ne_zero (prodTo_ne n fun i hi => h i (by omega)) (h n (by omega))
theorem prodTo_swap {d : Nat → Int} {p m : Nat} (hp : p ≤ m) : prodTo d (m + 1) = prodTo (fun i => if i = p then d m else d i) m * d p := by
  by_cases e : p = m
  · subst e
    show prodTo d p * d p = _
    rw [prodTo_congr p fun i hi => (show d i = (if i = p then d p else d i) by rw [if_neg (by omega)])]
  · have h : ∀ n, n ≤ m → p < n → prodTo (fun i => if i = p then d m else d i) n * d p = prodTo d n * d m := fun n => by
      induction n with
      | zero => intro _ h; exact absurd h (Nat.not_lt_zero _)
      | succ n ih =>
        intro hn hpn
        show prodTo (fun i => if i = p then d m else d i) n * (if n = p then d m else d n) * d p = prodTo d n * d n * d m
        by_cases e2 : n = p
        · subst e2
          rw [if_pos rfl, prodTo_congr n fun i hi => (show (if i = n then d m else d i) = d i by rw [if_neg (by omega)])]
          grind
        · rw [if_neg e2]
          have := ih (by omega) (by omega)
          grind
    have := h m (Nat.le_refl _) (by omega)
    rw [this]; rfl
/-- The pigeon-hole: k different places are not all below k - 1. -/
theorem pigeon : ∀ (k : Nat) (a : Nat → Nat), (∀ i j, i < k + 1 → j < k + 1 → i ≠ j → a i ≠ a j) → ∃ i, i < k + 1 ∧ k ≤ a i
  | 0, a, _ => ⟨0, by omega, Nat.zero_le _⟩
  | k + 1, a, h => by
    apply Classical.byContradiction
    intro hno
    have hlt : ∀ i, i < k + 1 + 1 → a i < k + 1 := fun i hi => Nat.lt_of_not_le fun hh => hno ⟨i, hi, hh⟩
    -- take out the last: those that are above it step down
    obtain ⟨i, hi, hki⟩ := pigeon k (fun i => if a i > a (k + 1) then a i - 1 else a i) fun i j hi hj hij e => by
      have h1 := h i j (by omega) (by omega) hij
      have h2 := h i (k + 1) (by omega) (by omega) (by omega)
      have h3 := h j (k + 1) (by omega) (by omega) (by omega)
      split at e <;> split at e <;> omega
    have h1 := hlt i (by omega)
    have h2 := hlt (k + 1) (by omega)
    have h3 := h i (k + 1) (by omega) (by omega) (by omega)
    split at hki <;> omega
/-- In a chain the first k together divide any k. -/
theorem chain_dvd {d : Nat → Int} (hd : ∀ i j, i ≤ j → d i ∣ d j) : ∀ (k : Nat) (a : Nat → Nat), (∀ i j, i < k → j < k → i ≠ j → a i ≠ a j) → prodTo d k ∣ prodTo (fun i => d (a i)) k
  | 0, _, _ => Int.dvd_refl _
  | k + 1, a, h => by
    obtain ⟨p, hp, hkp⟩ := pigeon k a h
    rw [prodTo_swap (d := fun i => d (a i)) (show p ≤ k by omega)]
    have ih := chain_dvd hd k (fun i => if i = p then a k else a i) fun i j hi hj hij => by
      have h1 := h i j (by omega) (by omega) hij
      have h2 := h i k (by omega) (by omega) (by omega)
      have h3 := h j k (by omega) (by omega) (by omega)
      split <;> split <;> omega
    have e : prodTo (fun i => d (if i = p then a k else a i)) k = prodTo (fun i => if i = p then d (a k) else d (a i)) k := prodTo_congr k fun i _ => by split <;> rfl
    rw [e] at ih
    exact Int.mul_dvd_mul ih (hd k (a p) hkp)
/-- Each row times a number. -/
theorem Alt.scales {k : Nat} {F : Fn2 → Int} (H : Alt k F) {f g : Fn2} {c : Nat → Int} (h : ∀ i y, i < k → y < k → g i y = f i y * c i) : F g = F f * prodTo c k := by
  have hs : ∀ n, n ≤ k → F (fun i y => if i < n then f i y * c i else f i y) = F f * prodTo c n := fun n => by
    induction n with
    | zero =>
      intro _
      rw [H.congr _ f fun i y _ _ => by rw [if_neg (Nat.not_lt_zero _)]]
      show F f = F f * 1
      rw [Int.mul_one]
    | succ n ih =>
      intro hn
      rw [H.scale (i := n) (t := c n) (f := fun i y => if i < n then f i y * c i else f i y) (by omega) (fun y hy => by
        rw [if_pos (by omega), if_neg (Nat.lt_irrefl _)]) (fun x y hx hy hne => by
        by_cases e : x < n
        · rw [if_pos e, if_pos (by omega)]
        · rw [if_neg e, if_neg (by omega)]), ih (by omega)]
      show F f * prodTo c n * c n = F f * (prodTo c n * c n)
      rw [Int.mul_assoc]
  rw [← hs k (Nat.le_refl _)]
  exact H.congr _ _ fun i y hi hy => by rw [if_pos hi]; exact h i y hi hy
theorem Dt_diag (k : Nat) (d : Nat → Int) : Dt k (fun i j => if i = j then d i else 0) = prodTo d k := by
  rw [(Dt_alt k).scales (f := idF) (c := d) fun i y _ _ => by
    unfold idF
    by_cases e : i = y
    · rw [if_pos e, if_pos e, Int.one_mul]
    · rw [if_neg e, if_neg e, Int.zero_mul], Dt_id, Int.one_mul]
/-- The numbers on the diagonal of a Smith form. -/
structure DiaC (R C : Nat) (D : Fn2) : Prop where
  off : ∀ x y, x < R → y < C → x ≠ y → D x y = 0
  nn : ∀ a, 0 ≤ dgF R C D a
  dv : ∀ i j, i ≤ j → dgF R C D i ∣ dgF R C D j
theorem diaC {R C : Nat} {xs : List Int} {s : SS} (h : sfX R C xs = some s) : DiaC R C s.f := by
  obtain ⟨d1, d2⟩ := sfX_dia h
  refine ⟨sfX_diag h, fun a => ?_, fun i j hij => ?_⟩
  · by_cases e : a < R ∧ a < C
    · rw [dgF_in e.1 e.2]; exact d1 a e.1 e.2
    · rw [dgF_out e]; exact Int.le_refl _
  · have hst : ∀ n, dgF R C s.f i ∣ dgF R C s.f (i + n) := fun n => by
      induction n with
      | zero => exact Int.dvd_refl _
      | succ n ih =>
        by_cases e : i + (n + 1) < R ∧ i + (n + 1) < C
        · refine Int.dvd_trans ih ?_
          rw [dgF_in (by omega) (by omega), dgF_in e.1 e.2]
          exact d2 (i + n) (by omega) (by omega)
        · rw [dgF_out e]; exact Int.dvd_zero _
    have := hst (j - i)
    rwa [show i + (j - i) = j by omega] at this
theorem DiaC.tp {R C : Nat} {D : Fn2} (h : DiaC R C D) : DiaC C R (tp D) ∧ ∀ a, dgF C R (tp D) a = dgF R C D a := by
  have e : ∀ a, dgF C R (Go.Proofs.Ytacjonkehcamgaa.tp D) a = dgF R C D a := fun a => by
    by_cases e : a < R ∧ a < C
    · rw [dgF_in e.2 e.1, dgF_in e.1 e.2]; rfl
    · rw [dgF_out (fun q => e ⟨q.2, q.1⟩), dgF_out e]
  exact ⟨⟨fun x y hx hy hne => h.off y x hy hx (fun q => hne q.symm), fun a => by rw [e]; exact h.nn a, fun i j hij => by rw [e, e]; exact h.dv i j hij⟩, e⟩
theorem DiaC.gdv {k R C : Nat} {D : Fn2} (h : DiaC R C D) (d : Int) : GDv k (Dt k) R C D d ↔ d ∣ prodTo (dgF R C D) k := by
  constructor
  · intro hg
    by_cases hk : k ≤ R ∧ k ≤ C
    · have := hg id id (fun i hi => Nat.lt_of_lt_of_le hi hk.1) (fun i hi => Nat.lt_of_lt_of_le hi hk.2)
      rwa [Dt_congr k (g := fun i j => if i = j then dgF R C D i else 0) fun i j hi hj => by
        show D i j = if i = j then dgF R C D i else 0
        by_cases e : i = j
        · subst e; rw [if_pos rfl, dgF_in (by omega) (by omega)]
        · rw [if_neg e]; exact h.off i j (by omega) (by omega) e, Dt_diag] at this
    · rw [prodTo_zero (i := min R C) (dgF_out (by omega)) k (by omega)]
      exact Int.dvd_zero _
  · intro hd a b ha hb
    by_cases hi : ∀ i j, i < k → j < k → i ≠ j → a i ≠ a j
    · have h1 := (Dt_alt k).scales (f := fun i j => if a i = b j then 1 else 0) (g := sub_ D a b) (c := fun i => dgF R C D (a i)) fun i y hik hyk => by
        show D (a i) (b y) = (if a i = b y then 1 else 0) * dgF R C D (a i)
        by_cases e : a i = b y
        · rw [if_pos e, Int.one_mul, dgF_in (ha i hik) (by rw [e]; exact hb y hyk), ← e]
        · rw [if_neg e, Int.zero_mul]; exact h.off _ _ (ha i hik) (hb y hyk) e
      rw [h1]
      exact Int.dvd_trans hd (Int.dvd_trans (chain_dvd h.dv k a hi) ⟨_, Int.mul_comm _ _⟩)
    · have : ∃ i j, i < k ∧ j < k ∧ i ≠ j ∧ a i = a j := by
        apply Classical.byContradiction
        intro hno
        exact hi fun i j h1 h2 h3 h4 => hno ⟨i, j, h1, h2, h3, h4⟩
      obtain ⟨i, j, h1, h2, h3, h4⟩ := this
      rw [(Dt_alt k).same h1 h2 h3 (sub_ D a b) fun y _ => by unfold sub_; rw [h4]]
      exact Int.dvd_zero _
/-- What divides all minors of a matrix divides the product of the first numbers of its Smith form; turned over, too. -/
theorem sf_gdv {k R C : Nat} {xs : List Int} {s : SS} (h : sfX R C xs = some s) (d : Int) : (GDv k (Dt k) R C (fun i j => cel xs C i j) d ↔ d ∣ prodTo (dgF R C s.f) k) ∧ (GDv k (fun g => Dt k (tp g)) R C (fun i j => cel xs C i j) d ↔ d ∣ prodTo (dgF R C s.f) k) := by
  have D := diaC h
  have h1 := Stays.all (fun t => GDv.stays (Alt2.dt k) R C t d (fun i j => cel xs C i j)) h Iff.rfl
  have h2 := Stays.all (fun t => GDv.stays (Alt2.dt k).tp R C t d (fun i j => cel xs C i j)) h Iff.rfl
  refine ⟨h1.symm.trans (D.gdv d), h2.symm.trans ?_⟩
  obtain ⟨D2, e⟩ := D.tp
  have h3 := D2.gdv (k := k) d
  rw [prodTo_congr (e := dgF R C s.f) k fun i _ => e i] at h3
  exact (GDv.tp_ (F := fun g => Dt k (tp g)) (f := s.f)).trans h3
/-- The lists of factors are equal where the products are. -/
theorem facK_eq {d e : Nat → Int} (hd : ∀ i, 0 ≤ d i) (he : ∀ i, 0 ≤ e i) (hdc : ∀ i j, i ≤ j → d i ∣ d j) (hec : ∀ i j, i ≤ j → e i ∣ e j) (h : ∀ k, prodTo d k = prodTo e k) : ∀ i, d i = e i := fun i => by
  by_cases h0 : prodTo d i = 0
  · -- a zero came before
    have hz : ∀ (q : Nat → Int), (∀ i j, i ≤ j → q i ∣ q j) → prodTo q i = 0 → q i = 0 := fun q hq hp => by
      have : ∃ j, j < i ∧ q j = 0 := by
        apply Classical.byContradiction
        intro hno
        exact prodTo_ne i (fun j hj e => hno ⟨j, hj, e⟩) hp
      obtain ⟨j, hj, e⟩ := this
      have := hq j i (by omega)
      rw [e] at this
      exact Int.zero_dvd.1 this
    rw [hz d hdc h0, hz e hec (by rw [← h]; exact h0)]
  · have h1 : prodTo d i * d i = prodTo e i * e i := h (i + 1)
    rw [← h i] at h1
    exact Int.eq_of_mul_eq_mul_left h0 h1
theorem dvd_same {a b : Int} (ha : 0 ≤ a) (hb : 0 ≤ b) (h : ∀ d, d ∣ a ↔ d ∣ b) : a = b := by
  have h1 := (h a).1 (Int.dvd_refl a)
  have h2 := (h b).2 (Int.dvd_refl b)
  have h3 : a.natAbs = b.natAbs := Nat.dvd_antisymm (Int.natAbs_dvd_natAbs.2 h1) (Int.natAbs_dvd_natAbs.2 h2)
  omega
end Go.Proofs.Ytacjonkehcamgaa

/-
  DERIVED. MinorGcd answers the greatest common divisor of all minors. No program in sight.
-/
namespace Go.Proofs.Ytacjonkehcamgaa
set_option linter.unusedVariables false
theorem sumTo_atG {g e : Nat → Int} {a n : Nat} (ha : a < n) (h : ∀ k, k < n → k ≠ a → e k = g k) : sumTo e n = sumTo g n + (e a - g a) := by
  have h1 := sumTo_sub e g n
  have h2 : sumTo (fun k => e k - g k) n = e a - g a := sumTo_one n ha fun k hk hne => by rw [h k hk hne]; omega
  omega
/-- Choices in order are enough. -/
theorem Alt.sorted {k R : Nat} {F : Fn2 → Int} (H : Alt k F) {f : Fn2} {b : Nat → Nat} {d : Int} (h : ∀ a : Nat → Nat, (∀ i, i < k → a i < R) → (∀ i, i + 1 < k → a i < a (i + 1)) → d ∣ F (sub_ f a b)) : ∀ (N : Nat) (a : Nat → Nat), ((k * (k * R) : Nat) : Int) - sumTo (fun i => (i : Int) * (a i : Int)) k ≤ N → (∀ i, i < k → a i < R) → d ∣ F (sub_ f a b) := by
  have hbound : ∀ a : Nat → Nat, (∀ i, i < k → a i < R) → sumTo (fun i => (i : Int) * (a i : Int)) k ≤ ((k * (k * R) : Nat) : Int) := fun a ha => by
    have : ∀ n, n ≤ k → sumTo (fun i => (i : Int) * (a i : Int)) n ≤ ((n * (k * R) : Nat) : Int) := fun n => by
      induction n with
      | zero => intro _; show (0 : Int) ≤ _; omega
      | succ n ih =>
        intro hn
        rw [sumTo_succ]
        have h1 := ih (by omega)
        have h2 : n * a n ≤ k * R := Nat.mul_le_mul (by omega) (Nat.le_of_lt (ha n (by omega)))
        have h3 : (n : Int) * (a n : Int) = ((n * a n : Nat) : Int) := by rw [Int.natCast_mul]
        rw [h3, Nat.add_mul, Nat.one_mul]
        omega
    exact this k (Nat.le_refl _)
  intro N
  induction N with
  | zero =>
    intro a hN ha
    by_cases hs : ∀ i, i + 1 < k → a i < a (i + 1)
    · exact h a ha hs
    · obtain ⟨i, hi, hle⟩ : ∃ i, i + 1 < k ∧ a (i + 1) ≤ a i := by
        apply Classical.byContradiction
        intro hno
        exact hs fun i hi => Nat.lt_of_not_le fun q => hno ⟨i, hi, q⟩
      by_cases he : a i = a (i + 1)
      · rw [H.alt i (sub_ f a b) hi fun y _ => by unfold sub_; rw [he]]
        exact Int.dvd_zero _
      · exfalso
        have h1 := sumTo_atG (g := fun x => (x : Int) * (a x : Int)) (e := fun x => (x : Int) * ((if x = i then a (i + 1) else a x : Nat) : Int)) (show i < k by omega) (fun x _ hne => by simp only [if_neg hne])
        have h2 := sumTo_atG (g := fun x => (x : Int) * ((if x = i then a (i + 1) else a x : Nat) : Int)) (e := fun x => (x : Int) * ((if x = i then a (i + 1) else if x = i + 1 then a i else a x : Nat) : Int)) hi (fun x _ hne => by
          by_cases e : x = i
          · simp only [if_pos e]
          · simp only [if_neg e, if_neg hne])
        have h3 := hbound (fun x => if x = i then a (i + 1) else if x = i + 1 then a i else a x) fun x hx => by
          have := ha i (by omega); have := ha (i + 1) hi; have := ha x hx
          split
          · omega
          · split <;> omega
        simp only [if_pos, show ¬ i + 1 = i by omega, if_false] at h1 h2
        have e1 : ((i + 1 : Nat) : Int) * (a i : Int) = (i : Int) * (a i : Int) + a i := by rw [Int.natCast_add, Int.add_mul]; omega
        have e2 : ((i + 1 : Nat) : Int) * (a (i + 1) : Int) = (i : Int) * (a (i + 1) : Int) + a (i + 1) := by rw [Int.natCast_add, Int.add_mul]; omega
        rw [e1, e2] at h2
        omega
  | succ N ih =>
    intro a hN ha
    by_cases hs : ∀ i, i + 1 < k → a i < a (i + 1)
    · exact h a ha hs
    · obtain ⟨i, hi, hle⟩ : ∃ i, i + 1 < k ∧ a (i + 1) ≤ a i := by
        apply Classical.byContradiction
        intro hno
        exact hs fun i hi => Nat.lt_of_not_le fun q => hno ⟨i, hi, q⟩
      by_cases he : a i = a (i + 1)
      · rw [H.alt i (sub_ f a b) hi fun y _ => by unfold sub_; rw [he]]
        exact Int.dvd_zero _
      · have h1 := sumTo_atG (g := fun x => (x : Int) * (a x : Int)) (e := fun x => (x : Int) * ((if x = i then a (i + 1) else a x : Nat) : Int)) (show i < k by omega) (fun x _ hne => by simp only [if_neg hne])
        have h2 := sumTo_atG (g := fun x => (x : Int) * ((if x = i then a (i + 1) else a x : Nat) : Int)) (e := fun x => (x : Int) * ((if x = i then a (i + 1) else if x = i + 1 then a i else a x : Nat) : Int)) hi (fun x _ hne => by
          by_cases e : x = i
          · simp only [if_pos e]
          · simp only [if_neg e, if_neg hne])
        simp only [if_pos, show ¬ i + 1 = i by omega, if_false] at h1 h2
        have e1 : ((i + 1 : Nat) : Int) * (a i : Int) = (i : Int) * (a i : Int) + a i := by rw [Int.natCast_add, Int.add_mul]; omega
        have e2 : ((i + 1 : Nat) : Int) * (a (i + 1) : Int) = (i : Int) * (a (i + 1) : Int) + a (i + 1) := by rw [Int.natCast_add, Int.add_mul]; omega
        rw [e1, e2] at h2
        have h3 := ih (fun x => if x = i then a (i + 1) else if x = i + 1 then a i else a x) (by omega) fun x hx => by
          have := ha i (by omega); have := ha (i + 1) hi; have := ha x hx
          split
          · omega
          · split <;> omega
        have h4 := H.adj hi (sub_ f a b)
        have h5 : F (swF (sub_ f a b) i (i + 1)) = F (sub_ f (fun x => if x = i then a (i + 1) else if x = i + 1 then a i else a x) b) := H.congr _ _ fun x y _ _ => by
          unfold swF sub_
          dsimp only
          by_cases q1 : x = i
          · rw [if_pos q1, if_pos q1]
          · rw [if_neg q1, if_neg q1]
            by_cases q2 : x = i + 1
            · rw [if_pos q2, if_pos q2]
            · rw [if_neg q2, if_neg q2]
        rw [h5] at h4
        rw [h4] at h3
        exact Int.dvd_neg.1 h3
theorem GDv.sorted {k R C : Nat} {F : Fn2 → Int} (H : Alt2 k F) {f : Fn2} {d : Int} (h : ∀ a b : Nat → Nat, (∀ i, i < k → a i < R) → (∀ i, i + 1 < k → a i < a (i + 1)) → (∀ i, i < k → b i < C) → (∀ i, i + 1 < k → b i < b (i + 1)) → d ∣ F (sub_ f a b)) : GDv k F R C f d := fun a b ha hb => by
  obtain ⟨N, hN⟩ : ∃ N : Nat, ((k * (k * R) : Nat) : Int) - sumTo (fun i => (i : Int) * (a i : Int)) k ≤ N := ⟨(((k * (k * R) : Nat) : Int) - sumTo (fun i => (i : Int) * (a i : Int)) k).toNat, by omega⟩
  refine H.r.sorted (R := R) (fun a ha hs => ?_) N a hN ha
  obtain ⟨N, hN⟩ : ∃ N : Nat, ((k * (k * C) : Nat) : Int) - sumTo (fun i => (i : Int) * (b i : Int)) k ≤ N := ⟨(((k * (k * C) : Nat) : Int) - sumTo (fun i => (i : Int) * (b i : Int)) k).toNat, by omega⟩
  exact H.c.sorted (R := C) (f := tp f) (b := a) (fun b hb hsb => h a b ha hs hb hsb) N b hN hb
theorem extF_has {n : Int} {c : List Int} : ∀ (m : Nat) (i j : Int), i ≤ j → j < n → j < i + m → c ++ [j] ∈ extF n c m i
  | 0, i, j, h1, _, h3 => by omega
  | m + 1, i, j, h1, h2, h3 => by
    show c ++ [j] ∈ (if i < n then (c ++ [i]) :: extF n c m (i + 1) else [])
    rw [if_pos (by omega)]
    by_cases e : j = i
    · subst e; exact List.mem_cons_self ..
    · exact List.mem_cons_of_mem _ (extF_has m (i + 1) j (by omega) h2 (by omega))
theorem tabZ_succ (n : Nat) (f : Nat → Int) : tab (n + 1) f = tab n f ++ [f n] := by
  unfold tab
  rw [List.range_succ, List.map_append]
  rfl
theorem chL_has {n : Nat} {a : Nat → Nat} : ∀ k, (∀ i, i < k → a i < n) → (∀ i, i + 1 < k → a i < a (i + 1)) → tab k (fun i => (a i : Int)) ∈ chL n k
  | 0, _, _ => by show ([] : List Int) ∈ [[]]; exact List.mem_cons_self ..
  | k + 1, h1, h2 => by
    have ih := chL_has k (fun i hi => h1 i (by omega)) (fun i hi => h2 i (by omega))
    rw [tabZ_succ]
    refine List.mem_flatMap.2 ⟨_, ih, ?_⟩
    have hf : frm (tab k fun i => (a i : Int)) ≤ a k := by
      unfold frm
      rw [tab_len]
      split
      · omega
      · rw [tab_getD (by omega)]
        have := h2 (k - 1) (by omega)
        rw [show k - 1 + 1 = k by omega] at this
        omega
    have hk := h1 k (by omega)
    unfold extL
    exact extF_has _ _ _ hf (by omega) (by omega)
theorem mgK_all {D : Nat → Option Int} : ∀ (Q : Nat) (g : Int), mgK D Q = some g → 0 ≤ g ∧ (∀ q, q < Q → ∃ e, D q = some e ∧ g ∣ e) ∧ ∀ d : Int, (∀ q e, q < Q → D q = some e → d ∣ e) → d ∣ g
  | 0, g, h => by
    have : (0 : Int) = g := by injection h
    subst this
    exact ⟨Int.le_refl _, fun q hq => absurd hq (Nat.not_lt_zero _), fun d _ => Int.dvd_zero _⟩
  | Q + 1, g, h => by
    have h' : (mgK D Q).bind (fun g => (D Q).bind fun d => some ((Int.gcd g d : Nat) : Int)) = some g := h
    rcases hg : mgK D Q with _ | g0
    · rw [hg] at h'; cases h'
    · rw [hg] at h'
      rcases he : D Q with _ | e0
      · have h'' : (D Q).bind (fun d => some ((Int.gcd g0 d : Nat) : Int)) = some g := h'
        rw [he] at h''; cases h''
      · have h'' : (D Q).bind (fun d => some ((Int.gcd g0 d : Nat) : Int)) = some g := h'
        rw [he] at h''
        have hgg : ((Int.gcd g0 e0 : Nat) : Int) = g := by injection h''
        subst hgg
        obtain ⟨a1, a2, a3⟩ := mgK_all Q g0 hg
        refine ⟨Int.natCast_nonneg _, fun q hq => ?_, fun d hd => ?_⟩
        · by_cases e : q = Q
          · subst e; exact ⟨e0, he, Int.gcd_dvd_right ..⟩
          · obtain ⟨e, h1, h2⟩ := a2 q (by omega)
            exact ⟨e, h1, Int.dvd_trans (Int.gcd_dvd_left ..) h2⟩
        · exact Int.dvd_coe_gcd (a3 d fun q e hq he => hd q e (by omega) he) (hd Q e0 (by omega) he)
theorem mg_gdv {R C k : Nat} {xs : List Int} {g : Int} (h : mgO R C xs k = some g) : 0 ≤ g ∧ ∀ d, GDv k (Dt k) R C (fun i j => cel xs C i j) d ↔ d ∣ g := by
  unfold mgO at h
  split at h
  · simp only [Int.toNat_natCast] at h
    obtain ⟨h1, h2, h3⟩ := mgK_all _ _ h
    have hval : ∀ (rs cs : List Int) (e : Int), rs.length = k → cs.length = k → (∀ x ∈ rs, 0 ≤ x ∧ x < (R : Int)) → (∀ x ∈ cs, 0 ≤ x ∧ x < (C : Int)) → detL k (tb k k (pF xs C rs cs)) = some e → e = Dt k (sub_ (fun i j => cel xs C i j) (fun i => (rs.getD i 0).toNat) (fun j => (cs.getD j 0).toNat)) := fun rs cs e hr hc hrb hcb he => by
      rw [detL_Dt k _ e (tb_len _ _ _) he]
      refine Dt_congr k fun i j hi hj => ?_
      show cel (tb k k (pF xs C rs cs)) k i j = cel xs C ((rs.getD i 0).toNat : Nat) ((cs.getD j 0).toNat : Nat)
      rw [cel_tb hi hj]
      unfold pF
      have b1 := hrb (rs.getD i 0) (by simp [List.getD, show i < rs.length by omega])
      have b2 := hcb (cs.getD j 0) (by simp [List.getD, show j < cs.length by omega])
      rw [Int.toNat_of_nonneg b1.1, Int.toNat_of_nonneg b2.1]
    have hget : ∀ (l : List (List Int)) (q : Nat), q < l.length → l.getD q [] ∈ l := fun l q hq => by
      have : l.getD q [] = l[q] := by simp [List.getD, hq]
      rw [this]; exact List.getElem_mem hq
    refine ⟨h1, fun d => ⟨fun hd => h3 d fun q e hq he => ?_, fun hd => ?_⟩⟩
    · have hL2 : 0 < (chL (C : Int) k).length := by
        rcases Nat.eq_zero_or_pos (chL (C : Int) k).length with e | e
        · rw [e, Nat.mul_zero] at hq; omega
        · exact e
      have m1 := hget (chL (R : Int) k) (q / (chL (C : Int) k).length) (Nat.div_lt_of_lt_mul (by rw [Nat.mul_comm]; exact hq))
      have m2 := hget (chL (C : Int) k) (q % (chL (C : Int) k).length) (Nat.mod_lt _ hL2)
      obtain ⟨r1, r2⟩ := chL_mem (by omega) k _ m1
      obtain ⟨c1, c2⟩ := chL_mem (by omega) k _ m2
      unfold mgD at he
      simp only [Int.toNat_natCast] at he
      rw [hval _ _ e r1 c1 r2 c2 he]
      refine hd _ _ (fun i hi => ?_) (fun j hj => ?_)
      · have := r2 (((chL (R : Int) k).getD (q / (chL (C : Int) k).length) []).getD i 0) (by simp [List.getD, show i < ((chL (R : Int) k)[q / (chL (C : Int) k).length]?.getD []).length by simpa [List.getD] using (by omega : i < ((chL (R : Int) k).getD (q / (chL (C : Int) k).length) []).length)])
        omega
      · have := c2 (((chL (C : Int) k).getD (q % (chL (C : Int) k).length) []).getD j 0) (by simp [List.getD, show j < ((chL (C : Int) k)[q % (chL (C : Int) k).length]?.getD []).length by simpa [List.getD] using (by omega : j < ((chL (C : Int) k).getD (q % (chL (C : Int) k).length) []).length)])
        omega
    · refine GDv.sorted (Alt2.dt k) fun a b ha hsa hb hsb => ?_
      obtain ⟨q1, hq1, e1⟩ := List.mem_iff_getElem.1 (chL_has k ha hsa)
      obtain ⟨q2, hq2, e2⟩ := List.mem_iff_getElem.1 (chL_has k hb hsb)
      obtain ⟨e, he, hge⟩ := h2 (q1 * (chL (C : Int) k).length + q2) (idx_nat hq1 hq2)
      unfold mgD at he
      rw [(idx_div hq2).1, (idx_div hq2).2] at he
      simp only [Int.toNat_natCast] at he
      have g1 : (chL (R : Int) k).getD q1 [] = tab k fun i => (a i : Int) := by rw [← e1]; simp [List.getD, hq1]
      have g2 : (chL (C : Int) k).getD q2 [] = tab k fun i => (b i : Int) := by rw [← e2]; simp [List.getD, hq2]
      rw [g1, g2] at he
      have hv := hval _ _ e (tab_len _ _) (tab_len _ _) (fun x hx => by
        obtain ⟨i, hi, rfl⟩ := List.mem_iff_getElem.1 hx
        rw [tab_len] at hi
        have := ha i hi
        have e : (tab k fun i => (a i : Int))[i]'(by rw [tab_len]; exact hi) = a i := by simp [tab]
        rw [e]; omega) (fun x hx => by
        obtain ⟨i, hi, rfl⟩ := List.mem_iff_getElem.1 hx
        rw [tab_len] at hi
        have := hb i hi
        have e : (tab k fun i => (b i : Int))[i]'(by rw [tab_len]; exact hi) = b i := by simp [tab]
        rw [e]; omega) he
      have hf : Dt k (sub_ (fun i j => cel xs C i j) a b) = e := by
        rw [hv]
        refine Dt_congr k fun i j hi hj => ?_
        show cel xs C (a i : Nat) (b j : Nat) = cel xs C (((tab k fun i => (a i : Int)).getD i 0).toNat : Nat) (((tab k fun i => (b i : Int)).getD j 0).toNat : Nat)
        rw [tab_getD hi, tab_getD hj, Int.toNat_natCast, Int.toNat_natCast]
      rw [hf]
      exact Int.dvd_trans hd hge
  · cases h
end Go.Proofs.Ytacjonkehcamgaa

/-
  DERIVED. What the law of the Smith form asks, said of matrices as lists. No program in sight.
-/
namespace Go.Proofs.Ytacjonkehcamgaa
set_option linter.unusedVariables false
theorem mulS_fn {R n C : Nat} {f : Fn2} {xs : List Int} {i j : Nat} (hi : i < R) (hj : j < C) : cel (mulL (tb R n f) R n xs C) C i j = mm n f (fun i j => cel xs C i j) i j := by
  rw [cel_nat, mulL_at hi hj]
  unfold prodAt mm
  exact sumTo_congr n fun k hk => by rw [cel_tb hi hk]
theorem sm_isSmith {R C : Nat} {xs : List Int} {s : SS} (h : sfX R C xs = some s) : isSmithV R C (tb R C s.f) = true := by
  obtain ⟨-, hR, hC, hg⟩ := sfX_gd h
  obtain ⟨d1, d2⟩ := sfX_dia h
  have hdg := sfX_diag h
  have hm : isMat R C (tb R C s.f) = true := isMat_iff.2 ⟨by omega, by omega, by omega, by omega, by rw [tb_len]; simp, by
    rw [List.all_eq_true]
    exact tb_mem fun i j hi hj => (hg.ok.f i j hi hj).isN⟩
  unfold isSmithV
  rw [hm, Bool.true_and]
  simp only [Int.toNat_natCast]
  unfold smAll smRow
  rw [List.all_eq_true]
  intro i hi
  have hi := List.mem_range.1 hi
  rw [List.all_eq_true]
  intro j hj
  have hj := List.mem_range.1 hj
  unfold smC
  rw [cel_tb hi hj]
  simp only [Bool.and_eq_true, decide_eq_true_eq]
  refine ⟨⟨fun hne => hdg i j hi hj (by omega), ?_⟩, fun he hp => ?_⟩
  · by_cases e : i = j
    · subst e; exact d1 i hi hj
    · rw [hdg i j hi hj e]; exact Int.le_refl _
  · obtain rfl : i = j := by omega
    have hp' : 0 < i := by omega
    rw [show (i : Int) - 1 = ((i - 1 : Nat) : Int) by omega, cel_tb (by omega) (by omega)]
    have := d2 (i - 1) (by omega) (by omega)
    rwa [show i - 1 + 1 = i by omega] at this
theorem sm_prod {R C : Nat} {xs : List Int} {s : SS} (h : sfX R C xs = some s) : mulL (mulL (tb R R s.g) R R xs C) R C (tb C C s.h) C = tb R C s.f := by
  have H := (sfX_umv h).1
  rw [tb_of (R := R) (C := C) (xs := mulL (mulL (tb R R s.g) R R xs C) R C (tb C C s.h) C) (mulL_len _ _ _ _ _)]
  refine tb_ext fun i j hi hj => ?_
  rw [← H i j hi hj, cel_nat, mulL_at hi hj]
  unfold prodAt
  show _ = sumTo (fun k => mm R s.g (fun i j => cel xs C i j) i k * s.h k j) C
  exact sumTo_congr C fun k hk => by rw [mulS_fn hi hk, cel_tb hk hj]
theorem sm_detU {R C : Nat} {xs : List Int} {s : SS} (h : sfX R C xs = some s) : ∀ d, dtO R R (tb R R s.g) = some d → d = 1 ∨ d = -1 := fun d hd => by
  unfold dtO at hd
  split at hd
  · simp only [Int.toNat_natCast] at hd
    rw [detL_Dt R _ d (tb_len _ _ _) hd, Dt_congr R (g := s.g) fun i j hi hj => cel_tb hi hj]
    exact (sfX_unm h).1
  · cases hd
theorem sm_detV {R C : Nat} {xs : List Int} {s : SS} (h : sfX R C xs = some s) : ∀ d, dtO C C (tb C C s.h) = some d → d = 1 ∨ d = -1 := fun d hd => by
  unfold dtO at hd
  split at hd
  · simp only [Int.toNat_natCast] at hd
    rw [detL_Dt C _ d (tb_len _ _ _) hd, Dt_congr C (g := s.h) fun i j hi hj => cel_tb hi hj]
    exact (sfX_unm h).2
  · cases hd
/-- What the laws' product computes: it stops at a great number. -/
def pK (l : List Int) : Nat → Int
  | 0 => 1
  | i + 1 => if (pK l i).natAbs < 1073741824 then pK l i * l.getD i 0 else pK l i
def pS (l : List Int) : Int := pK l l.length
theorem pK_stop {l : List Int} {i : Nat} (h : ¬ (pK l i).natAbs < 1073741824) : ∀ n, pK l (i + n) = pK l i
  | 0 => rfl
  | n + 1 => by
    have ih := pK_stop h n
    show (if (pK l (i + n)).natAbs < 1073741824 then pK l (i + n) * l.getD (i + n) 0 else pK l (i + n)) = _
    rw [ih, if_neg h]
theorem facK_tab {d : Nat → Int} {k : Nat} (h1 : ∀ a, a < k → d a ≠ 0) : ∀ m, k ≤ m → (∀ a, k ≤ a → a < m → d a = 0) → facK d m = tab k d := by
  have h0 : ∀ n, n ≤ k → facK d n = tab n d := fun n => by
    induction n with
    | zero => intro _; rfl
    | succ n ih =>
      intro hn
      rw [facK_add (h1 n (by omega)), ih (by omega), tabZ_succ]
  intro m hm h2
  obtain ⟨e, rfl⟩ : ∃ e, m = k + e := ⟨m - k, by omega⟩
  clear hm
  induction e with
  | zero => exact h0 k (Nat.le_refl _)
  | succ e ih =>
    rw [show k + (e + 1) = k + e + 1 by omega, facK_skip (h2 (k + e) (by omega) (by omega))]
    exact ih fun a ha hb => h2 a ha (by omega)
theorem fac_tab {R C : Nat} {xs : List Int} {s : SS} (h : sfX R C xs = some s) : ∃ k, facV R C xs = tab k (dgF R C s.f) ∧ (∀ a, a < k → dgF R C s.f a ≠ 0) := by
  have D := diaC h
  obtain ⟨k, h1, h2, h3⟩ : ∃ k, k ≤ min R C ∧ (∀ a, a < k → dgF R C s.f a ≠ 0) ∧ ∀ a, k ≤ a → a < min R C → dgF R C s.f a = 0 := by
    have : ∀ m, ∃ k, k ≤ m ∧ (∀ a, a < k → dgF R C s.f a ≠ 0) ∧ ∀ a, k ≤ a → a < m → dgF R C s.f a = 0 := fun m => by
      induction m with
      | zero => exact ⟨0, Nat.le_refl _, fun a ha => absurd ha (Nat.not_lt_zero _), fun a _ ha => absurd ha (Nat.not_lt_zero _)⟩
      | succ m ih =>
        obtain ⟨k, h1, h2, h3⟩ := ih
        by_cases e : dgF R C s.f m = 0
        · exact ⟨k, by omega, h2, fun a ha hb => by
            by_cases q : a = m
            · rw [q]; exact e
            · exact h3 a ha (by omega)⟩
        · have hk : k = m := by
            rcases Nat.lt_or_ge k m with hlt | hge
            · exfalso
              have h5 := D.dv k m (by omega)
              rw [h3 k (Nat.le_refl _) hlt] at h5
              exact e (Int.zero_dvd.1 h5)
            · omega
          subst hk
          exact ⟨k + 1, Nat.le_refl _, fun a ha => by
            by_cases q : a = k
            · rw [q]; exact e
            · exact h2 a (by omega), fun a ha hb => by omega⟩
    exact this _
  refine ⟨k, ?_, h2⟩
  unfold facV
  rw [h]
  show facK (dgF (R : Int).toNat (C : Int).toNat s.f) (min (R : Int).toNat (C : Int).toNat) = _
  simp only [Int.toNat_natCast]
  exact facK_tab h2 _ h1 h3
theorem mg_small {R C k : Nat} {xs : List Int} {g : Int} (h : mgO R C xs k = some g) : g ≤ 400000000 := by
  unfold mgO at h
  split at h
  · obtain ⟨h1, h2, h3⟩ := mgK_all _ _ h
    by_cases h0 : g = 0
    · omega
    · apply Classical.byContradiction
      intro hbig
      refine h0 (Int.zero_dvd.1 (h3 0 fun q e hq he => ?_))
      obtain ⟨e', he', hd⟩ := h2 q hq
      rw [he] at he'
      injection he' with he'
      subst he'
      have hn := detL_num _ _ _ he
      have hz : e = 0 := by
        apply Classical.byContradiction
        intro hne
        have := Nat.le_of_dvd (show 0 < e.natAbs by omega) (Int.natAbs_dvd_natAbs.2 hd)
        have := hn.1; have := hn.2
        omega
      rw [hz]; exact Int.dvd_refl _
  · cases h
theorem sm_minor {R C k : Nat} {xs : List Int} {s : SS} {g : Int} (h : sfX R C xs = some s) (hk : k ≤ (facV R C xs).length) (hg : mgO R C xs k = some g) : pS ((facV R C xs).take k) = g := by
  have D := diaC h
  obtain ⟨K, e, hne⟩ := fac_tab h
  obtain ⟨g0, g1⟩ := mg_gdv hg
  have hgp : prodTo (dgF R C s.f) k = g := dvd_same (prodTo_nonneg D.nn k) g0 fun d => ((sf_gdv h d).1.symm.trans (g1 d))
  have hsm := mg_small hg
  rw [e, tab_len] at hk
  have hgne : g ≠ 0 := by rw [← hgp]; exact prodTo_ne k fun i hi => hne i (by omega)
  have hdv : ∀ i, i ≤ k → prodTo (dgF R C s.f) i ∣ g := fun i hi => by
    have : ∀ n, prodTo (dgF R C s.f) i ∣ prodTo (dgF R C s.f) (i + n) := fun n => by
      induction n with
      | zero => exact Int.dvd_refl _
      | succ n ih => exact Int.dvd_trans ih ⟨_, rfl⟩
    have := this (k - i)
    rw [show i + (k - i) = k by omega, hgp] at this
    exact this
  have hl : ((facV R C xs).take k).length = k := by rw [List.length_take, e, tab_len]; omega
  unfold pS
  rw [hl, ← hgp]
  have : ∀ i, i ≤ k → pK ((facV R C xs).take k) i = prodTo (dgF R C s.f) i := fun i => by
    induction i with
    | zero => intro _; rfl
    | succ i ih =>
      intro hi
      show (if (pK ((facV R C xs).take k) i).natAbs < 1073741824 then pK ((facV R C xs).take k) i * ((facV R C xs).take k).getD i 0 else pK ((facV R C xs).take k) i) = prodTo (dgF R C s.f) i * dgF R C s.f i
      rw [ih (by omega)]
      have h1 := hdv i (by omega)
      have h2 := Nat.le_of_dvd (show 0 < g.natAbs by omega) (Int.natAbs_dvd_natAbs.2 h1)
      rw [if_pos (by omega)]
      congr 1
      have : ((facV R C xs).take k).getD i 0 = (facV R C xs).getD i 0 := by simp [List.getD, show i < k by omega]
      rw [this, e, tab_getD (by omega)]
  exact this k (Nat.le_refl _)
theorem sm_fact {R C : Nat} {xs : List Int} {mf : Fn2} {s s2 : SS} (hs : SPN R R idF mf) (h : sfX R C xs = some s) (h2 : sfX C R (tb C R (fun a b => cel (mulL (tb R R mf) R R xs C) C b a)) = some s2) : facV C R (tb C R (fun a b => cel (mulL (tb R R mf) R R xs C) C b a)) = facV R C xs := by
  have D := diaC h
  have D2 := diaC h2
  have hp : ∀ k, prodTo (dgF R C s.f) k = prodTo (dgF C R s2.f) k := fun k => dvd_same (prodTo_nonneg D.nn k) (prodTo_nonneg D2.nn k) fun d => by
    have a1 := (sf_gdv (k := k) h d).1
    have a2 := (sf_gdv (k := k) h2 d).2
    have b1 := GDv.spn (k := k) (d := d) (Dt_alt k) (SPN.left (C := C) (m := fun i j => cel xs C i j) hs)
    have b2 := GDv.congr (k := k) (d := d) (Dt_alt k) (R := R) (C := C) (f := mm R mf (fun i j => cel xs C i j)) (g := fun i j => cel (mulL (tb R R mf) R R xs C) C i j) fun i j hi hj => (mulS_fn hi hj).symm
    have b3 := GDv.tp_ (k := k) (d := d) (F := Dt k) (R := R) (C := C) (f := fun i j => cel (mulL (tb R R mf) R R xs C) C i j)
    have b4 := GDv.congr (k := k) (d := d) (Alt2.dt k).c (R := C) (C := R) (f := tp (fun i j => cel (mulL (tb R R mf) R R xs C) C i j)) (g := fun i j => cel (tb C R (fun a b => cel (mulL (tb R R mf) R R xs C) C b a)) R i j) fun i j hi hj => (cel_tb (f := fun a b : Nat => cel (mulL (tb R R mf) R R xs C) C b a) hi hj).symm
    exact a1.symm.trans (b1.trans (b2.trans (b3.trans (b4.trans a2))))
  have he := facK_eq D.nn D2.nn D.dv D2.dv hp
  unfold facV
  rw [h, h2]
  show facK (dgF (C : Int).toNat (R : Int).toNat s2.f) (min (C : Int).toNat (R : Int).toNat) = facK (dgF (R : Int).toNat (C : Int).toNat s.f) (min (R : Int).toNat (C : Int).toNat)
  simp only [Int.toNat_natCast]
  rw [Nat.min_comm, show dgF C R s2.f = dgF R C s.f from funext fun i => (he i).symm]
end Go.Proofs.Ytacjonkehcamgaa

/-
  DERIVED. The laws' product: it stops at a great number.
-/
namespace Go.Proofs.Ytacjonkehcamgaa
open Go.RowKit
set_option linter.unusedVariables false
set_option linter.unusedSimpArgs false
theorem pK_bd {l : List Int} (h : ∀ k, Num (l.getD k 0)) : ∀ i, (pK l i).natAbs ≤ 1073741824 * 400000000
  | 0 => by show (1 : Int).natAbs ≤ _; decide
  | i + 1 => by
    show (if (pK l i).natAbs < 1073741824 then pK l i * l.getD i 0 else pK l i).natAbs ≤ _
    split
    · rename_i hlt
      rw [Int.natAbs_mul]
      have := (h i).1; have := (h i).2
      exact Nat.mul_le_mul (by omega) (by omega)
    · exact pK_bd h i
set_option maxRecDepth 100000 in
set_option maxHeartbeats 1000000 in
theorem laws_product (A : Option Addr) (n cap : Nat) (xs : List Int) (w : World) {B : Nat} (h : RI w B A n xs) (hB : B ≤ w.heap.size) (hn : n ≤ 1048576) (hnum : ∀ k, Num (xs.getD k 0)) :
    Calls Try.prog 62 #[.slice A n cap] w (BV (.int .i64 (pS xs)) w) := by
  have hlx := h.len
  have H := Lib.hid (h.more hB)
  have HN := Lib.hid hnum
  have HLX := Lib.hid hlx
  clear h hnum hlx
  go_enter Try.func62, Try.ntmps62
  go_wp2_with fail
  go_loopw [3, 4] (fun u v wr => ∃ i : Nat, u = .int .i64 (pK xs i) ∧ v = .int .i64 i ∧ i ≤ n ∧ Below w.heap.size w wr) (fun _ v _ => n - (intOf v).toNat)
  case atStart => exact ⟨0, rfl, rfl, Nat.zero_le _, Kw⟩
  case round =>
    obtain ⟨i, rfl, rfl, hi, hbw⟩ := hrel
    have hsw := hbw.size
    by_cases hlt : i < n
    · have hb := pK_bd HN.out i
      obtain ⟨p, hp⟩ : ∃ p, pK xs i = p := ⟨_, rfl⟩
      rw [hp] at hb
      have HP := Lib.hid hp
      rw [hp]
      clear hp
      by_cases hs : p.natAbs < 1073741824
      · obtain ⟨b, o, rfl, hbb, hcells⟩ := H.out.2 (by omega)
        have cv := (hbw.cell (p := ⟨b, o + i, none⟩) hbb).trans (hcells i hlt)
        obtain ⟨x1, x2⟩ := HN.out i
        have HST : Hid (pK xs (i + 1) = p * xs.getD i 0) := Lib.hid (by
          show (if (pK xs i).natAbs < 1073741824 then pK xs i * xs.getD i 0 else pK xs i) = _
          rw [HP.out, if_pos hs])
        clear hcells
        generalize xs.getD i 0 = x at *
        have hm : (p * x).natAbs ≤ 1073741824 * 400000000 := by rw [Int.natAbs_mul]; exact Nat.mul_le_mul (by omega) (by omega)
        have hw : IntKind.i64.wrap (p * x) = p * x := IntWalk.i64_in _ (by omega)
        have t1 : decide ((p.natAbs : Int) < 1073741824) = true := decide_eq_true (by omega)
        clear hm
        go_wp2_with fail
        refine (laws_abs p (by omega) (by omega) _).mono ?_
        rintro e w2 ⟨rfl, rfl⟩
        go_wp2_with fail
        go_roundw
        case rel => exact ⟨i + 1, by rw [HST.out], by go_num, by omega, Kw⟩
        case measure => simp only [intOf]; omega
      · have t1 : decide ((p.natAbs : Int) < 1073741824) = false := decide_eq_false (by omega)
        have hend : pS xs = p := by
          unfold pS
          rw [HLX.out, show n = i + (n - i) by omega, pK_stop (by rw [HP.out]; exact hs), HP.out]
        go_wp2_with fail
        refine (laws_abs p (by omega) (by omega) _).mono ?_
        rintro e w2 ⟨rfl, rfl⟩
        go_wp2_with fail
        go_ret
        exact BV.mk (by rw [hend]; rfl) Kw
    · obtain rfl : i = n := by omega
      have hend : pS xs = pK xs i := by unfold pS; rw [HLX.out]
      obtain ⟨p, hp⟩ : ∃ p, pK xs i = p := ⟨_, rfl⟩
      rw [hp] at hend
      rw [hp]
      clear hp
      go_wp2_with fail
      go_ret
      exact BV.mk (by rw [hend]; rfl) Kw
end Go.Proofs.Ytacjonkehcamgaa

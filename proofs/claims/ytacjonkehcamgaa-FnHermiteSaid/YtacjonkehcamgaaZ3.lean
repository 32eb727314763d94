/-
  DERIVED. Several small texts in one: PlDl, DrA, HmF, Det, DetS, Uni, PlHL.
-/
import Derived.Test.YtacjonkehcamgaaZS
import Derived.Test.YtacjonkehcamgaaZ1
import Derived.Test.YtacjonkehcamgaaDetWq
import Derived.Test.YtacjonkehcamgaaDrMq
import Derived.Test.YtacjonkehcamgaaHmSq
import Derived.Test.YtacjonkehcamgaaIden
import Derived.Test.YtacjonkehcamgaaFit
import Derived.Deep.LoopGhost
import Derived.Test.YtacjonkehcamgaaHmT
import Derived.Test.YtacjonkehcamgaaZ2
/-
  DERIVED. The determinant by its first row, as a list, is that of the matrix: no program in sight.
-/
namespace Go.Proofs.Ytacjonkehcamgaa
set_option linter.unusedVariables false
theorem tab_succ (n : Nat) (f : Nat → Int) : tab (n + 1) f = tab n f ++ [f n] := by
  unfold tab
  rw [List.range_succ, List.map_append]
  rfl
def wcG (xs : List Int) (C j : Nat) (q : Nat) : Int := cel xs C ((q / (C - 1) + 1 : Nat) : Int) (sk j (q % (C - 1)) : Nat)
def wcN (j k : Nat) : Nat := k - (if j < k then 1 else 0)
theorem wcK_tab_row {xs : List Int} {C j i : Nat} (hj : j < C) (hi : 1 ≤ i) (h0 : wcK xs C j (i * C) = tab ((i - 1) * (C - 1)) (wcG xs C j)) : ∀ k, k ≤ C → wcK xs C j (i * C + k) = tab ((i - 1) * (C - 1) + wcN j k) (wcG xs C j)
  | 0, _ => by
    have : wcN j 0 = 0 := by unfold wcN; omega
    rw [this, Nat.add_zero, Nat.add_zero]; exact h0
  | k + 1, hk => by
    have ih := wcK_tab_row hj hi h0 k (by omega)
    by_cases hc : k = j
    · have : wcN j (k + 1) = wcN j k := by unfold wcN; subst hc; rw [if_pos (by omega), if_neg (by omega)]; omega
      rw [wcK_no (by omega) (.inr hc), ih, this]
    · have e1 : wcN j (k + 1) = wcN j k + 1 := by unfold wcN; repeat' split
                                                  all_goals omega
      have e2 : wcN j k < C - 1 := by unfold wcN; split <;> omega
      have e3 : sk j (wcN j k) = k := by unfold sk wcN; repeat' split
                                         all_goals omega
      rw [wcK_yes (by omega) (by omega) hc, ih, e1, ← Nat.add_assoc, tab_succ]
      congr 2
      unfold wcG
      rw [(idx_div e2).1, (idx_div e2).2, e3, Nat.sub_add_cancel hi, cel_nat]
theorem wcK_tab {xs : List Int} {C j : Nat} (hj : j < C) : ∀ i, 1 ≤ i → wcK xs C j (i * C) = tab ((i - 1) * (C - 1)) (wcG xs C j)
  | 0, h => absurd h (by omega)
  | 1, _ => by
    have := wcK_len (xs := xs) hj 1
    rw [Nat.sub_self, Nat.zero_mul] at this ⊢
    exact List.length_eq_zero_iff.1 this
  | i + 2, _ => by
    have ih := wcK_tab (xs := xs) hj (i + 1) (by omega)
    have h := wcK_tab_row hj (by omega) ih C (Nat.le_refl _)
    have e : (i + 2) * C = (i + 1) * C + C := by rw [show i + 2 = (i + 1) + 1 by omega, Nat.add_mul (i + 1) 1 C, Nat.one_mul]
    have e2 : wcN j C = C - 1 := by unfold wcN; rw [if_pos hj]
    rw [e, h, e2]
    congr 1
    rw [show i + 1 - 1 = i by omega, show i + 2 - 1 = i + 1 by omega, Nat.add_mul, Nat.one_mul]
theorem wc_cel {xs : List Int} {n j a b : Nat} (hj : j < n + 1) (ha : a < n) (hb : b < n) : cel (wcK xs (n + 1) j ((n + 1) * (n + 1))) n a b = mnr (fun i j => cel xs (n + 1 : Nat) i j) j a b := by
  have h := wcK_tab (xs := xs) hj (n + 1) (by omega)
  rw [h, cel_nat, Nat.add_sub_cancel, tab_getD (idx_nat ha hb)]
  unfold wcG
  rw [Nat.add_sub_cancel, (idx_div hb).1, (idx_div hb).2]
  rfl
theorem wc_len {xs : List Int} {n j : Nat} (hj : j < n + 1) : (wcK xs (n + 1) j ((n + 1) * (n + 1))).length = n * n := by
  rw [wcK_len hj (n + 1), Nat.add_sub_cancel]
theorem detS_sum {n : Nat} {D : List Int → Option Int} (hD : ∀ ys d, ys.length = n * n → D ys = some d → d = Dt n (fun i j => cel ys n i j)) {xs : List Int} :
    ∀ j s, j ≤ n + 1 → detS D (n + 1) xs j = some s → s = sumTo (fun k => sg k * cel xs (n + 1 : Nat) (0 : Nat) k * Dt n (mnr (fun i j => cel xs (n + 1 : Nat) i j) k)) j
  | 0, s, _, h => by cases h; rfl
  | j + 1, s, hj, h => by
    have h' : (detS D (n + 1) xs j).bind (fun s => if xs.getD j 0 = 0 then some s else (D (wcK xs (n + 1) j ((n + 1) * (n + 1)))).bind fun d => some (s + (if j % 2 = 1 then -(xs.getD j 0) else xs.getD j 0) * d)) = some s := h
    rcases hs : detS D (n + 1) xs j with _ | s0
    · rw [hs] at h'; cases h'
    · rw [hs] at h'
      have ih := detS_sum hD j s0 (by omega) hs
      have ec : cel xs (n + 1 : Nat) (0 : Nat) j = xs.getD j 0 := by rw [cel_nat, Nat.zero_mul, Nat.zero_add]
      rw [sumTo_succ, ← ih, ec]
      simp only [Option.bind_some] at h'
      by_cases h0 : xs.getD j 0 = 0
      · rw [if_pos h0] at h'
        cases h'
        rw [h0]
        grind
      · rw [if_neg h0] at h'
        rcases hd : D (wcK xs (n + 1) j ((n + 1) * (n + 1))) with _ | d
        · rw [hd] at h'; cases h'
        · rw [hd] at h'
          simp only [Option.bind_some] at h'
          have e := hD _ d (wc_len (by omega)) hd
          have e2 : Dt n (fun a b => cel (wcK xs (n + 1) j ((n + 1) * (n + 1))) n a b) = Dt n (mnr (fun i j => cel xs (n + 1 : Nat) i j) j) := Dt_congr n fun a b ha hb => wc_cel (by omega) ha hb
          rw [e2] at e
          cases h'
          rw [e]
          unfold sg
          split
          · grind
          · grind
/-- The determinant that is found is the determinant. -/
theorem detL_Dt : ∀ (n : Nat) (xs : List Int) (d : Int), xs.length = n * n → detL n xs = some d → d = Dt n (fun i j => cel xs n i j)
  | 0, xs, d, _, h => by cases h; rfl
  | n + 1, xs, d, hl, h => by
    unfold detL at h
    rcases hs : detS (detL n) (n + 1) xs (n + 1) with _ | s
    · rw [hs] at h; cases h
    · rw [hs] at h
      simp only [Option.bind_some] at h
      split at h
      · cases h
        have := detS_sum (fun ys d hy hd => detL_Dt n ys d hy hd) (n + 1) _ (Nat.le_refl _) hs
        rw [this]
        rfl
      · cases h
end Go.Proofs.Ytacjonkehcamgaa

/-
  DERIVED. What is drawn where one matrix is wanted: DrawHermiteForm, DrawEchelonOf, DrawBasisOf, DrawSmithForm.
-/
namespace Go.Proofs.Ytacjonkehcamgaa
open Go.RowKit
set_option linter.unusedVariables false
set_option linter.unusedSimpArgs false
/-- The call drew a matrix, its cells its own. -/
def DMA (wo : World) (e : Ending) (w' : World) : Prop := ∃ (r c : Int) (Am : Option Addr) (nm cm : Nat) (ys : List Int), e = .returned (.agg #[.int .i64 r, .int .i64 c, .slice Am nm cm]) ∧ OR w' wo.heap.size (.slice Am nm cm) ys ∧ ys.length ≤ 17 ∧ (-1 ≤ r ∧ r ≤ 12) ∧ Below wo.heap.size wo w'
set_option maxRecDepth 100000 in
set_option maxHeartbeats 4000000 in
theorem spec_DrawHermiteForm (n cap : Nat) (A : Option Addr) (xs : List Int) (wo : World) (hby : RB wo wo.heap.size A n xs) (hn : n ≤ 2000000) :
    Calls Try.prog 49 #[.slice A n cap] wo (DMA wo) := by
  have HBY := Lib.hid hby
  clear hby
  go_enter Try.func49, Try.ntmps49
  go_wp2_with fail
  refine (spec_l1New n cap A xs _ (B := wo.heap.size) (by (with_reducible (repeat (first | exact HBY.out | refine RB.drew ?_ | refine RB.drewN ?_ _ | refine RB.alloc ?_ Ks _ | refine RB.setCell ?_ Ks _ | refine RB.below ?_ (by assumption) Ks)))) hn).mono ?_
  rintro e w ⟨b, rfl, hcu, hbs, hb2⟩
  have hsz2 := hb2.size
  simp at hsz2 hbs
  have hct : CT w w wo.heap.size b n cap A xs := CT.new hcu (by (with_reducible (repeat (first | exact HBY.out | refine RB.drew ?_ | refine RB.drewN ?_ _ | refine RB.alloc ?_ Ks _ | refine RB.setCell ?_ Ks _ | refine RB.below ?_ (by assumption) Ks)))) (by omega) hn
  have HB0 : Hid (Below wo.heap.size wo w) := Lib.hid Kw
  have hR0 : BM w wo.heap.size 0 0 none 0 0 := Ka
  have hb := hct.hb
  clear hb2 hcu
  go_wp2_with fail
  refine (spec_l3Any b n cap A xs _ (CT.self (w0 := w) (B := wo.heap.size) (by (with_reducible (repeat (first | exact hct | refine CT.drew ?_ | refine CT.drewN ?_ _ | refine CT.alloc ?_ _ | refine CT.far ?_ Ks _ | refine CT.below ?_ (by assumption) Ks)))))).mono ?_
  rintro e w1 ⟨v, rfl, ⟨r, c, Am, nm, cm, ys, rfl, ho1, hl1, hr1, hc1⟩, hct1⟩
  have hsz1 := hct1.size
  have hR : BM w1 wo.heap.size 0 0 none 0 0 := hR0.grown hct1.gr (by simp; omega)
  have hvr := B3.of hR
  have hbw : Below wo.heap.size wo w1 := HB0.out.trans (CT.under hct1 (by omega))
  obtain ⟨ra, rb, rc, rf, rl⟩ := hR.mx
  have ho2 : OR w1 (wo.heap.size + 1) (.slice Am nm cm) ys := OR.mono ho1 (by omega)
  clear ho1 hct hct1
  go_wp2_with fail
  refine ret_M (b := wo.heap.size) Try.results49 rfl (Kb hvr) rfl ?_
  exact ⟨r, c, Am, nm, cm, ys, rfl, OR.mono (B := wo.heap.size + 1) (Ko ho2) (by omega), hl1, by omega, Kw⟩
set_option maxRecDepth 100000 in
set_option maxHeartbeats 4000000 in
theorem spec_DrawEchelonOf (n cap : Nat) (A : Option Addr) (xs : List Int) (wo : World) (hby : RB wo wo.heap.size A n xs) (hn : n ≤ 2000000) :
    Calls Try.prog 77 #[.slice A n cap] wo (DMA wo) := by
  have HBY := Lib.hid hby
  clear hby
  go_enter Try.func77, Try.ntmps77
  go_wp2_with fail
  refine (spec_l1New n cap A xs _ (B := wo.heap.size) (by (with_reducible (repeat (first | exact HBY.out | refine RB.drew ?_ | refine RB.drewN ?_ _ | refine RB.alloc ?_ Ks _ | refine RB.setCell ?_ Ks _ | refine RB.below ?_ (by assumption) Ks)))) hn).mono ?_
  rintro e w ⟨b, rfl, hcu, hbs, hb2⟩
  have hsz2 := hb2.size
  simp at hsz2 hbs
  have hct : CT w w wo.heap.size b n cap A xs := CT.new hcu (by (with_reducible (repeat (first | exact HBY.out | refine RB.drew ?_ | refine RB.drewN ?_ _ | refine RB.alloc ?_ Ks _ | refine RB.setCell ?_ Ks _ | refine RB.below ?_ (by assumption) Ks)))) (by omega) hn
  have HB0 : Hid (Below wo.heap.size wo w) := Lib.hid Kw
  have hR0 : BM w wo.heap.size 0 0 none 0 0 := Ka
  have hb := hct.hb
  clear hb2 hcu
  go_wp2_with fail
  refine (spec_l3Any b n cap A xs _ (CT.self (w0 := w) (B := wo.heap.size) (by (with_reducible (repeat (first | exact hct | refine CT.drew ?_ | refine CT.drewN ?_ _ | refine CT.alloc ?_ _ | refine CT.far ?_ Ks _ | refine CT.below ?_ (by assumption) Ks)))))).mono ?_
  rintro e w1 ⟨v, rfl, ⟨r, c, Am, nm, cm, ys, rfl, ho1, hl1, hr1, hc1⟩, hct1⟩
  have hsz1 := hct1.size
  have hR : BM w1 wo.heap.size 0 0 none 0 0 := hR0.grown hct1.gr (by simp; omega)
  have hvr := B3.of hR
  have hbw : Below wo.heap.size wo w1 := HB0.out.trans (CT.under hct1 (by omega))
  obtain ⟨ra, rb, rc, rf, rl⟩ := hR.mx
  have ho2 : OR w1 (wo.heap.size + 1) (.slice Am nm cm) ys := OR.mono ho1 (by omega)
  clear ho1 hct hct1
  go_wp2_with fail
  refine ret_M (b := wo.heap.size) Try.results77 rfl (Kb hvr) rfl ?_
  exact ⟨r, c, Am, nm, cm, ys, rfl, OR.mono (B := wo.heap.size + 1) (Ko ho2) (by omega), hl1, by omega, Kw⟩
set_option maxRecDepth 100000 in
set_option maxHeartbeats 4000000 in
theorem spec_DrawBasisOf (n cap : Nat) (A : Option Addr) (xs : List Int) (wo : World) (hby : RB wo wo.heap.size A n xs) (hn : n ≤ 2000000) :
    Calls Try.prog 85 #[.slice A n cap] wo (DMA wo) := by
  have HBY := Lib.hid hby
  clear hby
  go_enter Try.func85, Try.ntmps85
  go_wp2_with fail
  refine (spec_l1New n cap A xs _ (B := wo.heap.size) (by (with_reducible (repeat (first | exact HBY.out | refine RB.drew ?_ | refine RB.drewN ?_ _ | refine RB.alloc ?_ Ks _ | refine RB.setCell ?_ Ks _ | refine RB.below ?_ (by assumption) Ks)))) hn).mono ?_
  rintro e w ⟨b, rfl, hcu, hbs, hb2⟩
  have hsz2 := hb2.size
  simp at hsz2 hbs
  have hct : CT w w wo.heap.size b n cap A xs := CT.new hcu (by (with_reducible (repeat (first | exact HBY.out | refine RB.drew ?_ | refine RB.drewN ?_ _ | refine RB.alloc ?_ Ks _ | refine RB.setCell ?_ Ks _ | refine RB.below ?_ (by assumption) Ks)))) (by omega) hn
  have HB0 : Hid (Below wo.heap.size wo w) := Lib.hid Kw
  have hR0 : BM w wo.heap.size 0 0 none 0 0 := Ka
  have hb := hct.hb
  clear hb2 hcu
  go_wp2_with fail
  refine (spec_l3Any b n cap A xs _ (CT.self (w0 := w) (B := wo.heap.size) (by (with_reducible (repeat (first | exact hct | refine CT.drew ?_ | refine CT.drewN ?_ _ | refine CT.alloc ?_ _ | refine CT.far ?_ Ks _ | refine CT.below ?_ (by assumption) Ks)))))).mono ?_
  rintro e w1 ⟨v, rfl, ⟨r, c, Am, nm, cm, ys, rfl, ho1, hl1, hr1, hc1⟩, hct1⟩
  have hsz1 := hct1.size
  have hR : BM w1 wo.heap.size 0 0 none 0 0 := hR0.grown hct1.gr (by simp; omega)
  have hvr := B3.of hR
  have hbw : Below wo.heap.size wo w1 := HB0.out.trans (CT.under hct1 (by omega))
  obtain ⟨ra, rb, rc, rf, rl⟩ := hR.mx
  have ho2 : OR w1 (wo.heap.size + 1) (.slice Am nm cm) ys := OR.mono ho1 (by omega)
  clear ho1 hct hct1
  go_wp2_with fail
  refine ret_M (b := wo.heap.size) Try.results85 rfl (Kb hvr) rfl ?_
  exact ⟨r, c, Am, nm, cm, ys, rfl, OR.mono (B := wo.heap.size + 1) (Ko ho2) (by omega), hl1, by omega, Kw⟩
set_option maxRecDepth 100000 in
set_option maxHeartbeats 4000000 in
theorem spec_DrawSmithForm (n cap : Nat) (A : Option Addr) (xs : List Int) (wo : World) (hby : RB wo wo.heap.size A n xs) (hn : n ≤ 2000000) :
    Calls Try.prog 55 #[.slice A n cap] wo (DMA wo) := by
  have HBY := Lib.hid hby
  clear hby
  go_enter Try.func55, Try.ntmps55
  go_wp2_with fail
  refine (spec_l1New n cap A xs _ (B := wo.heap.size) (by (with_reducible (repeat (first | exact HBY.out | refine RB.drew ?_ | refine RB.drewN ?_ _ | refine RB.alloc ?_ Ks _ | refine RB.setCell ?_ Ks _ | refine RB.below ?_ (by assumption) Ks)))) hn).mono ?_
  rintro e w ⟨b, rfl, hcu, hbs, hb2⟩
  have hsz2 := hb2.size
  simp at hsz2 hbs
  have hct : CT w w wo.heap.size b n cap A xs := CT.new hcu (by (with_reducible (repeat (first | exact HBY.out | refine RB.drew ?_ | refine RB.drewN ?_ _ | refine RB.alloc ?_ Ks _ | refine RB.setCell ?_ Ks _ | refine RB.below ?_ (by assumption) Ks)))) (by omega) hn
  have HB0 : Hid (Below wo.heap.size wo w) := Lib.hid Kw
  have hR0 : BM w wo.heap.size 0 0 none 0 0 := Ka
  have hb := hct.hb
  clear hb2 hcu
  go_wp2_with fail
  refine (spec_l3Any b n cap A xs _ (CT.self (w0 := w) (B := wo.heap.size) (by (with_reducible (repeat (first | exact hct | refine CT.drew ?_ | refine CT.drewN ?_ _ | refine CT.alloc ?_ _ | refine CT.far ?_ Ks _ | refine CT.below ?_ (by assumption) Ks)))))).mono ?_
  rintro e w1 ⟨v, rfl, ⟨r, c, Am, nm, cm, ys, rfl, ho1, hl1, hr1, hc1⟩, hct1⟩
  have hsz1 := hct1.size
  have hR : BM w1 wo.heap.size 0 0 none 0 0 := hR0.grown hct1.gr (by simp; omega)
  have hvr := B3.of hR
  have hbw : Below wo.heap.size wo w1 := HB0.out.trans (CT.under hct1 (by omega))
  obtain ⟨ra, rb, rc, rf, rl⟩ := hR.mx
  have ho2 : OR w1 (wo.heap.size + 1) (.slice Am nm cm) ys := OR.mono ho1 (by omega)
  clear ho1 hct hct1
  go_wp2_with fail
  refine ret_M (b := wo.heap.size) Try.results55 rfl (Kb hvr) rfl ?_
  exact ⟨r, c, Am, nm, cm, ys, rfl, OR.mono (B := wo.heap.size + 1) (Ko ho2) (by omega), hl1, by omega, Kw⟩
end Go.Proofs.Ytacjonkehcamgaa

/-
  DERIVED. HermiteForm of the reference.
-/
namespace Go.Proofs.Ytacjonkehcamgaa
open Go.RowKit
set_option linter.unusedVariables false
set_option linter.unusedSimpArgs false
/-- The call's own variables: its argument and its two results. -/
structure HVS (w wr : World) (r c : Int) (A : Option Addr) (n cap : Nat) : Prop where
  m : BM wr w.heap.size r c A n cap
  r1 : BM wr (w.heap.size + 1) 0 0 none 0 0
  r2 : BM wr (w.heap.size + 1 + 1) 0 0 none 0 0
  b : Below w.heap.size w wr
section
variable {w wr w' : World} {r c : Int} {A : Option Addr} {n cap : Nat}
theorem HVS.lt (h : HVS w wr r c A n cap) : w.heap.size + 1 + 1 < wr.heap.size := h.r2.lt
theorem HVS.below {D : Nat} (h : HVS w wr r c A n cap) (hD : Below D wr w') (hs : w.heap.size + 1 + 1 + 1 ≤ D) : HVS w w' r c A n cap :=
  ⟨h.m.below hD (by omega), h.r1.below hD (by omega), h.r2.below hD (by omega), h.b.trans (hD.mono (by omega))⟩
theorem HVS.drew (h : HVS w wr r c A n cap) : HVS w wr.drew r c A n cap := ⟨h.m.drew, h.r1.drew, h.r2.drew, h.b.drew⟩
theorem HVS.drewN (h : HVS w wr r c A n cap) (q : Nat) : HVS w (wr.drewN q) r c A n cap := ⟨h.m.drewN q, h.r1.drewN q, h.r2.drewN q, below_drewN h.b q⟩
theorem HVS.alloc (h : HVS w wr r c A n cap) (o : Obj) : HVS w (wr.alloc o) r c A n cap :=
  have hl := h.lt
  ⟨h.m.alloc o, h.r1.alloc o, h.r2.alloc o, Below.alloc h.b (by omega) o⟩
end
set_option maxRecDepth 100000 in
set_option maxHeartbeats 8000000 in
theorem spec_HermiteForm (r c : Int) (A : Option Addr) (n cap : Nat) (xs : List Int) (w : World) {B : Nat} (h : RI w B A n xs) (hB : B ≤ w.heap.size) (hn : n ≤ 1048576) :
    Calls Try.prog 51 #[.agg #[.int .i64 r, .int .i64 c, .slice A n cap]] w (M2R (hmM r c xs) (hmU r c xs) (hmX r c xs).isSome w) := by
  unfold hmM hmU
  have hlen := h.len
  have H2 := Lib.hid (h.more hB)
  clear h
  rcases hm : isMat r c xs with _ | _
  · have HM := Lib.hid hm
    have HX := Lib.hid (hmX_no hm)
    clear hm
    generalize hmX r c xs = X at *
    go_enter Try.func51, Try.ntmps51
    go_wp2_with fail
    refine (spec_IsMatrix r c A n cap xs _ (C := w.heap.size) (Kr H2.out) Ks hn).mono ?_
    rw [HM.out]
    rintro e w1 ⟨rfl, hb1⟩
    have hV : HVS w w1 r c A n cap := ⟨Ka, Ka, Ka, Kw⟩
    obtain ⟨r0a, r0b, r0c, r0f, r0l⟩ := hV.r1.mx
    obtain ⟨r1a, r1b, r1c, r1f, r1l⟩ := hV.r2.mx
    obtain ⟨ma, mb, mc, mf, ml⟩ := hV.m.mx
    have hvr1 := hV.r1
    have hvr2 := hV.r2
    have hbw := hV.b
    go_wp2_with fail
    refine ret_M2 (r := 0) (c := 0) (A := none) (n := 0) (cap := 0) (r' := 0) (c' := 0) (A' := none) (n' := 0) (cap' := 0) Try.results51 rfl rfl (Kb hvr1) (Kb hvr2) rfl ?_
    exact M2R.none_ HX.out Kw
  · have M := isMat_iff.1 hm
    obtain ⟨R, rfl⟩ := nat_of M.r0
    obtain ⟨C, rfl⟩ := nat_of M.c0
    have hR : R ≤ 24 := by have := M.r1; omega
    have hC : C ≤ 24 := by have := M.c1; omega
    have hlx : xs.length = R * C := by have := M.len; rw [← Int.natCast_mul] at this; omega
    have HG0 := Lib.hid (start_gd (R := R) (C := C) M.num)
    have HX := Lib.hid (hmX_yes hm)
    have HT := Lib.hid (tb_of hlx)
    have HM := Lib.hid hm
    clear M hm hlx
    generalize hmX (R : Int) (C : Int) xs = X at *
    generalize hf : (fun (i j : Nat) => cel xs C i j) = f0 at HG0 HX HT
    clear hf
    have HH : Hid (∀ (Aa : Option Addr) (na capa : Nat) (A2 : Option Addr) (n2 cap2 : Nat) (w' : World) (B0 : Nat), OR w' B0 (.slice Aa na capa) (tb R C f0) → OR w' B0 (.slice A2 n2 cap2) (tb R R idF) → Apart (.slice Aa na capa) (.slice A2 n2 cap2) → B0 ≤ w'.heap.size → Calls Try.prog 151 #[.agg #[.int .i64 R, .int .i64 C, .slice Aa na capa], .agg #[.int .i64 R, .int .i64 R, .slice A2 n2 cap2]] w' (HmR (.slice Aa na capa) (.slice A2 n2 cap2) B0 R C X w')) :=
      Lib.hid (fun Aa na capa A2 n2 cap2 w' B0 k1 k2 k3 k4 => by rw [HX.out]; exact spec_l12Hermite R C Aa na capa A2 n2 cap2 ⟨f0, idF⟩ w' k1 k2 k3 k4 HG0.out hC hR)
    clear HX HG0
    go_enter Try.func51, Try.ntmps51
    go_wp2_with fail
    refine (spec_IsMatrix R C A n cap xs _ (C := w.heap.size) (Kr H2.out) Ks hn).mono ?_
    rw [HM.out]
    rintro e w1 ⟨rfl, hb1⟩
    have hV : HVS w w1 R C A n cap := ⟨Ka, Ka, Ka, Kw⟩
    have hri : RI w1 w.heap.size A n xs := Kr H2.out
    clear hb1
    obtain ⟨ma, mb, mc, mf, ml⟩ := hV.m.mx
    have hlow := hV.lt
    go_wp2_with fail
    refine (spec_l3Copy R C A n cap xs _ (B := w.heap.size) (Kr hri) Ks hn).mono ?_
    rintro e w2 ⟨Aa, na, capa, rfl, -, hoa, hb2⟩
    have hV2 : HVS w w2 R C A n cap := by (with_reducible (repeat (first | exact hV | refine HVS.below ?_ (by assumption) Ks | refine HVS.drew ?_ | refine HVS.drewN ?_ _ | refine HVS.alloc ?_ _)))
    clear ma mb mc mf ml
    rw [HT.out] at hoa
    have hs2 := hb2.size
    (try simp at hs2)
    obtain ⟨B0, hB0, hB2, hBw⟩ : ∃ B0, w.heap.size + 1 + 1 + 1 ≤ B0 ∧ B0 ≤ w2.heap.size ∧ OR w2 B0 (.slice Aa na capa) (tb R C f0) := ⟨_, hlow, hs2, hoa⟩
    have HOA := Lib.hid hBw.own
    clear hV hb2 hri hoa
    have hV := hV2
    clear hV2
    have hlow2 := hV.lt
    obtain ⟨ma, mb, mc, mf, ml⟩ := hV.m.mx
    go_wp2_with fail
    refine (spec_IdentityMatrix R _ hR).mono ?_
    rintro e w3 ⟨A2, n2, cap2, rfl, ho2, hb3⟩
    have hs3 := hb3.size
    simp at hs3
    have h5 : BM w3 w2.heap.size R C Aa na capa := Ka
    have hoa : OR w3 B0 (.slice Aa na capa) (tb R C f0) := Ko hBw
    have HOB : Hid (Own (.slice A2 n2 cap2) (w2.heap.size + 1) w3.heap.size) := Lib.hid ((OR.own (xs := tb R R idF) ho2).wide (by simp) (Nat.le_refl _))
    have ho2' : OR w3 B0 (.slice A2 n2 cap2) (tb R R idF) := OR.mono (xs := tb R R idF) ho2 (by simp; omega)
    have hV3 : HVS w w3 R C A n cap := by (with_reducible (repeat (first | exact hV | refine HVS.below ?_ (by assumption) Ks | refine HVS.drew ?_ | refine HVS.drewN ?_ _ | refine HVS.alloc ?_ _)))
    clear ma mb mc mf ml
    clear hV hBw ho2 hb3
    have hV := hV3
    clear hV3
    have HAP : Hid (Apart (.slice Aa na capa) (.slice A2 n2 cap2)) := Lib.hid (fun g e1 e2 => by have := HOA.out g e1; have := HOB.out g e2; omega)
    obtain ⟨ma, mb, mc, mf, ml⟩ := hV.m.mx
    obtain ⟨la, lb, lc, lf, ll⟩ := h5.mx
    go_wp2_with fail
    refine (HH.out Aa na capa A2 n2 cap2 (w3.alloc (.cells #[.int .i64 R, .int .i64 R, .slice A2 n2 cap2] 26)) B0 (Ko hoa) (Ko ho2') HAP.out Ks).mono ?_
    rcases hs : X with _ | ⟨s, t⟩
    · have HXN := Lib.hid hs
      have hv : X.isSome = false := by rw [hs]; rfl
      rw [← hs]
      clear hs HH
      rintro e w4 ⟨he, -, hb4, -⟩
      rw [hv] at he
      subst he
      have hV4 : HVS w w4 R C A n cap := by (with_reducible (repeat (first | exact hV | refine HVS.below ?_ (by assumption) Ks | refine HVS.drew ?_ | refine HVS.drewN ?_ _ | refine HVS.alloc ?_ _)))
      clear ma mb mc mf ml
      clear la lb lc lf ll
      clear hV h5 hb4 hv hoa ho2'
      obtain ⟨r0a, r0b, r0c, r0f, r0l⟩ := hV4.r1.mx
      obtain ⟨r1a, r1b, r1c, r1f, r1l⟩ := hV4.r2.mx
      have hvr1 := hV4.r1
      have hvr2 := hV4.r2
      have hbw := hV4.b
      go_wp2_with fail
      refine ret_M2 (r := 0) (c := 0) (A := none) (n := 0) (cap := 0) (r' := 0) (c' := 0) (A' := none) (n' := 0) (cap' := 0) Try.results51 rfl rfl (Kb hvr1) (Kb hvr2) rfl ?_
      exact M2R.none_ HXN.out Kw
    · have HXS := Lib.hid hs
      have hv : X.isSome = true := by rw [hs]; rfl
      rw [← hs]
      clear hs HH
      rintro e w4 ⟨he, ⟨f', g', k1, k2, k3⟩, hb4, hk4⟩
      rw [hv] at he
      subst he
      obtain ⟨rfl, rfl⟩ := k3 s t HXS.out
      have hV4 : HVS w w4 R C A n cap := by (with_reducible (repeat (first | exact hV | refine HVS.below ?_ (by assumption) Ks | refine HVS.drew ?_ | refine HVS.drewN ?_ _ | refine HVS.alloc ?_ _)))
      have n1 : ∀ k, w2.heap.size ≤ k → some k ≠ (Value.slice Aa na capa).ownBlock := fun k hk e => by have := HOA.out k e.symm; omega
      have n2' : ∀ k, k ≤ w2.heap.size ∨ w3.heap.size ≤ k → some k ≠ (Value.slice A2 n2 cap2).ownBlock := fun k hk e => by have := HOB.out k e.symm; omega
      have hm1 : BM w4 w2.heap.size R C Aa na capa := (hk4 _ (by simp; omega) (n1 _ (Nat.le_refl _)) (n2' _ (.inl (Nat.le_refl _)))).trans (show BM _ w2.heap.size R C Aa na capa from Kb h5)
      have hm2 : BM w4 w3.heap.size R R A2 n2 cap2 := (hk4 _ (by simp) (n1 _ (by omega)) (n2' _ (.inr (Nat.le_refl _)))).trans (show BM _ w3.heap.size R R A2 n2 cap2 from Ka)
      clear ma mb mc mf ml
      clear la lb lc lf ll
      clear hV h5 hb4 hv hoa ho2' hk4 n1 n2' k3
      obtain ⟨r0a, r0b, r0c, r0f, r0l⟩ := hV4.r1.mx
      obtain ⟨r1a, r1b, r1c, r1f, r1l⟩ := hV4.r2.mx
      obtain ⟨ua, ub, uc, uf, ul⟩ := hm1.mx
      obtain ⟨va, vb, vc, vf, vl⟩ := hm2.mx
      have hvr1 := B3.of hV4.r1
      have hvr2 := B3.of hV4.r2
      have hbw := hV4.b
      have HAO := Lib.hid (HOA.out)
      go_wp2_with fail
      go_region
      go_wp2_with fail
      refine ret_M2 (r := R) (c := C) (A := Aa) (n := na) (cap := capa) (r' := R) (c' := R) (A' := A2) (n' := n2) (cap' := cap2) Try.results51 rfl rfl (Kb hvr1) (Kb hvr2) rfl ?_
      exact M2R.some_ HXS.out (OR.mono (B := B0) (Ko k1) (by omega)) (OR.mono (B := B0) (Ko k2) (by omega)) HAP.out Kw
theorem hm_len {r c : Int} {xs : List Int} {x : HS × Nat} (h : hmX r c xs = some x) : r.toNat ≤ 24 ∧ c.toNat ≤ 24 := by
  unfold hmX at h
  split at h
  · rename_i hm
    have M := isMat_iff.1 hm
    have h1 := M.r1
    have h2 := M.c1
    omega
  · cases h
theorem hmM_len (r c : Int) (xs : List Int) : (hmM r c xs).xs.length ≤ 1048576 := by
  unfold hmM
  cases h : hmX r c xs with
  | none => exact Nat.zero_le _
  | some x =>
    have hl := hm_len h
    show (tb _ _ _).length ≤ _
    rw [tb_len]
    exact Nat.le_trans (Nat.mul_le_mul hl.1 hl.2) (by omega)
theorem hmU_len (r c : Int) (xs : List Int) : (hmU r c xs).xs.length ≤ 1048576 := by
  unfold hmU
  cases h : hmX r c xs with
  | none => exact Nat.zero_le _
  | some x =>
    have hl := hm_len h
    show (tb _ _ _).length ≤ _
    rw [tb_len]
    exact Nat.le_trans (Nat.mul_le_mul hl.1 hl.1) (by omega)
end Go.Proofs.Ytacjonkehcamgaa

/-
  DERIVED. determinant of the program, l6Det of the reference, DeterminantOf of both.
-/
namespace Go.Proofs.Ytacjonkehcamgaa
open Go.RowKit
set_option linter.unusedVariables false
set_option linter.unusedSimpArgs false
section
variable {D : List Int → Option Int} {C j : Nat} {xs : List Int} {s d : Int}
theorem detS_zero (h : detS D C xs j = some s) (hz : xs.getD j 0 = 0) : detS D C xs (j + 1) = some s := by
  unfold detS; rw [h, Option.bind_some, if_pos hz]
theorem detS_bad (hz : ¬ xs.getD j 0 = 0) (hd : D (wcK xs C j (C * C)) = none) : detS D C xs (j + 1) = none := by
  unfold detS
  cases h : detS D C xs j with
  | none => rfl
  | some s => rw [Option.bind_some, if_neg hz, hd]; rfl
theorem detS_next (h : detS D C xs j = some s) (hz : ¬ xs.getD j 0 = 0) (hd : D (wcK xs C j (C * C)) = some d) : detS D C xs (j + 1) = some (s + (if j % 2 = 1 then -(xs.getD j 0) else xs.getD j 0) * d) := by
  unfold detS; rw [h, Option.bind_some, if_neg hz, hd]; rfl
theorem detS_up (h : detS D C xs j = none) : ∀ k, j ≤ k → detS D C xs k = none
  | 0, hk => by
    have e : j = 0 := by omega
    rw [← e]; exact h
  | k + 1, hk => by
    by_cases e : j = k + 1
    · rw [← e]; exact h
    · have := detS_up h k (by omega)
      unfold detS; rw [this]; rfl
end
theorem detL_succ (n : Nat) (xs : List Int) : detL (n + 1) xs = (detS (detL n) (n + 1) xs (n + 1)).bind fun s => if isNum s then some s else none := rfl
/-- What determinant answers. -/
def DetR (o : Option Int) (w : World) (e : Ending) (w' : World) : Prop := (∃ v, e = .returned (.tuple #[.int .i64 v, .bool o.isSome]) ∧ ∀ d, o = some d → v = d) ∧ Below w.heap.size w w'
def detV (o : Option Int) : Int := o.getD bad
theorem rem2_one {j : Nat} (h : j % 2 = 1) : ((j : Int) % 2 == 1) = true := by
  have : (j : Int) % 2 = 1 := by omega
  rw [this]; rfl
theorem rem2_no {j : Nat} (h : ¬ j % 2 = 1) : ((j : Int) % 2 == 1) = false := by
  have : (j : Int) % 2 = 0 := by omega
  rw [this]; rfl
set_option maxRecDepth 100000 in
set_option maxHeartbeats 8000000 in
theorem impl_determinant : ∀ (n : Nat) (A : Option Addr) (m cap : Nat) (xs : List Int) (w : World) {B : Nat}, RI w B A m xs → B ≤ w.heap.size → xs.length = n * n → n ≤ 24 → xs.all isNum = true →
    Calls Try.prog 160 #[.agg #[.int .i64 n, .int .i64 n, .slice A m cap]] w (DetR (detL n xs) w) := by
  intro n
  induction n with
  | zero =>
    intro A m cap xs w B h hB hl hn hnum
    have hv : detL 0 xs = some 1 := rfl
    rw [hv]
    clear h hnum hl hv
    go_enter Try.func160, Try.ntmps160
    go_wp2_with fail
    go_ret2
    exact ⟨⟨1, rfl, fun d hd => by cases hd; rfl⟩, Kw⟩
  | succ n ih =>
    intro A m cap xs w B h hB hl hn hnum
    obtain ⟨C, hCe⟩ : ∃ C, C = n + 1 := ⟨_, rfl⟩
    have hXS : ∀ s, detS (detL n) C xs C = some s → detL (n + 1) xs = if isNum s then some s else none := fun s h => by rw [detL_succ, ← hCe, h]; rfl
    have hXN : ∀ j, j ≤ C → detS (detL n) C xs j = none → detL (n + 1) xs = none := fun j hj h => by rw [detL_succ, ← hCe, detS_up h C hj]; rfl
    have hln := h.len
    have H2 := Lib.hid (h.more hB)
    clear h
    generalize hXX : detL (n + 1) xs = X at hXS hXN ⊢
    clear hXX
    rw [← hCe] at hl hn ⊢
    have HXS := Lib.hid hXS
    have HXN := Lib.hid hXN
    clear hXS hXN
    have hnC : (C : Int) - 1 = (n : Int) := by omega
    have hCC : C * C ≤ 24 * 24 := Nat.mul_le_mul hn hn
    have hmm : m ≤ C * C ∧ C * C ≤ m := by omega
    have hC0 : 0 < C := by omega
    have hjm : ∀ j, j < C → j < m := fun j hj => by have := Nat.le_mul_of_pos_left C hC0; omega
    have HJM := Lib.hid hjm
    have HNUM : Hid (∀ j, Num (xs.getD j 0)) := Lib.hid (getD_num hnum)
    have HWC : Hid (∀ (j : Nat) w', j < C → RI w' w.heap.size A m xs → w.heap.size ≤ w'.heap.size → Calls Try.prog 219 #[.agg #[.int .i64 C, .int .i64 C, .slice A m cap], .int .i64 0, .int .i64 j] w' (MR ⟨n, n, wcK xs C j (C * C)⟩ w')) := Lib.hid (fun j w' hj k1 k2 => by
      have := impl_withoutCross C j A m cap xs w' k1 k2 hl hj hn
      rw [hnC] at this
      exact this)
    have HIH := Lib.hid ih
    have HWL : Hid (∀ j, j < C → (wcK xs C j (C * C)).length = n * n) := Lib.hid (fun j hj => by rw [wcK_len hj, show C - 1 = n by omega])
    have HWN : Hid (∀ j, (wcK xs C j (C * C)).all isNum = true) := Lib.hid (fun j => wcK_num hnum _)
    have HCE := Lib.hid hCe
    have hnn : n ≤ 24 := by omega
    clear ih hnum hl hln hjm hnC hCe
    have HAT : Hid (∀ (j : Nat) w', j < C → RI w' w.heap.size A m xs → w.heap.size ≤ w'.heap.size → Calls Try.prog 117 #[.agg #[.int .i64 C, .int .i64 C, .slice A m cap], .int .i64 0, .int .i64 j] w' (BV (.int .i64 (xs.getD j 0)) w')) := Lib.hid (fun j w' hj k1 k2 => by
      have h1 := HJM.out j hj
      have := impl_at C C 0 j A m cap xs w' k1 k2 (by omega) (by omega) (by omega)
      have e : cel xs C 0 j = xs.getD j 0 := by unfold cel; congr 1; omega
      rw [e] at this
      exact this)
    have hCz : ((C : Int) == 0) = false := by simp; omega
    go_enter Try.func160, Try.ntmps160
    go_wp2_with fail
    go_loopg [4, 5] (C + 1) (fun gn vs vj wr => ∃ (j : Nat) (s : Int), vj = .int .i64 j ∧ vs = .int .i64 s ∧ j ≤ C ∧ C - j < gn ∧ Hid (detS (detL n) C xs j = some s) ∧ -((j : Int) * 160000000000000000) ≤ s ∧ s ≤ (j : Int) * 160000000000000000 ∧ BM wr w.heap.size C C A m cap ∧ Below w.heap.size w wr)
    case atStart => exact ⟨0, 0, rfl, rfl, Nat.zero_le _, by omega, Lib.hid rfl, by omega, by omega, Ka, Kw⟩
    case round =>
      obtain ⟨j, s, rfl, rfl, hj, hgk, HS, hs1, hs2, hM, hbw⟩ := hrel
      obtain ⟨ma, mb, mc, mf, ml⟩ := hM.mx
      have hszr := hbw.size
      by_cases hjC : j < C
      · go_wp2_with fail
        refine (HAT.out j _ hjC (Kr H2.out) Ks).mono ?_
        rintro e w1 ⟨rfl, hb1⟩
        (have hsz_1 := hb1.size); (try simp at hsz_1); (have hM_1 : BM w1 w.heap.size C C A m cap := (Kb hM)); (have hbw_1 : Below w.heap.size w w1 := Kw); clear ma mb mc mf ml; clear hM hbw; (have hM := hM_1); (have hbw := hbw_1); clear hM_1 hbw_1; obtain ⟨ma, mb, mc, mf, ml⟩ := hM.mx
        have hcn := HNUM.out j
        obtain ⟨hc1, hc2⟩ := hcn
        by_cases hz : xs.getD j 0 = 0
        · have HS2 := Lib.hid (detS_zero HS.out hz)
          rw [hz]
          clear hz hc1 hc2
          go_wp2_with fail
          go_roundg (gk - 1)
          case measure => omega
          case rel => exact ⟨j + 1, s, by go_num, rfl, by omega, by omega, HS2, by omega, by omega, Kb hM, Kw⟩
        · have hzb : (xs.getD j 0 == 0) = false := by simpa using hz
          have HDJ : Hid (∀ (A5 : Option Addr) (n5 c5 : Nat) w' B', RI w' B' A5 n5 (wcK xs C j (C * C)) → B' ≤ w'.heap.size → Calls Try.prog 160 #[.agg #[.int .i64 n, .int .i64 n, .slice A5 n5 c5]] w' (DetR (detL n (wcK xs C j (C * C))) w')) := Lib.hid (fun A5 n5 c5 w' B' k1 k2 => HIH.out A5 n5 c5 _ w' k1 k2 (HWL.out j hjC) hnn (HWN.out j))
          have HWJ := Lib.hid (fun w' => HWC.out j w' hjC)
          rcases hd : detL n (wcK xs C j (C * C)) with _ | d
          · rw [hd] at HDJ
            have HX := Lib.hid (HXN.out (j + 1) (by omega) (detS_bad hz hd))
            clear hz hd
            generalize wcK xs C j (C * C) = ys at *
            generalize xs.getD j 0 = c at *
            go_wp2_with fail
            refine (HWJ.out _ (Kr H2.out) Ks).mono ?_
            rintro e w2 ⟨A5, n5, c5, rfl, ho5, hb5⟩
            have HO5 := Lib.hid ho5
            (have hsz_1 := hb5.size); (try simp at hsz_1); (have hM_1 : BM w2 w.heap.size C C A m cap := (Kb hM)); (have hbw_1 : Below w.heap.size w w2 := Kw); clear ma mb mc mf ml; clear hM hbw; (have hM := hM_1); (have hbw := hbw_1); clear hM_1 hbw_1; obtain ⟨ma, mb, mc, mf, ml⟩ := hM.mx
            clear ho5
            go_wp2_with fail
            refine (HDJ.out A5 n5 c5 _ _ (OR.reads (xs := ys) HO5.out) (Nat.le_refl _)).mono ?_
            rintro e w3 ⟨⟨v, rfl, hv⟩, hb6⟩
            (have hsz_1 := hb6.size); (try simp at hsz_1); (have hM_1 : BM w3 w.heap.size C C A m cap := (Kb hM)); (have hbw_1 : Below w.heap.size w w3 := Kw); clear ma mb mc mf ml; clear hM hbw; (have hM := hM_1); (have hbw := hbw_1); clear hM_1 hbw_1; obtain ⟨ma, mb, mc, mf, ml⟩ := hM.mx
            clear hv
            go_wp2_with fail
            go_ret2
            rw [HX.out]
            exact ⟨⟨0, rfl, fun d hd => by cases hd⟩, Kw⟩
          · have hdn := detL_num _ _ _ hd
            have HS2 := Lib.hid (detS_next HS.out hz hd)
            rw [hd] at HDJ
            clear hz hd
            generalize wcK xs C j (C * C) = ys at *
            generalize xs.getD j 0 = c at *
            obtain ⟨hd1, hd2⟩ := hdn
            have hcd := mul_bd4 c d 400000000 400000000 hc1 hc2 hd1 hd2
            have hcd2 := mul_bd4 (-c) d 400000000 400000000 (by omega) (by omega) hd1 hd2
            obtain ⟨k1, k2⟩ := hcd
            obtain ⟨k3, k4⟩ := hcd2
            have wn : IntKind.i64.wrap (-c) = -c := IntWalk.i64_in _ (by omega)
            by_cases hp : j % 2 = 1
            · have hr := rem2_one hp
              rw [if_pos hp] at HS2
              have w1' : IntKind.i64.wrap (-c * d) = -c * d := IntWalk.i64_in _ (by omega)
              have w2' : IntKind.i64.wrap (s + -c * d) = s + -c * d := IntWalk.i64_in _ (by omega)
              clear hp k1 k2
              go_wp2_with fail
              refine (HWJ.out _ (Kr H2.out) Ks).mono ?_
              rintro e w2 ⟨A5, n5, c5, rfl, ho5, hb5⟩
              have HO5 := Lib.hid ho5
              (have hsz_1 := hb5.size); (try simp at hsz_1); (have hM_1 : BM w2 w.heap.size C C A m cap := (Kb hM)); (have hbw_1 : Below w.heap.size w w2 := Kw); clear ma mb mc mf ml; clear hM hbw; (have hM := hM_1); (have hbw := hbw_1); clear hM_1 hbw_1; obtain ⟨ma, mb, mc, mf, ml⟩ := hM.mx
              clear ho5
              go_wp2_with fail
              refine (HDJ.out A5 n5 c5 _ _ (OR.reads (xs := ys) HO5.out) (Nat.le_refl _)).mono ?_
              rintro e w3 ⟨⟨v, rfl, hv⟩, hb6⟩
              obtain rfl := hv d rfl
              (have hsz_1 := hb6.size); (try simp at hsz_1); (have hM_1 : BM w3 w.heap.size C C A m cap := (Kb hM)); (have hbw_1 : Below w.heap.size w w3 := Kw); clear ma mb mc mf ml; clear hM hbw; (have hM := hM_1); (have hbw := hbw_1); clear hM_1 hbw_1; obtain ⟨ma, mb, mc, mf, ml⟩ := hM.mx
              go_wp2_with fail
              go_roundg (gk - 1)
              case measure => omega
              case rel => exact ⟨j + 1, s + -c * v, by go_num, rfl, by omega, by omega, HS2, by omega, by omega, Kb hM, Kw⟩
            · have hr := rem2_no hp
              rw [if_neg hp] at HS2
              have w1' : IntKind.i64.wrap (c * d) = c * d := IntWalk.i64_in _ (by omega)
              have w2' : IntKind.i64.wrap (s + c * d) = s + c * d := IntWalk.i64_in _ (by omega)
              clear hp k3 k4
              go_wp2_with fail
              refine (HWJ.out _ (Kr H2.out) Ks).mono ?_
              rintro e w2 ⟨A5, n5, c5, rfl, ho5, hb5⟩
              have HO5 := Lib.hid ho5
              (have hsz_1 := hb5.size); (try simp at hsz_1); (have hM_1 : BM w2 w.heap.size C C A m cap := (Kb hM)); (have hbw_1 : Below w.heap.size w w2 := Kw); clear ma mb mc mf ml; clear hM hbw; (have hM := hM_1); (have hbw := hbw_1); clear hM_1 hbw_1; obtain ⟨ma, mb, mc, mf, ml⟩ := hM.mx
              clear ho5
              go_wp2_with fail
              refine (HDJ.out A5 n5 c5 _ _ (OR.reads (xs := ys) HO5.out) (Nat.le_refl _)).mono ?_
              rintro e w3 ⟨⟨v, rfl, hv⟩, hb6⟩
              obtain rfl := hv d rfl
              (have hsz_1 := hb6.size); (try simp at hsz_1); (have hM_1 : BM w3 w.heap.size C C A m cap := (Kb hM)); (have hbw_1 : Below w.heap.size w w3 := Kw); clear ma mb mc mf ml; clear hM hbw; (have hM := hM_1); (have hbw := hbw_1); clear hM_1 hbw_1; obtain ⟨ma, mb, mc, mf, ml⟩ := hM.mx
              go_wp2_with fail
              go_roundg (gk - 1)
              case measure => omega
              case rel => exact ⟨j + 1, s + c * v, by go_num, rfl, by omega, by omega, HS2, by omega, by omega, Kb hM, Kw⟩
      · obtain rfl : j = C := by omega
        have HX := Lib.hid (HXS.out s HS.out)
        rcases hi : isNum s with _ | _
        · have HI := Lib.hid hi
          rw [hi] at HX
          clear hi
          go_wp2_with fail
          refine (impl_IsNumber s _).mono ?_
          rw [HI.out]
          rintro e w' ⟨rfl, rfl⟩
          go_wp2_with fail
          go_ret2
          rw [HX.out]
          exact ⟨⟨s, rfl, fun d hd => by cases hd⟩, Kw⟩
        · have HI := Lib.hid hi
          rw [hi] at HX
          clear hi
          go_wp2_with fail
          refine (impl_IsNumber s _).mono ?_
          rw [HI.out]
          rintro e w' ⟨rfl, rfl⟩
          go_wp2_with fail
          go_ret2
          rw [HX.out]
          exact ⟨⟨s, rfl, fun d hd => by cases hd; rfl⟩, Kw⟩
end Go.Proofs.Ytacjonkehcamgaa

/-
  DERIVED. l6Det of the reference; DeterminantOf, both sides.
-/
namespace Go.Proofs.Ytacjonkehcamgaa
open Go.RowKit
set_option linter.unusedVariables false
set_option linter.unusedSimpArgs false
/-- The sign in column j. -/
def sgD (j : Nat) : Int := if j % 2 = 1 then -1 else 1
theorem sgD_succ (j : Nat) : sgD (j + 1) = -sgD j := by unfold sgD; split <;> split <;> omega
theorem sgD_bd (j : Nat) : -1 ≤ sgD j ∧ sgD j ≤ 1 := by unfold sgD; split <;> omega
theorem sgD_mul (j : Nat) (c : Int) : (if j % 2 = 1 then -c else c) = sgD j * c := by unfold sgD; split <;> omega
theorem sgD_cbd {j : Nat} {c : Int} (h : -400000000 ≤ c ∧ c ≤ 400000000) : -400000000 ≤ sgD j * c ∧ sgD j * c ≤ 400000000 := by rw [← sgD_mul]; split <;> omega
theorem detV_of {X : Option Int} {s : Int} (h : X = if isNum s then some s else none) : detV X = fit s := by
  subst h; unfold detV fit; split <;> rfl
set_option maxRecDepth 100000 in
set_option maxHeartbeats 8000000 in
theorem spec_l6Det : ∀ (n : Nat) (A : Option Addr) (m cap : Nat) (xs : List Int) (w : World) {B : Nat}, RI w B A m xs → B ≤ w.heap.size → xs.length = n * n → n ≤ 24 → xs.all isNum = true →
    Calls Try.prog 164 #[.agg #[.int .i64 n, .int .i64 n, .slice A m cap]] w (BV (.int .i64 (detV (detL n xs))) w) := by
  intro n
  induction n with
  | zero =>
    intro A m cap xs w B h hB hl hn hnum
    have hv : detV (detL 0 xs) = 1 := rfl
    rw [hv]
    clear h hnum hl hv
    go_enter Try.func164, Try.ntmps164
    go_wp2_with fail
    go_ret
    exact BV.mk rfl Kw
  | succ n ih =>
    intro A m cap xs w B h hB hl hn hnum
    obtain ⟨C, hCe⟩ : ∃ C, C = n + 1 := ⟨_, rfl⟩
    have hXS : ∀ s, detS (detL n) C xs C = some s → detL (n + 1) xs = if isNum s then some s else none := fun s h => by rw [detL_succ, ← hCe, h]; rfl
    have hXN : ∀ j, j ≤ C → detS (detL n) C xs j = none → detL (n + 1) xs = none := fun j hj h => by rw [detL_succ, ← hCe, detS_up h C hj]; rfl
    have hln := h.len
    have H2 := Lib.hid (h.more hB)
    clear h
    generalize hXX : detL (n + 1) xs = X at hXS hXN ⊢
    clear hXX
    rw [← hCe] at hl hn ⊢
    have HXS := Lib.hid hXS
    have HXN := Lib.hid hXN
    clear hXS hXN
    have hnC : (C : Int) - 1 = (n : Int) := by omega
    have hCC : C * C ≤ 24 * 24 := Nat.mul_le_mul hn hn
    have hmm : m ≤ C * C ∧ C * C ≤ m := by omega
    have hC0 : 0 < C := by omega
    have hjm : ∀ j, j < C → j < m := fun j hj => by have := Nat.le_mul_of_pos_left C hC0; omega
    have HJM := Lib.hid hjm
    have HNUM : Hid (∀ j, Num (xs.getD j 0)) := Lib.hid (getD_num hnum)
    have HWC : Hid (∀ (j : Nat) w', j < C → RI w' w.heap.size A m xs → w.heap.size ≤ w'.heap.size → Calls Try.prog 220 #[.agg #[.int .i64 C, .int .i64 C, .slice A m cap], .int .i64 0, .int .i64 j] w' (MR ⟨n, n, wcK xs C j (C * C)⟩ w')) := Lib.hid (fun j w' hj k1 k2 => by
      have := spec_l6Without C j A m cap xs w' k1 k2 hl hj hn
      rw [hnC] at this
      exact this)
    have HIH := Lib.hid ih
    have HWL : Hid (∀ j, j < C → (wcK xs C j (C * C)).length = n * n) := Lib.hid (fun j hj => by rw [wcK_len hj, show C - 1 = n by omega])
    have HWN : Hid (∀ j, (wcK xs C j (C * C)).all isNum = true) := Lib.hid (fun j => wcK_num hnum _)
    have HCE := Lib.hid hCe
    have hnn : n ≤ 24 := by omega
    clear ih hnum hl hln hjm hnC hCe
    obtain ⟨b, o, rfl, hbb, hcells⟩ := H2.out.2 (by have := Nat.mul_pos hC0 hC0; omega)
    have HCJ : Hid (∀ (j : Nat) w', j < C → Below w.heap.size w w' → w'.cell? ⟨b, o + j, none⟩ = some (.int .i64 (xs.getD j 0))) := Lib.hid (fun j w' hj hb => (hb.cell (p := ⟨b, o + j, none⟩) (by simpa using hbb)).trans (hcells j (HJM.out j hj)))
    have hCz : ((C : Int) == 0) = false := by simp; omega
    clear hcells
    go_enter Try.func164, Try.ntmps164
    go_wp2_with fail
    go_loopg [3, 4, 5] (C + 1) (fun gn vs vg vj wr => ∃ (j : Nat) (s g : Int), vj = .int .i64 j ∧ vs = .int .i64 s ∧ vg = .int .i64 g ∧ Hid (g = sgD j) ∧ j ≤ C ∧ C - j < gn ∧ Hid (detS (detL n) C xs j = some s) ∧ -((j : Int) * 160000000000000000) ≤ s ∧ s ≤ (j : Int) * 160000000000000000 ∧ BM wr w.heap.size C C (some ⟨b, o, none⟩) m cap ∧ Below w.heap.size w wr)
    case atStart => exact ⟨0, 0, 1, rfl, rfl, rfl, Lib.hid rfl, Nat.zero_le _, by omega, Lib.hid rfl, by omega, by omega, Ka, Kw⟩
    case round =>
      obtain ⟨j, s, g, rfl, rfl, rfl, HG, hj, hgk, HS, hs1, hs2, hM, hbw⟩ := hrel
      obtain ⟨ma, mb, mc, mf, ml⟩ := hM.mx
      have hszr := hbw.size
      have hgb := sgD_bd j
      rw [← HG.out] at hgb
      obtain ⟨hg1, hg2⟩ := hgb
      have wg : IntKind.i64.wrap (-g) = -g := IntWalk.i64_in _ (by omega)
      have HG2 : Hid (-g = sgD (j + 1)) := Lib.hid (by rw [sgD_succ, HG.out])
      by_cases hjC : j < C
      · have hjm := HJM.out j hjC
        have cj := HCJ.out j _ hjC hbw
        have hcn := HNUM.out j
        by_cases hz : xs.getD j 0 = 0
        · have HS2 := Lib.hid (detS_zero HS.out hz)
          rw [hz] at cj
          clear hz hcn
          go_wp2_with fail
          go_roundg (gk - 1)
          case measure => omega
          case rel => exact ⟨j + 1, s, -g, by go_num, rfl, rfl, HG2, by omega, by omega, HS2, by omega, by omega, Kb hM, Kw⟩
        · have hzb : (xs.getD j 0 != 0) = true := by simpa using hz
          have HDJ : Hid (∀ (A5 : Option Addr) (n5 c5 : Nat) w' B', RI w' B' A5 n5 (wcK xs C j (C * C)) → B' ≤ w'.heap.size → Calls Try.prog 164 #[.agg #[.int .i64 n, .int .i64 n, .slice A5 n5 c5]] w' (BV (.int .i64 (detV (detL n (wcK xs C j (C * C))))) w')) := Lib.hid (fun A5 n5 c5 w' B' k1 k2 => HIH.out A5 n5 c5 _ w' k1 k2 (HWL.out j hjC) hnn (HWN.out j))
          have HWJ := Lib.hid (fun w' => HWC.out j w' hjC)
          rcases hd : detL n (wcK xs C j (C * C)) with _ | d
          · rw [hd] at HDJ
            have HX := Lib.hid (HXN.out (j + 1) (by omega) (detS_bad hz hd))
            clear hz hd
            generalize wcK xs C j (C * C) = ys at *
            generalize xs.getD j 0 = c at *
            go_wp2_with fail
            refine (HWJ.out _ (Kr H2.out) Ks).mono ?_
            rintro e w2 ⟨A5, n5, c5, rfl, ho5, hb5⟩
            have HO5 := Lib.hid ho5
            (have hsz_1 := hb5.size); (try simp at hsz_1); (have hM_1 : BM w2 w.heap.size C C (some ⟨b, o, none⟩) m cap := (Kb hM)); (have hbw_1 : Below w.heap.size w w2 := Kw); clear ma mb mc mf ml; clear hM hbw; (have hM := hM_1); (have hbw := hbw_1); clear hM_1 hbw_1; obtain ⟨ma, mb, mc, mf, ml⟩ := hM.mx
            clear ho5
            go_wp2_with fail
            refine (HDJ.out A5 n5 c5 _ _ (OR.reads (xs := ys) HO5.out) (Nat.le_refl _)).mono ?_
            rintro e w3 ⟨rfl, hb6⟩
            (have hsz_1 := hb6.size); (try simp at hsz_1); (have hM_1 : BM w3 w.heap.size C C (some ⟨b, o, none⟩) m cap := (Kb hM)); (have hbw_1 : Below w.heap.size w w3 := Kw); clear ma mb mc mf ml; clear hM hbw; (have hM := hM_1); (have hbw := hbw_1); clear hM_1 hbw_1; obtain ⟨ma, mb, mc, mf, ml⟩ := hM.mx
            have hvb : detV none = -4611686018427387904 := rfl
            go_wp2_with fail
            go_ret
            exact BV.mk (vint (by rw [HX.out]; rfl)) Kw
          · have hdn := detL_num _ _ _ hd
            have HS2 := detS_next HS.out hz hd
            rw [sgD_mul, ← HG.out] at HS2
            have hgc := sgD_cbd (j := j) hcn
            rw [← HG.out] at hgc
            have HS3 := Lib.hid HS2
            have hvd : detV (some d) = d := rfl
            rw [hd, hvd] at HDJ
            have hdb : (d == -4611686018427387904) = false := by
              rw [beq_eq_false_iff_ne]
              have := hdn.1
              omega
            have hc2w : ∀ w', Below w.heap.size w w' → w'.cell? ⟨b, o + j, none⟩ = some (.int .i64 (xs.getD j 0)) := fun w' hb => HCJ.out j w' hjC hb
            have HC2 := Lib.hid hc2w
            clear hz hd HS2 hvd hc2w
            generalize wcK xs C j (C * C) = ys at *
            generalize xs.getD j 0 = c at *
            obtain ⟨hd1, hd2⟩ := hdn
            obtain ⟨hgc1, hgc2⟩ := hgc
            have hcd := mul_bd4 (g * c) d 400000000 400000000 hgc1 hgc2 hd1 hd2
            obtain ⟨k1, k2⟩ := hcd
            have w0' : IntKind.i64.wrap (g * c) = g * c := IntWalk.i64_in _ (by omega)
            have w1' : IntKind.i64.wrap (g * c * d) = g * c * d := IntWalk.i64_in _ (by omega)
            have w2' : IntKind.i64.wrap (s + g * c * d) = s + g * c * d := IntWalk.i64_in _ (by omega)
            go_wp2_with fail
            refine (HWJ.out _ (Kr H2.out) Ks).mono ?_
            rintro e w2 ⟨A5, n5, c5, rfl, ho5, hb5⟩
            have HO5 := Lib.hid ho5
            (have hsz_1 := hb5.size); (try simp at hsz_1); (have hM_1 : BM w2 w.heap.size C C (some ⟨b, o, none⟩) m cap := (Kb hM)); (have hbw_1 : Below w.heap.size w w2 := Kw); clear ma mb mc mf ml; clear hM hbw; (have hM := hM_1); (have hbw := hbw_1); clear hM_1 hbw_1; obtain ⟨ma, mb, mc, mf, ml⟩ := hM.mx
            clear ho5
            go_wp2_with fail
            refine (HDJ.out A5 n5 c5 _ _ (OR.reads (xs := ys) HO5.out) (Nat.le_refl _)).mono ?_
            rintro e w3 ⟨rfl, hb6⟩
            (have hsz_1 := hb6.size); (try simp at hsz_1); (have hM_1 : BM w3 w.heap.size C C (some ⟨b, o, none⟩) m cap := (Kb hM)); (have hbw_1 : Below w.heap.size w w3 := Kw); clear ma mb mc mf ml; clear hM hbw; (have hM := hM_1); (have hbw := hbw_1); clear hM_1 hbw_1; obtain ⟨ma, mb, mc, mf, ml⟩ := hM.mx
            clear cj
            have cj := HC2.out _ hbw
            go_wp2_with fail
            go_roundg (gk - 1)
            case measure => omega
            case rel => exact ⟨j + 1, s + g * c * d, -g, by go_num, rfl, rfl, HG2, by omega, by omega, HS3, by omega, by omega, Kb hM, Kw⟩
      · obtain rfl : j = C := by omega
        have HX := Lib.hid (detV_of (HXS.out s HS.out))
        go_wp2_with fail
        refine (spec_l1Fit s _).mono ?_
        rintro e w' ⟨rfl, rfl⟩
        go_wp2_with fail
        go_ret
        exact BV.mk (vint HX.out.symm) Kw
def dtO (r c : Int) (xs : List Int) : Option Int := if isSq r c xs then detL r.toNat xs else none
/-- A number that may lack: 0 where it does, and the flag. -/
def ODV (o : Option Int) (w : World) (e : Ending) (w' : World) : Prop := e = .returned (.tuple #[.int .i64 (o.getD 0), .bool o.isSome]) ∧ Below w.heap.size w w'
theorem dtO_num {r c : Int} {xs : List Int} {d : Int} (h : dtO r c xs = some d) : Num d := by
  unfold dtO at h
  split at h
  · exact detL_num _ _ _ h
  · cases h
set_option maxHeartbeats 4000000 in
theorem impl_DeterminantOf (r c : Int) (A : Option Addr) (n cap : Nat) (xs : List Int) (w : World) {B : Nat} (h : RI w B A n xs) (hB : B ≤ w.heap.size) (hn : n ≤ 1048576) :
    Calls Try.prog 66 #[.agg #[.int .i64 r, .int .i64 c, .slice A n cap]] w (ODV (dtO r c xs) w) := by
  have H2 := Lib.hid (h.more hB)
  clear h
  rcases hq : isSq r c xs with _ | _
  · have hv : dtO r c xs = none := by unfold dtO; rw [hq]; rfl
    rw [hv]
    have HQ := Lib.hid hq
    clear hq hv
    go_enter Try.func66, Try.ntmps66
    go_wp2_with fail
    refine (impl_IsSquare r c A n cap xs _ (B := w.heap.size) (Kr H2.out) Ks hn).mono ?_
    rw [HQ.out]
    rintro e w1 ⟨rfl, hb1⟩
    have hbw : Below w.heap.size w w1 := Kw
    go_wp2_with fail
    go_ret2
    exact ⟨rfl, Kw⟩
  · have S := isSq_iff.1 hq
    have hv : dtO r c xs = detL r.toNat xs := by unfold dtO; rw [hq]; rfl
    rw [hv]
    obtain ⟨R, rfl⟩ := nat_of S.m.r0
    have hc := S.e
    subst hc
    have hR := S.le
    have HLX : Hid (xs.length = R * R) := Lib.hid (by have := S.m.len; rw [← Int.natCast_mul] at this; omega)
    have HNU := Lib.hid S.m.num
    have HQ := Lib.hid hq
    clear hq hv S
    simp only [Int.toNat_natCast]
    have HD : Hid (∀ w', RI w' w.heap.size A n xs → w.heap.size ≤ w'.heap.size → Calls Try.prog 160 #[.agg #[.int .i64 R, .int .i64 R, .slice A n cap]] w' (DetR (detL R xs) w')) := Lib.hid (fun w' k1 k2 => impl_determinant R A n cap xs w' k1 k2 HLX.out (by omega) HNU.out)
    have hdn := detL_num R xs
    generalize detL R xs = X at *
    rcases X with _ | d
    · skip
      go_enter Try.func66, Try.ntmps66
      go_wp2_with fail
      refine (impl_IsSquare R R A n cap xs _ (B := w.heap.size) (Kr H2.out) Ks hn).mono ?_
      rw [HQ.out]
      rintro e w1 ⟨rfl, hb1⟩
      have hsz1 := hb1.size
      (try simp at hsz1)
      have hM : BM w1 w.heap.size R R A n cap := Ka
      have hbw : Below w.heap.size w w1 := Kw
      have hri : RI w1 w.heap.size A n xs := Kr H2.out
      obtain ⟨ma, mb, mc, mf, ml⟩ := hM.mx
      go_wp2_with fail
      refine (HD.out _ (Kr hri) Ks).mono ?_
      rintro e w2 ⟨⟨v, rfl, -⟩, hb2⟩
      have hbw2 : Below w.heap.size w w2 := Kw
      go_wp2_with fail
      go_ret2
      exact ⟨rfl, Kw⟩
    · skip
      go_enter Try.func66, Try.ntmps66
      go_wp2_with fail
      refine (impl_IsSquare R R A n cap xs _ (B := w.heap.size) (Kr H2.out) Ks hn).mono ?_
      rw [HQ.out]
      rintro e w1 ⟨rfl, hb1⟩
      have hsz1 := hb1.size
      (try simp at hsz1)
      have hM : BM w1 w.heap.size R R A n cap := Ka
      have hbw : Below w.heap.size w w1 := Kw
      have hri : RI w1 w.heap.size A n xs := Kr H2.out
      obtain ⟨ma, mb, mc, mf, ml⟩ := hM.mx
      go_wp2_with fail
      refine (HD.out _ (Kr hri) Ks).mono ?_
      rintro e w2 ⟨⟨v, rfl, hv⟩, hb2⟩
      obtain rfl := hv d rfl
      have hbw2 : Below w.heap.size w w2 := Kw
      go_wp2_with fail
      go_ret2
      exact ⟨rfl, Kw⟩
set_option maxHeartbeats 4000000 in
theorem spec_DeterminantOf (r c : Int) (A : Option Addr) (n cap : Nat) (xs : List Int) (w : World) {B : Nat} (h : RI w B A n xs) (hB : B ≤ w.heap.size) (hn : n ≤ 1048576) :
    Calls Try.prog 67 #[.agg #[.int .i64 r, .int .i64 c, .slice A n cap]] w (ODV (dtO r c xs) w) := by
  have H2 := Lib.hid (h.more hB)
  clear h
  rcases hq : isSq r c xs with _ | _
  · have hv : dtO r c xs = none := by unfold dtO; rw [hq]; rfl
    rw [hv]
    have HQ := Lib.hid hq
    clear hq hv
    go_enter Try.func67, Try.ntmps67
    go_wp2_with fail
    refine (spec_IsSquare r c A n cap xs _ (B := w.heap.size) (Kr H2.out) Ks hn).mono ?_
    rw [HQ.out]
    rintro e w1 ⟨rfl, hb1⟩
    have hbw : Below w.heap.size w w1 := Kw
    go_wp2_with fail
    go_ret2
    exact ⟨rfl, Kw⟩
  · have S := isSq_iff.1 hq
    have hv : dtO r c xs = detL r.toNat xs := by unfold dtO; rw [hq]; rfl
    rw [hv]
    obtain ⟨R, rfl⟩ := nat_of S.m.r0
    have hc := S.e
    subst hc
    have hR := S.le
    have HLX : Hid (xs.length = R * R) := Lib.hid (by have := S.m.len; rw [← Int.natCast_mul] at this; omega)
    have HNU := Lib.hid S.m.num
    have HQ := Lib.hid hq
    clear hq hv S
    simp only [Int.toNat_natCast]
    have HD : Hid (∀ w', RI w' w.heap.size A n xs → w.heap.size ≤ w'.heap.size → Calls Try.prog 164 #[.agg #[.int .i64 R, .int .i64 R, .slice A n cap]] w' (BV (.int .i64 (detV (detL R xs))) w')) := Lib.hid (fun w' k1 k2 => spec_l6Det R A n cap xs w' k1 k2 HLX.out (by omega) HNU.out)
    have hdn := detL_num R xs
    generalize detL R xs = X at *
    rcases X with _ | d
    · have hvb : detV none = -4611686018427387904 := rfl
      rw [hvb] at HD
      clear hvb
      go_enter Try.func67, Try.ntmps67
      go_wp2_with fail
      refine (spec_IsSquare R R A n cap xs _ (B := w.heap.size) (Kr H2.out) Ks hn).mono ?_
      rw [HQ.out]
      rintro e w1 ⟨rfl, hb1⟩
      have hsz1 := hb1.size
      (try simp at hsz1)
      have hM : BM w1 w.heap.size R R A n cap := Ka
      have hbw : Below w.heap.size w w1 := Kw
      have hri : RI w1 w.heap.size A n xs := Kr H2.out
      obtain ⟨ma, mb, mc, mf, ml⟩ := hM.mx
      go_wp2_with fail
      refine (HD.out _ (Kr hri) Ks).mono ?_
      rintro e w2 ⟨rfl, hb2⟩
      have hbw2 : Below w.heap.size w w2 := Kw
      go_wp2_with fail
      go_ret2
      exact ⟨rfl, Kw⟩
    · have hvd : detV (some d) = d := rfl
      rw [hvd] at HD
      have hdb : (d == -4611686018427387904) = false := by
        rw [beq_eq_false_iff_ne]
        have := (hdn d rfl).1
        omega
      clear hvd
      go_enter Try.func67, Try.ntmps67
      go_wp2_with fail
      refine (spec_IsSquare R R A n cap xs _ (B := w.heap.size) (Kr H2.out) Ks hn).mono ?_
      rw [HQ.out]
      rintro e w1 ⟨rfl, hb1⟩
      have hsz1 := hb1.size
      (try simp at hsz1)
      have hM : BM w1 w.heap.size R R A n cap := Ka
      have hbw : Below w.heap.size w w1 := Kw
      have hri : RI w1 w.heap.size A n xs := Kr H2.out
      obtain ⟨ma, mb, mc, mf, ml⟩ := hM.mx
      go_wp2_with fail
      refine (HD.out _ (Kr hri) Ks).mono ?_
      rintro e w2 ⟨rfl, hb2⟩
      have hbw2 : Below w.heap.size w w2 := Kw
      go_wp2_with fail
      go_ret2
      exact ⟨rfl, Kw⟩
end Go.Proofs.Ytacjonkehcamgaa

/-
  DERIVED. The laws' unimodular, IsUnimodular: where the determinant is 1 or -1.
-/
namespace Go.Proofs.Ytacjonkehcamgaa
open Go.RowKit
set_option linter.unusedVariables false
set_option linter.unusedSimpArgs false
theorem impl_IsUnimodular (r c : Int) (A : Option Addr) (n cap : Nat) (xs : List Int) (w : World) {B : Nat} {d : Int} (h : RI w B A n xs) (hB : B ≤ w.heap.size) (hn : n ≤ 1048576) (hd : dtO r c xs = some d) (h1 : d = 1 ∨ d = -1) :
    Calls Try.prog 143 #[.agg #[.int .i64 r, .int .i64 c, .slice A n cap]] w (BV (.bool true) w) := by
  have H2 := Lib.hid (h.more hB)
  have HD := Lib.hid hd
  clear h hd
  go_enter Try.func143, Try.ntmps143
  go_wp2_with fail
  refine (impl_DeterminantOf r c A n cap xs _ (B := w.heap.size) (Kr H2.out) Ks hn).mono ?_
  rw [HD.out]
  rintro e w1 ⟨rfl, hb1⟩
  rcases h1 with h1 | h1
  all_goals
    subst h1
    go_wp2_with fail
    refine (impl_absInt _ _ (by decide) (by decide)).mono ?_
    rintro e w2 ⟨rfl, rfl⟩
    go_wp2_with fail
    go_ret
    exact BV.mk rfl Kw
theorem laws_unimodular (r c : Int) (A : Option Addr) (n cap : Nat) (xs : List Int) (w : World) {B : Nat} (h : RI w B A n xs) (hB : B ≤ w.heap.size) (hn : n ≤ 1048576) (h1 : ∀ d, dtO r c xs = some d → d = 1 ∨ d = -1) :
    Calls Try.prog 47 #[.agg #[.int .i64 r, .int .i64 c, .slice A n cap]] w (BV (.bool true) w) := by
  have H2 := Lib.hid (h.more hB)
  clear h
  rcases hd : dtO r c xs with _ | d
  · have HD := Lib.hid hd
    clear hd
    go_enter Try.func47, Try.ntmps47
    go_wp2_with fail
    refine (spec_DeterminantOf r c A n cap xs _ (B := w.heap.size) (Kr H2.out) Ks hn).mono ?_
    rw [HD.out]
    rintro e w1 ⟨rfl, hb1⟩
    go_wp2_with fail
    go_ret
    exact BV.mk rfl Kw
  · have h2 := h1 d hd
    have HD := Lib.hid hd
    clear hd h1
    go_enter Try.func47, Try.ntmps47
    go_wp2_with fail
    refine (spec_DeterminantOf r c A n cap xs _ (B := w.heap.size) (Kr H2.out) Ks hn).mono ?_
    rw [HD.out]
    rintro e w1 ⟨rfl, hb1⟩
    have hsz := hb1.size
    simp at hsz
    have hM : BM w1 w.heap.size r c A n cap := Ka
    have H2' : Hid (RI w1 w.heap.size A n xs) := Lib.hid (Kr H2.out)
    have hbw : Below w.heap.size w w1 := Kw
    clear hb1
    obtain ⟨ma, mb, mc, mf, ml⟩ := hM.mx
    rcases h2 with h2 | h2
    all_goals
      have HD' := HD
      subst h2
      go_wp2_with fail
      refine (impl_IsUnimodular r c A n cap xs _ (B := w.heap.size) (Kr H2'.out) Ks hn HD'.out (by first | exact .inl rfl | exact .inr rfl)).mono ?_
      rintro e w2 ⟨rfl, hb2⟩
      go_wp2_with fail
      go_ret
      exact BV.mk rfl Kw
end Go.Proofs.Ytacjonkehcamgaa

/-
  DERIVED. What HermiteForm answers, said of matrices as lists: again, mixed, unimodular. No program in sight.
-/
namespace Go.Proofs.Ytacjonkehcamgaa
set_option linter.unusedVariables false
theorem mulL_fn {R n C : Nat} {f : Fn2} {xs : List Int} {i j : Nat} (hi : i < R) (hj : j < C) : cel (mulL (tb R n f) R n xs C) C i j = mm n f (fun i j => cel xs C i j) i j := by
  rw [cel_nat, mulL_at hi hj]
  unfold prodAt mm
  exact sumTo_congr n fun k hk => by rw [cel_tb hi hk]
structure HEX (R C : Nat) (xs : List Int) (s : HS) (t : Nat) : Prop where
  m : isMat R C xs = true
  hf : ∃ p, HF R C t p s.f
  sp : SPN R C (fun i j => cel xs C i j) s.f
  um : UMH R C (fun i j => cel xs C i j) s
  gd : GD R C s
  g0 : GD R C ⟨fun i j => cel xs C i j, idF⟩
  R24 : R ≤ 24
  C24 : C ≤ 24
theorem gd_start {R C : Nat} {xs : List Int} (M : IsM R C xs) : GD R C ⟨fun i j => cel xs C i j, idF⟩ :=
  ⟨⟨fun i j hi hj => by show Num (cel xs C i j); rw [cel_nat]; exact M.nums _, fun i j _ _ => by show Num (idF i j); unfold idF; split <;> exact ⟨by decide, by decide⟩⟩, ⟨fun i j => by
    show NB (cel xs C i j)
    rw [cel_nat]
    have := M.nums (i * C + j)
    exact .inr ⟨by omega, by omega⟩, fun i j => by show NB (idF i j); unfold idF; split <;> exact .inr ⟨by decide, by decide⟩⟩⟩
theorem hm_ef {R C : Nat} {xs : List Int} {s : HS} {t : Nat} (h : hmX R C xs = some (s, t)) : HEX R C xs s t := by
  unfold hmX at h
  split at h
  · rename_i hm
    have M := isMat_iff.1 hm
    have h1 := M.r1; have h2 := M.c1
    simp only [Int.toNat_natCast] at h
    obtain ⟨a1, a2, a3, a4⟩ := hmRun_he (gd_start M) h
    exact ⟨hm, a1, a2, a3, a4, gd_start M, by omega, by omega⟩
  · cases h
theorem hm_of {R C : Nat} {xs : List Int} {x : HS × Nat} (hm : isMat R C xs = true) (h : hmRun R C (fun i j => cel xs C i j) = some x) : hmX R C xs = some x := by
  unfold hmX
  rw [if_pos hm]
  simpa only [Int.toNat_natCast] using h
theorem hm_run {R C : Nat} {xs : List Int} {x : HS × Nat} (h : hmX R C xs = some x) : hmRun R C (fun i j => cel xs C i j) = some x := by
  unfold hmX at h
  split at h
  · simpa only [Int.toNat_natCast] using h
  · cases h
theorem hm_mat {R C : Nat} {xs : List Int} {s : HS} {t : Nat} (h : hmX R C xs = some (s, t)) : isMat R C (tb R C s.f) = true := isMat_tb (hm_ef h).R24 (hm_ef h).C24 (hm_ef h).gd.ok.f
theorem hm_again {R C : Nat} {xs : List Int} {s : HS} {t : Nat} (h : hmX R C xs = some (s, t)) : ∃ s', hmX R C (tb R C s.f) = some (s', t) ∧ tb R C s'.f = tb R C s.f := by
  have E := hm_ef h
  obtain ⟨s', h1, h2⟩ := hmRun_again (g := fun i j => cel (tb R C s.f) C i j) E.g0 (hm_run h) (fun i j hi hj => cel_tb hi hj) (gd_start (isMat_iff.1 (hm_mat h)))
  exact ⟨s', hm_of (hm_mat h) h1, tb_ext fun i j hi hj => h2 i j hi hj⟩
theorem hm_herm {R C : Nat} {xs : List Int} {s : HS} {t : Nat} (h : hmX R C xs = some (s, t)) : hermB R C (tb R C s.f) = true := by
  have E := hm_ef h
  obtain ⟨p, H⟩ := E.hf
  exact H.herm E.R24 E.C24 E.gd.ok.f
theorem hm_prod {R C : Nat} {xs : List Int} {s : HS} {t : Nat} (h : hmX R C xs = some (s, t)) : mulL (tb R R s.g) R R xs C = tb R C s.f := by
  have E := hm_ef h
  rw [tb_of (R := R) (C := C) (xs := mulL (tb R R s.g) R R xs C) (mulL_len _ _ _ _ _)]
  exact tb_ext fun i j hi hj => by rw [mulL_fn hi hj]; exact E.um.1 i j hi hj
theorem hm_mix {R C : Nat} {mf : Fn2} {xs : List Int} {s s2 : HS} {t t2 : Nat} (hs : SPN R R idF mf) (h : hmX R C xs = some (s, t)) (h2 : hmX R C (mulL (tb R R mf) R R xs C) = some (s2, t2)) : tb R C s2.f = tb R C s.f := by
  have E := hm_ef h
  have E2 := hm_ef h2
  have e : SPN R C (fun i j => cel xs C i j) (fun i j => cel (mulL (tb R R mf) R R xs C) C i j) := by
    have k := SPN.left (C := C) (m := fun i j => cel xs C i j) hs
    refine ⟨fun i hi => (k.1 i hi).as fun y hy => mulL_fn hi hy, fun i hi => (k.2 i hi).trans fun x hx => ?_⟩
    exact (Sp.row (f := fun i j => cel (mulL (tb R R mf) R R xs C) C i j) hx).as fun y hy => (mulL_fn hx hy).symm
  exact tb_ext fun i j hi hj => hmRun_uniq E.g0 E2.g0 (hm_run h) (hm_run h2) e i j hi hj
theorem hm_det {R C : Nat} {xs : List Int} {s : HS} {t : Nat} (h : hmX R C xs = some (s, t)) : ∀ d, dtO R R (tb R R s.g) = some d → d = 1 ∨ d = -1 := fun d hd => by
  have E := hm_ef h
  unfold dtO at hd
  split at hd
  · simp only [Int.toNat_natCast] at hd
    have h1 := detL_Dt R _ d (tb_len _ _ _) hd
    rw [h1, Dt_congr R (g := s.g) fun i j hi hj => cel_tb hi hj]
    exact E.um.2.2
  · cases hd
theorem hm_umat {R C : Nat} {xs : List Int} {s : HS} {t : Nat} (h : hmX R C xs = some (s, t)) : isMat R R (tb R R s.g) = true := isMat_tb (hm_ef h).R24 (hm_ef h).R24 (hm_ef h).gd.ok.g
end Go.Proofs.Ytacjonkehcamgaa

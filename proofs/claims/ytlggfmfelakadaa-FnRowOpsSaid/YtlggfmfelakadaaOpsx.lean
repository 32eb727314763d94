/-
  DERIVED. Operations on rows: IsRowOp and DivideFloor of both, rowOp and l5Do for sums and signs.
-/
import Derived.Test.YtlggfmfelakadaaX2
import Derived.Test.YtlggfmfelakadaaRowOpx
namespace Go.Proofs.Ytlggfmfelakadaa
open Go.RowKit
set_option linter.unusedVariables false
set_option linter.unusedSimpArgs false
theorem impl_IsRowOp_add (R i j : Nat) (t : Int) (w : World) (hi : i < R) (hj : j < R) (hij : i ≠ j) (ht : Num t) (hR : R ≤ 24) :
    Calls Try.prog 57 #[.agg #[.int .i64 2, .int .i64 i, .int .i64 j, .int .i64 t], .int .i64 R] w (BV (.bool true) w) := by
  obtain ⟨ht1, ht2⟩ := ht
  have hb : ((i : Int) != (j : Int)) = true := by simp; omega
  clear hij
  go_enter Try.func57, Try.ntmps57
  go_wp2_with (first | (go_at_call 65; (first | refine (impl_IsNumber_yes _ _ (by omega)).mono ?_ | refine (impl_IsNumber_no _ _ (by omega)).mono ?_ | refine (impl_IsNumber _ _).mono ?_); rintro e w' ⟨rfl, rfl⟩))
  go_ret
  exact BV.mk rfl Kw
theorem impl_IsRowOp_swap (R i j : Nat) (w : World) (hi : i < R) (hj : j < R) (hij : i ≠ j) (hR : R ≤ 24) :
    Calls Try.prog 57 #[.agg #[.int .i64 0, .int .i64 i, .int .i64 j, .int .i64 0], .int .i64 R] w (BV (.bool true) w) := by
  have hb : ((i : Int) != (j : Int)) = true := by simp; omega
  clear hij
  go_enter Try.func57, Try.ntmps57
  go_wp2_with (first | (go_at_call 65; (first | refine (impl_IsNumber_yes _ _ (by omega)).mono ?_ | refine (impl_IsNumber_no _ _ (by omega)).mono ?_ | refine (impl_IsNumber _ _).mono ?_); rintro e w' ⟨rfl, rfl⟩))
  go_ret
  exact BV.mk rfl Kw
theorem impl_IsRowOp_neg (R i : Nat) (w : World) (hi : i < R) (hR : R ≤ 24) :
    Calls Try.prog 57 #[.agg #[.int .i64 1, .int .i64 i, .int .i64 i, .int .i64 0], .int .i64 R] w (BV (.bool true) w) := by
  go_enter Try.func57, Try.ntmps57
  go_wp2_with (first | (go_at_call 65; (first | refine (impl_IsNumber_yes _ _ (by omega)).mono ?_ | refine (impl_IsNumber_no _ _ (by omega)).mono ?_ | refine (impl_IsNumber _ _).mono ?_); rintro e w' ⟨rfl, rfl⟩))
  go_ret
  exact BV.mk rfl Kw
/-- Three results: two numbers and a flag. -/
def IIE (a b : Int) (c : Bool) (w : World) (e : Ending) (w' : World) : Prop := e = .returned (.tuple #[.int .i64 a, .int .i64 b, .bool c]) ∧ w = w'
theorem IIE.mk {a a' b b' : Int} {c : Bool} {w : World} (h : a = a') (h' : b = b') : IIE a' b' c w (.returned (.tuple #[.int .i64 a, .int .i64 b, .bool c])) w := by
  subst h; subst h'; exact ⟨rfl, rfl⟩
theorem emod_eq_abs {a d : Int} (h1 : 0 ≤ a) (h2 : a < d.natAbs) : a % d = a := by
  rcases Int.natAbs_eq d with e | e
  · exact Int.emod_eq_of_lt h1 (by omega)
  · rw [show d = -(d.natAbs : Int) from e, Int.emod_neg]; exact Int.emod_eq_of_lt h1 h2
theorem emod_of_tmod_ge {n d : Int} (h : 0 ≤ n.tmod d) (hd : d ≠ 0) : n.tmod d = n % d := by
  have h1 := Int.tmod_add_mul_tdiv n d
  have h2 : (n.tmod d).natAbs < d.natAbs := by rw [Int.natAbs_tmod]; exact Nat.mod_lt _ (by omega)
  have h3 : n % d = n.tmod d := by
    have : n % d = (n.tmod d) % d := by
      conv => lhs; rw [← h1]
      rw [Int.add_mul_emod_self_left]
    rw [this, emod_eq_abs h (by omega)]
  exact h3.symm
theorem emod_of_tmod_lt {n d : Int} (h : n.tmod d < 0) (hd : d ≠ 0) : n.tmod d + d.natAbs = n % d := by
  have h1 := Int.tmod_add_mul_tdiv n d
  have h2 : (n.tmod d).natAbs < d.natAbs := by rw [Int.natAbs_tmod]; exact Nat.mod_lt _ (by omega)
  have h3 : n % d = (n.tmod d + d.natAbs) % d := by
    have e0 : n % d = (n.tmod d) % d := by
      conv => lhs; rw [← h1]
      rw [Int.add_mul_emod_self_left]
    rw [e0]
    rcases Int.natAbs_eq d with e | e
    · rw [← e]; simp
    · have : ((d.natAbs : Nat) : Int) = -d := by omega
      rw [this, ← Int.sub_eq_add_neg]; simp
  rw [h3, emod_eq_abs (by omega) (by omega)]
theorem tdiv_of_rem {n d : Int} (hd : d ≠ 0) : (n - n % d).tdiv d = n / d := by
  have h := Int.mul_ediv_add_emod n d
  rw [show n - n % d = d * (n / d) by omega, Int.mul_tdiv_cancel_left _ hd]
theorem floor_pos {n d : Int} (hd : 0 < d) : (if n.tmod d < 0 then n.tdiv d - 1 else n.tdiv d) = n / d := by
  have h1 := Int.tmod_add_mul_tdiv n d
  have h0 := Int.mul_ediv_add_emod n d
  split
  · rename_i h
    have h2 := emod_of_tmod_lt h (by omega)
    have : d * (n / d) = d * (n.tdiv d - 1) := by rw [Int.mul_sub, Int.mul_one]; omega
    exact (Int.eq_of_mul_eq_mul_left (by omega) this).symm
  · rename_i h
    have h2 := emod_of_tmod_ge (n := n) (d := d) (by omega) (by omega)
    have : d * (n / d) = d * (n.tdiv d) := by omega
    exact (Int.eq_of_mul_eq_mul_left (by omega) this).symm
theorem ediv_abs {n d : Int} (hd : d < 0) : n / d = -(n / (d.natAbs : Int)) := by
  rw [show d = -(d.natAbs : Int) by omega, Int.ediv_neg]; simp
/-- Row i done in its first k columns. -/
def opK (f : Fn2) (i j : Nat) (t : Int) (k : Nat) : Fn2 := fun x y => if x = i ∧ y < k then f i y + f j y * t else f x y
theorem opK_zero (f : Fn2) (i j : Nat) (t : Int) : opK f i j t 0 = f := by funext x y; simp [opK]
theorem opK_step (f : Fn2) (i j : Nat) (t : Int) (k : Nat) : upd (opK f i j t k) i k (f i k + f j k * t) = opK f i j t (k + 1) := by
  funext x y
  unfold upd opK
  by_cases h : x = i ∧ y = k
  · rw [if_pos h, if_pos ⟨h.1, by omega⟩, h.2]
  · rw [if_neg h]
    by_cases h2 : x = i ∧ y < k
    · rw [if_pos h2, if_pos ⟨h2.1, by omega⟩]
    · rw [if_neg h2, if_neg]
      rintro ⟨h3, h4⟩
      exact h2 ⟨h3, by have : y ≠ k := fun e => h ⟨h3, e⟩; omega⟩
theorem opK_at (f : Fn2) (i j : Nat) (t : Int) (k : Nat) : opK f i j t k i k = f i k := by simp [opK]
theorem opK_atj {f : Fn2} {i j : Nat} (h : i ≠ j) (t : Int) (k : Nat) : opK f i j t k j k = f j k := by simp [opK, Ne.symm h]
theorem opK_end {f : Fn2} {R C i j : Nat} {t : Int} (h : OKF R C f) (hi : i < R) (hj : j < R) (ht : Num t) (hr : rowOk f i j t C) : tb R C (opK f i j t C) = tb R C (opA f i j t) :=
  tb_ext fun x y hx hy => by
    unfold opK
    by_cases h2 : x = i
    · subst h2
      rw [if_pos ⟨rfl, hy⟩, rowOk_val h hi hj ht hr hy]
    · rw [if_neg (fun h3 => h2 h3.1), opA_other h2]
/-- A sum of rows, as far as it goes. -/
def RO (f : Fn2) (i j : Nat) (t : Int) (R C : Nat) (sv : Value) (B : Nat) (w : World) (e : Ending) (w' : World) : Prop :=
  (rowOk f i j t C ∧ WW (.bool true) sv B (tb R C (opA f i j t)) w e w') ∨ (¬ rowOk f i j t C ∧ ∃ f', WW (.bool false) sv B (tb R C f') w e w')
set_option maxRecDepth 100000 in
set_option maxHeartbeats 4000000 in
theorem impl_rowOp_add (R C p t : Nat) (m : Int) (A : Option Addr) (n cap : Nat) (f : Fn2) (w : World) {B : Nat} (h : OR w B (.slice A n cap) (tb R C f)) (hp : p < R) (ht : t < R) (hpt : p ≠ t) (hm : Num m) (hf : OKF R C f) (hC0 : 0 < C) (hC : C ≤ 24) (hR : R ≤ 24) :
    Calls Try.prog 64 #[.agg #[.int .i64 R, .int .i64 C, .slice A n cap], .agg #[.int .i64 2, .int .i64 p, .int .i64 t, .int .i64 m]] w (RO f p t m R C (.slice A n cap) B w) := by
  have hn := h.lenEq
  rw [tb_len] at hn
  have hcaps := h.caps
  have hP := idx_nat hp (show C - 1 < C by omega)
  have hT := idx_nat ht (show C - 1 < C by omega)
  obtain ⟨g, rfl, hg1, hg2⟩ := h.begins (by rw [tb_len]; omega)
  have hP2 : p * C + C ≤ n := by omega
  have hT2 : t * C + C ≤ n := by omega
  have HN := Lib.hid hn
  have HPT := Lib.hid hpt
  have HF := Lib.hid hf
  have HM := Lib.hid hm
  obtain ⟨m1, m2⟩ := hm
  have HEND := Lib.hid (fun hr => opK_end hf hp ht ⟨m1, m2⟩ hr)
  clear hn hpt hP hT hf
  go_enter Try.func64, Try.ntmps64
  go_wp2_with fail
  refine (impl_row_own R C p g n cap _ Ks (by omega) (by omega) hC0 (by omega) (by omega) hP2).mono ?_
  rintro e w1 ⟨rfl, hb1⟩
  have hsz1 := hb1.size
  simp at hsz1
  have hO1 : Blk w1 (w.heap.size + 1) 38 #[.int .i64 2, .int .i64 p, .int .i64 t, .int .i64 m] := by (with_reducible (repeat (first | assumption | refine Blk.new_at _ _ _ _ Ks | refine Blk.below ?_ (by assumption) Ks | apply Blk.drew | apply Blk.drewN | refine Blk.far ?_ (by simp only [ne_eq]; omega) _ | apply Blk.alloc)))
  have hM1 : BM w1 w.heap.size R C (some ⟨g, 0, none⟩) n cap := Ka
  have hown1 : OR w1 B (.slice (some ⟨g, 0, none⟩) n cap) (tb R C f) := Ko h
  have hgr1 : w.grownBy w1 (some g) := by (with_reducible (repeat (first | assumption | exact World.grownBy.refl _ _ | refine only_alloc ?_ _ | refine only_drewN ?_ _ | refine only_drew ?_ | refine only_set ?_ _ _ | refine grown_far ?_ Ks _ | refine only_trans ?_ (only_of_below (by assumption) _) | refine only_trans ?_ (by assumption))))
  obtain ⟨oa, ob, oc, of, ol⟩ := hM1.mx
  have x0 := hO1.cell 0
  have x1 := hO1.cell 1
  have x2 := hO1.cell 2
  have x3 := hO1.cell 3
  simp at x0 x1 x2 x3
  clear hb1
  go_wp2_with fail
  refine (impl_row_own R C t g n cap _ Ks (by omega) (by omega) hC0 (by omega) (by omega) hT2).mono ?_
  rintro e w2 ⟨rfl, hb2⟩
  have hsz2 := hb2.size
  have hO2 : Blk w2 (w.heap.size + 1) 38 #[.int .i64 2, .int .i64 p, .int .i64 t, .int .i64 m] := by (with_reducible (repeat (first | exact hO1 | refine Blk.new_at _ _ _ _ Ks | refine Blk.below ?_ (by assumption) Ks | apply Blk.drew | apply Blk.drewN | refine Blk.far ?_ (by simp only [ne_eq]; omega) _ | apply Blk.alloc)))
  have hown2 : OR w2 B (.slice (some ⟨g, 0, none⟩) n cap) (tb R C f) := Ko hown1
  have hgr2 : w.grownBy w2 (some g) := by (with_reducible (repeat (first | assumption | exact World.grownBy.refl _ _ | refine only_alloc ?_ _ | refine only_drewN ?_ _ | refine only_drew ?_ | refine only_set ?_ _ _ | refine grown_far ?_ Ks _ | refine only_trans ?_ (only_of_below (by assumption) _) | refine only_trans ?_ (by assumption))))
  clear hb2 hown1 hgr1 hO1 hM1 x0 x1 x2 x3 oa ob oc of ol
  go_wp2_with fail
  go_loopw [7, 19] (fun _ u wr => ∃ k : Nat, u = .int .i64 k ∧ k ≤ C ∧ (∀ y, y < k → Num (f t y * m) ∧ Num (f p y + f t y * m)) ∧ OR wr B (.slice (some ⟨g, 0, none⟩) n cap) (tb R C (opK f p t m k)) ∧ Blk wr (w.heap.size + 1) 38 #[.int .i64 2, .int .i64 p, .int .i64 t, .int .i64 m] ∧ w.grownBy wr (some g) ∧ w.heap.size ≤ wr.heap.size) (fun _ v _ => C - (intOf v).toNat)
  case atStart => exact ⟨0, rfl, Nat.zero_le _, fun y hy => absurd hy (Nat.not_lt_zero _), by rw [opK_zero]; exact hown2, hO2, hgr2, by omega⟩
  case round =>
    clear hown2 hO2 hgr2 h
    obtain ⟨k, rfl, hk, hok, hown, hO, hgr, hsz⟩ := hrel
    have HOK := Lib.hid hok
    clear hok
    have x0 := hO.cell 0
    have x1 := hO.cell 1
    have x2 := hO.cell 2
    have x3 := hO.cell 3
    have hl := hO.lt
    simp at x0 x1 x2 x3
    by_cases hkC : k < C
    · have c1 := hown.cell (p * C + k) (by rw [tb_len]; exact idx_nat hp hkC)
      have c2 := hown.cell (t * C + k) (by rw [tb_len]; exact idx_nat ht hkC)
      rw [tb_at hp hkC, opK_at] at c1
      rw [tb_at ht hkC, opK_atj HPT.out] at c2
      have f1 := hown.frozen (p * C + k)
      have hs1 := hown.set_ (p * C + k) (f p k + f t k * m)
      rw [tb_set hp hkC, opK_step] at hs1
      have hn1 := HF.out p k hp hkC
      have hn2 := HF.out t k ht hkC
      have HS : Hid (∀ y, y < k + 1 → (Num (f t k * m) ∧ Num (f p k + f t k * m)) → Num (f t y * m) ∧ Num (f p y + f t y * m)) := Lib.hid (fun y hy h3 => by
        by_cases e : y = k
        · rw [e]; exact h3
        · exact HOK.out y (by omega))
      have HNO : Hid (¬ (Num (f t k * m) ∧ Num (f p k + f t k * m)) → ¬ rowOk f p t m C) := Lib.hid (fun h3 h4 => h3 (h4 k hkC))
      generalize hx : f p k = x at *
      generalize hy : f t k = y at *
      clear hx hy
      obtain ⟨n1, n2⟩ := hn1
      obtain ⟨n3, n4⟩ := hn2
      obtain ⟨z1, z2⟩ := mul_bd4 y m 400000000 400000000 n3 n4 m1 m2
      have g1 : IntKind.i64.wrap (y * m) = y * m := IntWalk.i64_in _ (by omega)
      have g2 : IntKind.i64.wrap (x + y * m) = x + y * m := IntWalk.i64_in _ (by omega)
      by_cases hq1 : Num (y * m)
      · have hq1' := hq1
        obtain ⟨q1, q2⟩ := hq1'
        by_cases hq2 : Num (x + y * m)
        · have HQ := Lib.hid (fun y' hy' => HS.out y' hy' ⟨hq1, hq2⟩)
          obtain ⟨q3, q4⟩ := hq2
          clear hq1 HS HNO
          go_wp2; go_region; go_wp2_with (first | (go_at_call 65; (first | refine (impl_IsNumber_yes _ _ (by omega)).mono ?_ | refine (impl_IsNumber_no _ _ (by omega)).mono ?_ | refine (impl_IsNumber _ _).mono ?_); rintro e w' ⟨rfl, rfl⟩))
          go_roundw
          case rel => exact ⟨k + 1, by go_num, by omega, HQ.out, OR.drew hs1, by (with_reducible (repeat (first | exact hO | refine Blk.new_at _ _ _ _ Ks | refine Blk.below ?_ (by assumption) Ks | apply Blk.drew | apply Blk.drewN | refine Blk.far ?_ (by simp only [ne_eq]; omega) _ | apply Blk.alloc))), by (with_reducible (repeat (first | assumption | exact World.grownBy.refl _ _ | refine only_alloc ?_ _ | refine only_drewN ?_ _ | refine only_drew ?_ | refine only_set ?_ _ _ | refine grown_far ?_ Ks _ | refine only_trans ?_ (only_of_below (by assumption) _) | refine only_trans ?_ (by assumption)))), by simpa [World.setCell] using hsz⟩
          case measure => simp only [intOf]; omega
        · have HX := Lib.hid (HNO.out (fun h => hq2 h.2))
          have hq3 : x + y * m < -400000000 ∨ 400000000 < x + y * m := by unfold Num at hq2; omega
          clear hq1 hq2 HS HNO
          rcases hq3 with hq3 | hq3
          all_goals
            go_wp2; go_region; go_wp2_with (first | (go_at_call 65; (first | refine (impl_IsNumber_yes _ _ (by omega)).mono ?_ | refine (impl_IsNumber_no _ _ (by omega)).mono ?_ | refine (impl_IsNumber _ _).mono ?_); rintro e w' ⟨rfl, rfl⟩))
            go_ret
            exact .inr ⟨HX.out, _, WW.mk rfl (OR.drew hs1) (by (show w.grownBy _ (some g)); (with_reducible (repeat (first | assumption | exact World.grownBy.refl _ _ | refine only_alloc ?_ _ | refine only_drewN ?_ _ | refine only_drew ?_ | refine only_set ?_ _ _ | refine grown_far ?_ Ks _ | refine only_trans ?_ (only_of_below (by assumption) _) | refine only_trans ?_ (by assumption))))) (by simpa [World.setCell] using hsz)⟩
      · have HX := Lib.hid (HNO.out (fun h => hq1 h.1))
        have hq3 : y * m < -400000000 ∨ 400000000 < y * m := by unfold Num at hq1; omega
        clear hq1 HS HNO
        rcases hq3 with hq3 | hq3
        all_goals
          go_wp2; go_region; go_wp2_with (first | (go_at_call 65; (first | refine (impl_IsNumber_yes _ _ (by omega)).mono ?_ | refine (impl_IsNumber_no _ _ (by omega)).mono ?_ | refine (impl_IsNumber _ _).mono ?_); rintro e w' ⟨rfl, rfl⟩))
          go_ret
          exact .inr ⟨HX.out, _, WW.mk rfl (OR.drew hs1) (by (show w.grownBy _ (some g)); (with_reducible (repeat (first | assumption | exact World.grownBy.refl _ _ | refine only_alloc ?_ _ | refine only_drewN ?_ _ | refine only_drew ?_ | refine only_set ?_ _ _ | refine grown_far ?_ Ks _ | refine only_trans ?_ (only_of_below (by assumption) _) | refine only_trans ?_ (by assumption))))) (by simpa [World.setCell] using hsz)⟩
    · obtain rfl : k = C := by omega
      have hfin := hown.as (HEND.out HOK.out)
      clear hown
      go_wp2
      go_ret
      exact .inl ⟨HOK.out, WW.mk rfl hfin hgr hsz⟩
end Go.Proofs.Ytlggfmfelakadaa

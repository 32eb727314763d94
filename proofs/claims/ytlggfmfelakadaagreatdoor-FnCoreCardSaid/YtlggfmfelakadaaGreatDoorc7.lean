/-
  DERIVED. Several small texts in one: RowB, PrimS, PlRe, MkR, DetS, PlCh, PlDl, CopyW, DrL, Rats, Rap, SmR.
-/
import Derived.Test.YtlggfmfelakadaaGreatDoorc1
import Derived.Test.YtlggfmfelakadaaGreatDoorDrwx
import Derived.Test.YtlggfmfelakadaaGreatDoorc5
import Derived.Test.YtlggfmfelakadaaGreatDoorRowOpx
import Derived.Test.YtlggfmfelakadaaGreatDoorRatioFromx
import Derived.Test.YtlggfmfelakadaaGreatDoorc3
import Derived.Test.YtlggfmfelakadaaGreatDoorRatOx
import Derived.Test.YtlggfmfelakadaaGreatDoorDetx
import Derived.Test.YtlggfmfelakadaaGreatDoorc4
import Derived.Test.YtlggfmfelakadaaGreatDoorDetWx
import Derived.Laws.CopyOwn
import Derived.Laws.IdiomCopy
import Derived.Test.YtlggfmfelakadaaGreatDoorc2
/-
  DERIVED. A slice of bytes that came in, read.
-/
namespace Go.Proofs.YtlggfmfelakadaaGreatDoor
open Go.ChangeShapes Go.WideShapes Go.ChangeAt Go.RowKit Go.Joins
set_option linter.unusedVariables false
section
variable {H : Type} {enc : TypeId × Value → H} {P : Program}
theorem reads_bytes {w : World} {base : Nat} {spare : Nat → Bool} {held : Bool} {t e : TypeId} {fuel : Nat} {v : Value} {x : DataW H × List MemPlace}
    (ht : P.underlying t = some (.slice e)) (he : P.underlying e = some (.int .u8)) (hc : P.cellsOf e = 1) (h : DataW.trod enc P w base spare held fuel t [v] = some x)
    (hlt : ∀ p ∈ x.2, p.block < w.heap.size) :
    ∃ A n cap xs, v = .slice A n cap ∧ n ≤ cap ∧ cap ≤ maxLen ∧ RB w w.heap.size A n xs := by
  rcases open_ints ht he hc h with ⟨hcs, hx⟩ | ⟨a, len, cap, zs, hcs, hb, hl, hm, hz, hx, hcell, hwf⟩
  · injection hcs with hv
    exact ⟨none, 0, 0, [], hv, Nat.le_refl _, by unfold maxLen; omega, rfl, fun h => absurd h (by omega), fun k => by simp⟩
  · injection hcs with hv
    have hzl : len ≤ zs.length := by rw [hz]; split <;> omega
    refine ⟨some a, len, cap, zs.take len, hv, hl, hm, by simp; omega, fun hn => ?_, fun k => ?_⟩
    · obtain ⟨b, off, rfl, hc'⟩ := ints_at hcell (by omega)
      refine ⟨b, off, rfl, ?_, fun k hk => ?_⟩
      · have h0 : MemPlace.cell b off ∈ x.2 := by
          rw [hx]
          simp only [MemPlace.row, List.mem_map, List.mem_range]
          exact ⟨0, by omega, rfl⟩
        exact hlt _ h0
      · rw [hc' k (by omega)]
        simp [List.getD, hk]
    · by_cases hk : k < (zs.take len).length
      · have h1 : (zs.take len).getD k 0 ∈ zs := by
          have : (zs.take len).getD k 0 = (zs.take len)[k] := by unfold List.getD; rw [List.getElem?_eq_getElem hk]; rfl
          rw [this]
          exact List.mem_of_mem_take (List.getElem_mem hk)
        simpa [Lit.wf, IntKind.min, IntKind.max, IntKind.signed, IntKind.bits] using hwf _ h1
      · have : (zs.take len).getD k 0 = 0 := by simp [List.getD, List.getElem?_eq_none (show (zs.take len).length ≤ k by omega)]
        rw [this]; omega
end
end Go.Proofs.YtlggfmfelakadaaGreatDoor

/-
  DERIVED. l7Primitive of the reference.
-/
namespace Go.Proofs.YtlggfmfelakadaaGreatDoor
open Go.RowKit
set_option linter.unusedVariables false
set_option linter.unusedSimpArgs false
/-- The sign of the first number that is not 0. -/
def sgL (l : List Int) : Int := l.foldl (fun s x => if s = 0 then x.sign else s) 0
theorem sgL_take {l : List Int} {k : Nat} (h : k < l.length) : sgL (l.take (k + 1)) = if sgL (l.take k) = 0 then (l.getD k 0).sign else sgL (l.take k) := by
  have e : l[k]? = some (l.getD k 0) := by simp [List.getD, h]
  rw [List.take_add_one, e]
  simp [sgL, List.foldl_append]
theorem sgF_keep (s : Int) (hs : s ≠ 0) : ∀ l : List Int, l.foldl (fun s x => if s = 0 then x.sign else s) s = s
  | [] => rfl
  | x :: l => by
    show l.foldl _ (if s = 0 then x.sign else s) = s
    rw [if_neg hs]
    exact sgF_keep s hs l
theorem sgL_eq : ∀ l : List Int, sgL l = (l.getD (fcN l) 0).sign
  | [] => rfl
  | x :: l => by
    unfold sgL fcN
    show l.foldl _ (if (0 : Int) = 0 then x.sign else 0) = _
    rw [if_pos rfl]
    by_cases h : x = 0
    · rw [if_pos h, h]
      show l.foldl _ (Int.sign 0) = _
      rw [Int.sign_zero]
      have := sgL_eq l
      unfold sgL at this
      rw [this]
      simp
    · rw [if_neg h, sgF_keep _ (by rw [Ne, Int.sign_eq_zero_iff_zero]; exact h)]
      simp
theorem sgL_bd (l : List Int) : -1 ≤ sgL l ∧ sgL l ≤ 1 := by
  rw [sgL_eq]
  rcases Int.lt_trichotomy (l.getD (fcN l) 0) 0 with h | h | h
  · rw [Int.sign_eq_neg_one_of_neg h]; omega
  · rw [h]; simp
  · rw [Int.sign_eq_one_of_pos h]; omega
theorem sg_prim {l : List Int} {k : Nat} (hk : k < l.length) (h0 : gcdL l ≠ 0) : (sgL l * l.getD k 0).tdiv (gcdL l : Nat) = (primL l).getD k 0 := by
  rw [primL_getD hk h0, sgL_eq]
  have hlt := fcN_lt_iff.2 h0
  have hne := fcN_ne l hlt
  unfold divL
  by_cases h : l.getD (fcN l) 0 < 0
  · rw [if_pos h, Int.sign_eq_neg_one_of_neg h, Int.tdiv_neg]
    rw [show (-1 : Int) * l.getD k 0 = -(l.getD k 0) by omega, Int.neg_tdiv]
  · rw [if_neg h, Int.sign_eq_one_of_pos (by omega), Int.one_mul]
theorem quo_abs {x : Int} (h : x ≠ 0) : x.tdiv (x.natAbs : Nat) = x.sign := by
  rcases Int.lt_or_gt_of_ne h with h1 | h1
  · rw [Int.sign_eq_neg_one_of_neg h1]
    have e : ((x.natAbs : Nat) : Int) = -x := by omega
    rw [e, Int.tdiv_neg, Int.tdiv_self h]
  · rw [Int.sign_eq_one_of_pos h1]
    have e : ((x.natAbs : Nat) : Int) = x := by omega
    rw [e, Int.tdiv_self h]
def pmK (C : Nat) (f : Nat → Nat → Int) (i k : Nat) : Nat → Nat → Int := fun a c => if a = i ∧ c < k then (primL (rw_ C f i)).getD c 0 else f a c
theorem pmK_zero (C : Nat) (f : Nat → Nat → Int) (i : Nat) : pmK C f i 0 = f := by funext a c; simp [pmK]
theorem pmK_at (C : Nat) (f : Nat → Nat → Int) (i k c : Nat) (h : k ≤ c) : pmK C f i k i c = f i c := by unfold pmK; rw [if_neg (by omega)]
theorem pmK_step (C : Nat) (f : Nat → Nat → Int) (i k : Nat) : upd (pmK C f i k) i k ((primL (rw_ C f i)).getD k 0) = pmK C f i (k + 1) := by
  funext a c
  unfold upd pmK
  grind
theorem pmK_end {R C : Nat} (f : Nat → Nat → Int) (i : Nat) : tb R C (pmK C f i C) = tb R C (prF C f i) := tb_ext fun a c ha hc => by unfold pmK prF setR; grind
theorem prF_zero {R C : Nat} {f : Nat → Nat → Int} {i : Nat} (h : gcdL (rw_ C f i) = 0) : tb R C (prF C f i) = tb R C f := prF_same ((primL_eq_iff _).2 (.inl h))
end Go.Proofs.YtlggfmfelakadaaGreatDoor

/-
  DERIVED. A ratio with small parts comes back from its residue: no program in sight.
-/
namespace Go.Proofs.YtlggfmfelakadaaGreatDoor
set_option linter.unusedVariables false
theorem invOf_spec {a m : Int} (hm : 1 ≤ m) (hm2 : m ≤ 400000000) (hg : Int.gcd a m = 1) : m ∣ a * invOf a m - 1 := by
  obtain ⟨b1, b2⟩ := emod_bds a m hm
  have hs := egRes_spec (a := a % m) (b := m) (by omega) (by omega)
  have e1 := Int.emod_add_mul_ediv a m
  have hg2 : Int.gcd (a % m) m = 1 := by
    have : Int.gcd (a % m + m * (a / m)) m = Int.gcd (a % m) m := Int.gcd_add_mul_left_left _ _ _
    rw [e1] at this
    omega
  obtain ⟨-, hc, -, -⟩ := hs
  rw [hg2] at hc
  unfold invOf
  generalize (egRes (a % m) m).2.1 = x at *
  generalize (egRes (a % m) m).2.2 = y at *
  have e2 := Int.emod_add_mul_ediv x m
  refine ⟨a / m * (x % m) - a % m * (x / m) - y, ?_⟩
  have h1 : a * (x % m) = a % m * (x % m) + m * (a / m * (x % m)) := by
    conv => lhs; rw [← e1]
    grind
  have h2 : a % m * x = a % m * (x % m) + m * (a % m * (x / m)) := by
    conv => lhs; rw [← e2]
    grind
  rw [Int.mul_sub, Int.mul_sub]
  generalize m * (a / m * (x % m)) = P at *
  generalize m * (a % m * (x / m)) = Q at *
  generalize a % m * (x % m) = S at *
  generalize a % m * x = T at *
  omega
theorem resVal_yes {n d m : Int} (h : resOk n d m = true) : (1 ≤ m ∧ m ≤ 400000000) ∧ ratOk n d = true ∧ 0 ≤ resVal n d m ∧ resVal n d m < m ∧ m ∣ resVal n d m * d - n ∧ Int.gcd d m = 1 := by
  have hv : resVal n d m = (n % m * invOf d m) % m := by unfold resVal; rw [h]; rfl
  simp only [resOk, Bool.and_eq_true, decide_eq_true_eq] at h
  obtain ⟨⟨⟨h1, h2⟩, h3⟩, h4⟩ := h
  obtain ⟨b1, b2⟩ := emod_bds (n % m * invOf d m) m h2
  obtain ⟨k, hk⟩ := invOf_spec h2 h3 h4
  have e1 := Int.emod_add_mul_ediv n m
  have e2 := Int.emod_add_mul_ediv (n % m * invOf d m) m
  rw [hv]
  refine ⟨⟨h2, h3⟩, h1, b1, b2, ⟨n % m * k - (n % m * invOf d m) / m * d - n / m, ?_⟩, h4⟩
  generalize (n % m * invOf d m) / m = q at *
  have e3 : (n % m * invOf d m) % m = n % m * invOf d m - m * q := by omega
  rw [e3]
  have e4 : invOf d m * d = m * k + 1 := by rw [Int.mul_comm]; omega
  have e5 : (n % m * invOf d m - m * q) * d = n % m * (invOf d m * d) - m * (q * d) := by grind
  rw [e5, e4, Int.mul_sub, Int.mul_sub, Int.mul_add]
  have e6 : n % m * (m * k) = m * (n % m * k) := by grind
  rw [e6]
  omega
theorem resVal_img {n d m : Int} (h : resOk n d m = true) : imgOk n d (resVal n d m) m = true := by
  obtain ⟨⟨h1, h2⟩, h3, h4, h5, h6, h7⟩ := resVal_yes h
  exact (imgOk_iff _ _ _ _).2 ⟨h3, ⟨by omega, by omega⟩, ⟨h1, h2⟩, h7, Int.emod_eq_zero_of_dvd h6⟩
/-- The bound that a ratio needs. -/
def rbd (n d : Int) : Int := max 1 (max (n.natAbs : Int) d)
theorem rf_back {n d m : Int} (h : resOk n d m = true) (hb : rbd n d ≤ 20000) (h2 : 2 * rbd n d * rbd n d < m) : rfRes (resVal n d m) m (rbd n d) = some (n, d) := by
  obtain ⟨⟨k1, k2⟩, k3, k4, k5, k6, k7⟩ := resVal_yes h
  obtain ⟨j1, j2, j3, j4⟩ := ratOk_bds k3
  have r1 : 1 ≤ rbd n d ∧ (n.natAbs : Int) ≤ rbd n d ∧ d ≤ rbd n d := by unfold rbd; omega
  generalize rbd n d = b at *
  have g : RfOk (resVal n d m) m b := ⟨by omega, by omega, k1, k2, by omega, hb, h2⟩
  have hG : Good (resVal n d m) m b n d := (good_iff g n d).2 ⟨⟨j1, by omega⟩, by omega, resVal_img h⟩
  have hk : rfOkB (resVal n d m) m b = true := by
    simp only [rfOkB, Bool.and_eq_true, decide_eq_true_eq]
    exact ⟨⟨⟨⟨⟨(isNum_iff _).2 ⟨by omega, by omega⟩, k1⟩, k2⟩, by omega⟩, hb⟩, h2⟩
  unfold rfRes
  rw [if_pos hk]
  rcases hI : rfI (resVal n d m) m b b.toNat 1 with _ | r
  · exact (rfI_none g _ _ hI n d hG hG.d1 (by have := hG.d2; have := hG.d1; omega)).elim
  · have hg := rfI_some g _ _ r (by omega) (by omega) hI
    obtain ⟨e1, e2⟩ := Good.uniq g.bm hG hg
    obtain ⟨a, b⟩ := r
    dsimp only at e1 e2
    rw [e1, e2]
end Go.Proofs.YtlggfmfelakadaaGreatDoor

/-
  DERIVED. Making of ratios, both.
-/
namespace Go.Proofs.YtlggfmfelakadaaGreatDoor
open Go.RowKit
set_option linter.unusedVariables false
set_option linter.unusedSimpArgs false
theorem rV_eq {q q' : Int × Int} (h : q = q') : Value.agg #[.int .i64 q'.1, .int .i64 q'.2] = rV q := by subst h; rfl
set_option maxHeartbeats 4000000 in
theorem impl_MakeRatio (n d : Int) (w : World) : Calls Tryz.prog 38 #[.int .i64 n, .int .i64 d] w (BV (rV (makR n d)) w) := by
  by_cases h1 : -400000000 ≤ n ∧ n ≤ 400000000
  · by_cases h2 : -400000000 ≤ d ∧ d ≤ 400000000
    · by_cases h3 : d = 0
      · have hv : makR n d = (0, 0) := by unfold makR; rw [h3]; simp
        have HV := Lib.hid hv
        subst h3
        clear hv
        obtain ⟨n1, n2⟩ := h1
        go_enter Tryz.func38, Tryz.ntmps38
        go_wp2_with (first | (go_at_call 42; (first | refine (impl_IsNumber_yes _ _ (by omega)).mono ?_ | refine (impl_IsNumber_no _ _ (by omega)).mono ?_ | refine (impl_IsNumber _ _).mono ?_); rintro e w' ⟨rfl, rfl⟩))
        skip
        refine ret_Q (b := w.heap.size) (n := 0) (d := 0) Tryz.results38 rfl (by first | exact BQ.put hR3 | (with_reducible (repeat (first | assumption | refine Blk.new_at _ _ _ _ Ks | refine Blk.below ?_ (by assumption) Ks | apply Blk.drew | apply Blk.drewN | refine Blk.far ?_ (by simp only [ne_eq]; omega) _ | apply Blk.alloc)))) rfl ?_
        exact BV.mk (rV_mk HV.out) Kw
      · have hv : makR n d = lowR n d := by unfold makR; rw [(isNum_iff n).2 h1, (isNum_iff d).2 h2]; simp [h3]
        have HV := Lib.hid hv
        have h3b : (d == 0) = false := by simpa using h3
        have HD := Lib.hid h3
        clear hv h3
        obtain ⟨n1, n2⟩ := h1
        obtain ⟨d1, d2⟩ := h2
        go_enter Tryz.func38, Tryz.ntmps38
        go_wp2_with (first | (go_at_call 42; (first | refine (impl_IsNumber_yes _ _ (by omega)).mono ?_ | refine (impl_IsNumber_no _ _ (by omega)).mono ?_ | refine (impl_IsNumber _ _).mono ?_); rintro e w' ⟨rfl, rfl⟩))
        refine (impl_lowest n d HD.out (by omega) (by omega) _).mono ?_
        rintro e w3 ⟨rfl, hb3⟩
        have hR3 : BQ w3 w.heap.size 0 0 := by (with_reducible (repeat (first | assumption | refine Blk.new_at _ _ _ _ Ks | refine Blk.below ?_ (by assumption) Ks | apply Blk.drew | apply Blk.drewN | refine Blk.far ?_ (by simp only [ne_eq]; omega) _ | apply Blk.alloc)))
        have hbw3 : Below w.heap.size w w3 := Kw
        obtain ⟨sa, sb, sf, sl⟩ := hR3.cells
        unfold rV
        go_wp2_with fail
        refine ret_Q (b := w.heap.size) (n := (lowR n d).1) (d := (lowR n d).2) Tryz.results38 rfl (BQ.put hR3) rfl ?_
        refine BV.mk ?_ Kw
        exact (congrArg rV HV.out).symm
    · have hv : makR n d = (0, 0) := by unfold makR; rw [(isNum_not d).2 (by omega)]; simp
      have HV := Lib.hid hv
      have h4 : d < -400000000 ∨ 400000000 < d := by omega
      clear hv h2
      obtain ⟨n1, n2⟩ := h1
      rcases h4 with h4 | h4
      all_goals
        go_enter Tryz.func38, Tryz.ntmps38
        go_wp2_with (first | (go_at_call 42; (first | refine (impl_IsNumber_yes _ _ (by omega)).mono ?_ | refine (impl_IsNumber_no _ _ (by omega)).mono ?_ | refine (impl_IsNumber _ _).mono ?_); rintro e w' ⟨rfl, rfl⟩))
        refine ret_Q (b := w.heap.size) (n := 0) (d := 0) Tryz.results38 rfl (by (with_reducible (repeat (first | assumption | refine Blk.new_at _ _ _ _ Ks | refine Blk.below ?_ (by assumption) Ks | apply Blk.drew | apply Blk.drewN | refine Blk.far ?_ (by simp only [ne_eq]; omega) _ | apply Blk.alloc)))) rfl ?_
        exact BV.mk (rV_mk HV.out) Kw
  · have hv : makR n d = (0, 0) := by unfold makR; rw [(isNum_not n).2 (by omega)]; simp
    have HV := Lib.hid hv
    have h4 : n < -400000000 ∨ 400000000 < n := by omega
    clear hv h1
    rcases h4 with h4 | h4
    all_goals
      go_enter Tryz.func38, Tryz.ntmps38
      go_wp2_with (first | (go_at_call 42; (first | refine (impl_IsNumber_yes _ _ (by omega)).mono ?_ | refine (impl_IsNumber_no _ _ (by omega)).mono ?_ | refine (impl_IsNumber _ _).mono ?_); rintro e w' ⟨rfl, rfl⟩))
      refine ret_Q (b := w.heap.size) (n := 0) (d := 0) Tryz.results38 rfl (by (with_reducible (repeat (first | assumption | refine Blk.new_at _ _ _ _ Ks | refine Blk.below ?_ (by assumption) Ks | apply Blk.drew | apply Blk.drewN | refine Blk.far ?_ (by simp only [ne_eq]; omega) _ | apply Blk.alloc)))) rfl ?_
      exact BV.mk (rV_mk HV.out) Kw
end Go.Proofs.YtlggfmfelakadaaGreatDoor

/-
  DERIVED. l6Det of the reference; DeterminantOf, both sides.
-/
namespace Go.Proofs.YtlggfmfelakadaaGreatDoor
open Go.RowKit
set_option linter.unusedVariables false
set_option linter.unusedSimpArgs false
/-- The sign in column j. -/
def sgD (j : Nat) : Int := if j % 2 = 1 then -1 else 1
theorem sgD_succ (j : Nat) : sgD (j + 1) = -sgD j := by unfold sgD; split <;> split <;> omega
theorem sgD_bd (j : Nat) : -1 ≤ sgD j ∧ sgD j ≤ 1 := by unfold sgD; split <;> omega
theorem sgD_mul (j : Nat) (c : Int) : (if j % 2 = 1 then -c else c) = sgD j * c := by unfold sgD; split <;> omega
theorem sgD_cbd {j : Nat} {c : Int} (h : -400000000 ≤ c ∧ c ≤ 400000000) : -400000000 ≤ sgD j * c ∧ sgD j * c ≤ 400000000 := by rw [← sgD_mul]; split <;> omega
theorem detV_of {X : Option Int} {s : Int} (h : X = if isNum s then some s else none) : detV X = fit s := by
  subst h; unfold detV fit; split <;> rfl
def dtO (r c : Int) (xs : List Int) : Option Int := if isSq r c xs then detL r.toNat xs else none
/-- A number that may lack: 0 where it does, and the flag. -/
def ODV (o : Option Int) (w : World) (e : Ending) (w' : World) : Prop := e = .returned (.tuple #[.int .i64 (o.getD 0), .bool o.isSome]) ∧ Below w.heap.size w w'
theorem dtO_num {r c : Int} {xs : List Int} {d : Int} (h : dtO r c xs = some d) : Num d := by
  unfold dtO at h
  split at h
  · exact detL_num _ _ _ h
  · cases h
set_option maxHeartbeats 4000000 in
theorem impl_DeterminantOf (r c : Int) (A : Option Addr) (n cap : Nat) (xs : List Int) (w : World) {B : Nat} (h : RI w B A n xs) (hB : B ≤ w.heap.size) (hn : n ≤ 1048576) :
    Calls Tryz.prog 35 #[.agg #[.int .i64 r, .int .i64 c, .slice A n cap]] w (ODV (dtO r c xs) w) := by
  have H2 := Lib.hid (h.more hB)
  clear h
  rcases hq : isSq r c xs with _ | _
  · have hv : dtO r c xs = none := by unfold dtO; rw [hq]; rfl
    rw [hv]
    have HQ := Lib.hid hq
    clear hq hv
    go_enter Tryz.func35, Tryz.ntmps35
    go_wp2_with fail
    refine (impl_IsSquare r c A n cap xs _ (B := w.heap.size) (Kr H2.out) Ks hn).mono ?_
    rw [HQ.out]
    rintro e w1 ⟨rfl, hb1⟩
    have hbw : Below w.heap.size w w1 := Kw
    go_wp2_with fail
    go_ret2
    exact ⟨rfl, Kw⟩
  · have S := isSq_iff.1 hq
    have hv : dtO r c xs = detL r.toNat xs := by unfold dtO; rw [hq]; rfl
    rw [hv]
    obtain ⟨R, rfl⟩ := nat_of S.m.r0
    have hc := S.e
    subst hc
    have hR := S.le
    have HLX : Hid (xs.length = R * R) := Lib.hid (by have := S.m.len; rw [← Int.natCast_mul] at this; omega)
    have HNU := Lib.hid S.m.num
    have HQ := Lib.hid hq
    clear hq hv S
    simp only [Int.toNat_natCast]
    have HD : Hid (∀ w', RI w' w.heap.size A n xs → w.heap.size ≤ w'.heap.size → Calls Tryz.prog 67 #[.agg #[.int .i64 R, .int .i64 R, .slice A n cap]] w' (DetR (detL R xs) w')) := Lib.hid (fun w' k1 k2 => impl_determinant R A n cap xs w' k1 k2 HLX.out (by omega) HNU.out)
    have hdn := detL_num R xs
    generalize detL R xs = X at *
    rcases X with _ | d
    · skip
      go_enter Tryz.func35, Tryz.ntmps35
      go_wp2_with fail
      refine (impl_IsSquare R R A n cap xs _ (B := w.heap.size) (Kr H2.out) Ks hn).mono ?_
      rw [HQ.out]
      rintro e w1 ⟨rfl, hb1⟩
      have hsz1 := hb1.size
      (try simp at hsz1)
      have hM : BM w1 w.heap.size R R A n cap := Ka
      have hbw : Below w.heap.size w w1 := Kw
      have hri : RI w1 w.heap.size A n xs := Kr H2.out
      obtain ⟨ma, mb, mc, mf, ml⟩ := hM.mx
      go_wp2_with fail
      refine (HD.out _ (Kr hri) Ks).mono ?_
      rintro e w2 ⟨⟨v, rfl, -⟩, hb2⟩
      have hbw2 : Below w.heap.size w w2 := Kw
      go_wp2_with fail
      go_ret2
      exact ⟨rfl, Kw⟩
    · skip
      go_enter Tryz.func35, Tryz.ntmps35
      go_wp2_with fail
      refine (impl_IsSquare R R A n cap xs _ (B := w.heap.size) (Kr H2.out) Ks hn).mono ?_
      rw [HQ.out]
      rintro e w1 ⟨rfl, hb1⟩
      have hsz1 := hb1.size
      (try simp at hsz1)
      have hM : BM w1 w.heap.size R R A n cap := Ka
      have hbw : Below w.heap.size w w1 := Kw
      have hri : RI w1 w.heap.size A n xs := Kr H2.out
      obtain ⟨ma, mb, mc, mf, ml⟩ := hM.mx
      go_wp2_with fail
      refine (HD.out _ (Kr hri) Ks).mono ?_
      rintro e w2 ⟨⟨v, rfl, hv⟩, hb2⟩
      obtain rfl := hv d rfl
      have hbw2 : Below w.heap.size w w2 := Kw
      go_wp2_with fail
      go_ret2
      exact ⟨rfl, Kw⟩
end Go.Proofs.YtlggfmfelakadaaGreatDoor

/-
  DERIVED. The number with given residues has them, and is less than the product: no program in sight.
-/
namespace Go.Proofs.YtlggfmfelakadaaGreatDoor
set_option linter.unusedVariables false
theorem spF_gcd {p n : Int} {ms : List Int} (h : spF p (n :: ms) = true) : Int.gcd p n = 1 := by
  unfold spF at h
  split at h
  · cases h
  · split at h
    · cases h
    · rename_i h2
      exact Decidable.of_not_not h2
theorem chK_dvd {x p r n : Int} (hn : 2 ≤ n) (hn2 : n ≤ 400000000) (hg : Int.gcd p n = 1) : n ∣ x + p * chK x p r n - r := by
  obtain ⟨k, hk⟩ := invOf_spec (show 1 ≤ n by omega) hn2 hg
  unfold chK
  have e1 := Int.emod_add_mul_ediv ((r - x) * invOf p n) n
  generalize ((r - x) * invOf p n) / n = q at *
  have e2 : ((r - x) * invOf p n) % n = (r - x) * invOf p n - n * q := by omega
  rw [e2]
  refine ⟨(r - x) * k - p * q, ?_⟩
  have e3 : p * invOf p n = n * k + 1 := by omega
  have e4 : x + p * ((r - x) * invOf p n - n * q) - r = (r - x) * (p * invOf p n) - n * (p * q) - (r - x) := by grind
  rw [e4, e3]
  grind
theorem chF_spec : ∀ (ms rs : List Int) (x p : Int), 0 ≤ x → x < p → rs.length = ms.length → spF p ms = true →
    (chF x p rs ms).2 = ms.foldl (· * ·) p ∧ 0 ≤ (chF x p rs ms).1 ∧ (chF x p rs ms).1 < (chF x p rs ms).2 ∧ p ∣ (chF x p rs ms).1 - x ∧ ∀ i, i < ms.length → ms.getD i 0 ∣ (chF x p rs ms).1 - rs.getD i 0
  | [], rs, x, p, h0, h1, hl, hs => by
    have : rs = [] := List.length_eq_zero_iff.1 hl
    subst this
    exact ⟨rfl, h0, h1, by show p ∣ x - x; rw [Int.sub_self]; exact Int.dvd_zero _, fun i hi => absurd hi (Nat.not_lt_zero _)⟩
  | n :: ms, [], x, p, h0, h1, hl, hs => by simp at hl
  | n :: ms, r :: rs, x, p, h0, h1, hl, hs => by
    have hp : 1 ≤ p := by omega
    obtain ⟨s1, s2, s3, s4, s5⟩ := spF_cons hs hp
    obtain ⟨t1, t2, t3, t4⟩ := ch_step (r := r) h0 h1 s1 s3
    have hd := chK_dvd (x := x) (r := r) s1 s2 (spF_gcd hs)
    obtain ⟨i1, i2, i3, i4, i5⟩ := chF_spec ms rs (x + p * chK x p r n) (p * n) t3 t4 (by simpa using hl) s5
    show (chF (x + p * chK x p r n) (p * n) rs ms).2 = _ ∧ 0 ≤ (chF (x + p * chK x p r n) (p * n) rs ms).1 ∧ (chF (x + p * chK x p r n) (p * n) rs ms).1 < (chF (x + p * chK x p r n) (p * n) rs ms).2 ∧ p ∣ (chF (x + p * chK x p r n) (p * n) rs ms).1 - x ∧ ∀ i, i < (n :: ms).length → (n :: ms).getD i 0 ∣ (chF (x + p * chK x p r n) (p * n) rs ms).1 - (r :: rs).getD i 0
    generalize chF (x + p * chK x p r n) (p * n) rs ms = q at *
    generalize chK x p r n = k at *
    refine ⟨i1, i2, i3, ?_, fun i hi => ?_⟩
    · have e : q.1 - x = (q.1 - (x + p * k)) + p * k := by omega
      rw [e]
      exact Int.dvd_add (Int.dvd_trans ⟨n, rfl⟩ i4) ⟨k, rfl⟩
    · match i, hi with
      | 0, _ =>
        show n ∣ q.1 - r
        have e : q.1 - r = (q.1 - (x + p * k)) + (x + p * k - r) := by omega
        rw [e]
        exact Int.dvd_add (Int.dvd_trans ⟨p, by rw [Int.mul_comm]⟩ i4) hd
      | i + 1, hi =>
        have := i5 i (by simpa using hi)
        simpa using this
/-- What the number with given residues is. -/
theorem chV_spec {rs ms : List Int} (h : chB rs ms = true) : (chV rs ms).2 = ms.foldl (· * ·) 1 ∧ 0 ≤ (chV rs ms).1 ∧ (chV rs ms).1 < (chV rs ms).2 ∧ ∀ i, i < ms.length → ms.getD i 0 ∣ (chV rs ms).1 - rs.getD i 0 := by
  obtain ⟨h1, h2, h3, h4⟩ := chB_iff.1 h
  obtain ⟨i1, i2, i3, i4, i5⟩ := chF_spec ms rs 0 1 (by omega) (by omega) h3 h1
  unfold chV
  rw [if_pos h]
  exact ⟨i1, i2, i3, i5⟩
/-- The products are within the limit all along. -/
theorem spF_prod : ∀ (ms : List Int) (p : Int), 1 ≤ p → p ≤ 400000000 → spF p ms = true → (1 ≤ ms.foldl (· * ·) p ∧ ms.foldl (· * ·) p ≤ 400000000) ∧ ∀ i, i < ms.length → 2 ≤ ms.getD i 0 ∧ ms.getD i 0 ≤ 400000000
  | [], p, h1, h2, _ => ⟨⟨h1, h2⟩, fun i hi => absurd hi (Nat.not_lt_zero _)⟩
  | n :: ms, p, h1, h2, hs => by
    obtain ⟨s1, s2, s3, s4, s5⟩ := spF_cons hs h1
    obtain ⟨k1, k2⟩ := spF_prod ms (p * n) (by omega) s3 s5
    refine ⟨k1, fun i hi => ?_⟩
    match i, hi with
    | 0, _ => exact ⟨s1, s2⟩
    | i + 1, hi =>
      have := k2 i (by simpa using hi)
      simpa using this
theorem spF_take : ∀ (ms : List Int) (p : Int) (k : Nat), 1 ≤ p → p ≤ 400000000 → spF p ms = true → 1 ≤ (ms.take k).foldl (· * ·) p ∧ (ms.take k).foldl (· * ·) p ≤ 400000000
  | ms, p, 0, h1, h2, _ => by simpa using ⟨h1, h2⟩
  | [], p, k + 1, h1, h2, _ => by simpa using ⟨h1, h2⟩
  | n :: ms, p, k + 1, h1, h2, hs => by
    obtain ⟨s1, s2, s3, s4, s5⟩ := spF_cons hs h1
    exact spF_take ms (p * n) k (by omega) s3 s5
theorem symOf_spec {x m : Int} (hm : 1 ≤ m) : m ∣ x - symOf x m ∧ 2 * symOf x m ≤ m ∧ -m < 2 * symOf x m := by
  obtain ⟨b1, b2⟩ := emod_bds x m hm
  have e1 := Int.emod_add_mul_ediv x m
  unfold symOf
  split
  · rename_i h
    refine ⟨⟨x / m + 1, ?_⟩, by omega, by omega⟩
    rw [Int.mul_add, Int.mul_one]
    omega
  · rename_i h
    exact ⟨⟨x / m, by omega⟩, by omega, by omega⟩
end Go.Proofs.YtlggfmfelakadaaGreatDoor

/-
  DERIVED. The determinant by its first row, as a list, is that of the matrix: no program in sight.
-/
namespace Go.Proofs.YtlggfmfelakadaaGreatDoor
set_option linter.unusedVariables false
theorem tab_succ (n : Nat) (f : Nat → Int) : tab (n + 1) f = tab n f ++ [f n] := by
  unfold tab
  rw [List.range_succ, List.map_append]
  rfl
def wcG (xs : List Int) (C j : Nat) (q : Nat) : Int := cel xs C ((q / (C - 1) + 1 : Nat) : Int) (sk j (q % (C - 1)) : Nat)
def wcN (j k : Nat) : Nat := k - (if j < k then 1 else 0)
theorem wcK_tab_row {xs : List Int} {C j i : Nat} (hj : j < C) (hi : 1 ≤ i) (h0 : wcK xs C j (i * C) = tab ((i - 1) * (C - 1)) (wcG xs C j)) : ∀ k, k ≤ C → wcK xs C j (i * C + k) = tab ((i - 1) * (C - 1) + wcN j k) (wcG xs C j)
  | 0, _ => by
    have : wcN j 0 = 0 := by unfold wcN; omega
    rw [this, Nat.add_zero, Nat.add_zero]; exact h0
  | k + 1, hk => by
    have ih := wcK_tab_row hj hi h0 k (by omega)
    by_cases hc : k = j
    · have : wcN j (k + 1) = wcN j k := by unfold wcN; subst hc; rw [if_pos (by omega), if_neg (by omega)]; omega
      rw [wcK_no (by omega) (.inr hc), ih, this]
    · have e1 : wcN j (k + 1) = wcN j k + 1 := by unfold wcN; repeat' split
                                                  all_goals omega
      have e2 : wcN j k < C - 1 := by unfold wcN; split <;> omega
      have e3 : sk j (wcN j k) = k := by unfold sk wcN; repeat' split
                                         all_goals omega
      rw [wcK_yes (by omega) (by omega) hc, ih, e1, ← Nat.add_assoc, tab_succ]
      congr 2
      unfold wcG
      rw [(idx_div e2).1, (idx_div e2).2, e3, Nat.sub_add_cancel hi, cel_nat]
theorem wcK_tab {xs : List Int} {C j : Nat} (hj : j < C) : ∀ i, 1 ≤ i → wcK xs C j (i * C) = tab ((i - 1) * (C - 1)) (wcG xs C j)
  | 0, h => absurd h (by omega)
  | 1, _ => by
    have := wcK_len (xs := xs) hj 1
    rw [Nat.sub_self, Nat.zero_mul] at this ⊢
    exact List.length_eq_zero_iff.1 this
  | i + 2, _ => by
    have ih := wcK_tab (xs := xs) hj (i + 1) (by omega)
    have h := wcK_tab_row hj (by omega) ih C (Nat.le_refl _)
    have e : (i + 2) * C = (i + 1) * C + C := by rw [show i + 2 = (i + 1) + 1 by omega, Nat.add_mul (i + 1) 1 C, Nat.one_mul]
    have e2 : wcN j C = C - 1 := by unfold wcN; rw [if_pos hj]
    rw [e, h, e2]
    congr 1
    rw [show i + 1 - 1 = i by omega, show i + 2 - 1 = i + 1 by omega, Nat.add_mul, Nat.one_mul]
theorem wc_cel {xs : List Int} {n j a b : Nat} (hj : j < n + 1) (ha : a < n) (hb : b < n) : cel (wcK xs (n + 1) j ((n + 1) * (n + 1))) n a b = mnr (fun i j => cel xs (n + 1 : Nat) i j) j a b := by
  have h := wcK_tab (xs := xs) hj (n + 1) (by omega)
  rw [h, cel_nat, Nat.add_sub_cancel, tab_getD (idx_nat ha hb)]
  unfold wcG
  rw [Nat.add_sub_cancel, (idx_div hb).1, (idx_div hb).2]
  rfl
theorem wc_len {xs : List Int} {n j : Nat} (hj : j < n + 1) : (wcK xs (n + 1) j ((n + 1) * (n + 1))).length = n * n := by
  rw [wcK_len hj (n + 1), Nat.add_sub_cancel]
theorem detS_sum {n : Nat} {D : List Int → Option Int} (hD : ∀ ys d, ys.length = n * n → D ys = some d → d = Dt n (fun i j => cel ys n i j)) {xs : List Int} :
    ∀ j s, j ≤ n + 1 → detS D (n + 1) xs j = some s → s = sumTo (fun k => sg k * cel xs (n + 1 : Nat) (0 : Nat) k * Dt n (mnr (fun i j => cel xs (n + 1 : Nat) i j) k)) j
  | 0, s, _, h => by cases h; rfl
  | j + 1, s, hj, h => by
    have h' : (detS D (n + 1) xs j).bind (fun s => if xs.getD j 0 = 0 then some s else (D (wcK xs (n + 1) j ((n + 1) * (n + 1)))).bind fun d => some (s + (if j % 2 = 1 then -(xs.getD j 0) else xs.getD j 0) * d)) = some s := h
    rcases hs : detS D (n + 1) xs j with _ | s0
    · rw [hs] at h'; cases h'
    · rw [hs] at h'
      have ih := detS_sum hD j s0 (by omega) hs
      have ec : cel xs (n + 1 : Nat) (0 : Nat) j = xs.getD j 0 := by rw [cel_nat, Nat.zero_mul, Nat.zero_add]
      rw [sumTo_succ, ← ih, ec]
      simp only [Option.bind_some] at h'
      by_cases h0 : xs.getD j 0 = 0
      · rw [if_pos h0] at h'
        cases h'
        rw [h0]
        grind
      · rw [if_neg h0] at h'
        rcases hd : D (wcK xs (n + 1) j ((n + 1) * (n + 1))) with _ | d
        · rw [hd] at h'; cases h'
        · rw [hd] at h'
          simp only [Option.bind_some] at h'
          have e := hD _ d (wc_len (by omega)) hd
          have e2 : Dt n (fun a b => cel (wcK xs (n + 1) j ((n + 1) * (n + 1))) n a b) = Dt n (mnr (fun i j => cel xs (n + 1 : Nat) i j) j) := Dt_congr n fun a b ha hb => wc_cel (by omega) ha hb
          rw [e2] at e
          cases h'
          rw [e]
          unfold sg
          split
          · grind
          · grind
/-- The determinant that is found is the determinant. -/
theorem detL_Dt : ∀ (n : Nat) (xs : List Int) (d : Int), xs.length = n * n → detL n xs = some d → d = Dt n (fun i j => cel xs n i j)
  | 0, xs, d, _, h => by cases h; rfl
  | n + 1, xs, d, hl, h => by
    unfold detL at h
    rcases hs : detS (detL n) (n + 1) xs (n + 1) with _ | s
    · rw [hs] at h; cases h
    · rw [hs] at h
      simp only [Option.bind_some] at h
      split at h
      · cases h
        have := detS_sum (fun ys d hy hd => detL_Dt n ys d hy hd) (n + 1) _ (Nat.le_refl _) hs
        rw [this]
        rfl
      · cases h
end Go.Proofs.YtlggfmfelakadaaGreatDoor

/-
  DERIVED. The builtin copy of ints onto a window of an owned block.
-/
namespace Go.Proofs.YtlggfmfelakadaaGreatDoor
open Go.RowKit
set_option linter.unusedVariables false
theorem splL_nil (xs : List Int) (off : Nat) : splL xs off [] = xs := by simp [splL]
theorem run_copy_win (w : World) (B : Nat) (ty : TypeId) (Av : Option Addr) (n cap : Nat) (xs : List Int) (hown : OR w B (.slice Av n cap) xs) (off m dL dCap sCap : Nat) (hdL : m ≤ dL) (dp A : Option Addr) (C : Nat) (ys : List Int) (hr : RI w C A m ys)
    (hfit : off + m ≤ xs.length) (hd : 0 < m → dp = Av.map fun x => x.add off) :
    ∃ w', (Builtin.copy_ #[24, 24] ty #[.slice dp dL dCap, .slice A m sCap]).run Tryz.prog w = .ok (goInt m) w' ∧ OR w' B (.slice Av n cap) (splL xs off ys) ∧ w.grownBy w' (Value.slice Av n cap).ownBlock ∧ w.heap.size = w'.heap.size := by
  obtain ⟨i0, hi, hz0, hz1, hz2⟩ := info_parts int_info
  have hs : (Tryz.prog.info? 3).map (·.size) = some 1 := by rw [hi]; simp [hz1]
  have hl := hr.len
  by_cases h0 : m = 0
  · subst h0
    have hn : ys = [] := List.eq_nil_of_length_eq_zero hl
    subst hn
    refine ⟨w, ?_, by rw [splL_nil]; exact hown, World.grownBy.refl w _, rfl⟩
    exact run_copy_none (P := Tryz.prog) w 24 24 ty 3 dp A dL dCap 0 sCap Tryz.underlying24 hs (by simp)
  · obtain ⟨b, o, rfl, hbb, hc⟩ := hr.2 (by omega)
    rcases hown.2 with ⟨h1, h2⟩ | ⟨g, cap', cur, h1, hbg, hg, hnc, hcm, hcs, htake⟩
    · omega
    · injection h1 with e1 e2 e3
      subst e1; subst e2; subst e3
      have e4 := hd (by omega)
      simp only [Option.map_some, addr_add, Nat.zero_add] at e4
      subst e4
      have hcells : ∀ j u, (ys.map (Value.int .i64))[j]? = some u → w.cell? ((⟨b, o, none⟩ : Addr).add j) = some u := by
        intro j u hu
        have hj : j < ys.length := by
          have := (List.getElem?_eq_some_iff.1 hu).1
          simpa using this
        rw [addr_add, hc j (by omega)]
        simp [hj] at hu
        simp [List.getD, hj, hu]
      have hcz : cur.size = cap := by rw [hcs, Nat.mul_one]
      have hone : ∀ v ∈ ys.map (Value.int .i64), v.oneCell' = true := by
        intro u hu
        obtain ⟨y, _, rfl⟩ := List.mem_map.1 hu
        rfl
      have hrun := run_copy_row (P := Tryz.prog) w 24 24 ty 3 g off dL dCap ⟨b, o, none⟩ m sCap cur 3 (ys.map (Value.int .i64)) Tryz.underlying24 hs hg (by rw [List.length_map, hl]; exact (Nat.min_eq_left hdL).symm) hcells (by simp [hl]; omega) hone
      have e5 : (ys.map (Value.int .i64)).length = m := by simp [hl]
      rw [e5] at hrun
      refine ⟨_, hrun, ⟨by simp, .inr ⟨g, cap, _, by rw [splL_len (by omega)], hbg, setRow_heap w g cur _ _ _ hg, by rw [splL_len (by omega)]; exact hnc, hcm, ?_, ?_⟩⟩, ⟨rfl, rfl, rfl, by simp, fun k _ hk => setRow_other w g k _ (fun e => hk (by simp [Value.ownBlock, e]))⟩, by simp⟩
      · simp only [List.size_toArray, List.length_append, List.length_take, List.length_drop, Array.length_toList, e5]
        omega
      · have ht : cur.toList.take xs.length = xs.map (Value.int .i64) := by simpa using htake
        have e6 : cur.toList = xs.map (Value.int .i64) ++ cur.toList.drop xs.length := by rw [← ht, List.take_append_drop]
        rw [splL_len (by omega), Nat.mul_one]
        unfold splL
        rw [e6]
        have e7 : (xs.map (Value.int .i64)).length = xs.length := by simp
        rw [List.take_append_of_le_length (i := off) (l₁ := xs.map (Value.int .i64)) (by omega), List.drop_append_of_le_length (i := off + m) (l₁ := xs.map (Value.int .i64)) (by omega)]
        have e8 : (List.take off (xs.map (Value.int .i64)) ++ ys.map (Value.int .i64) ++ (List.drop (off + m) (xs.map (Value.int .i64)) ++ cur.toList.drop xs.length)) = (List.take off (xs.map (Value.int .i64)) ++ ys.map (Value.int .i64) ++ List.drop (off + m) (xs.map (Value.int .i64))) ++ cur.toList.drop xs.length := by simp only [List.append_assoc]
        rw [show ∀ l : List Value, l.toArray.toList = l from fun _ => rfl, e8, List.take_append_of_le_length (by simp [hl]; omega), List.take_of_length_le (by simp [hl]; omega)]
        simp [hl]
theorem OR.win {w : World} {B g n cap off m : Nat} {xs : List Int} (h : OR w B (.slice (some ⟨g, 0, none⟩) n cap) xs) (hf : off + m ≤ xs.length) : RI w (g + 1) (some ⟨g, off, none⟩) m (winL xs off m) :=
  ⟨winL_len hf, fun _ => ⟨g, off, rfl, by omega, fun k hk => by rw [winL_getD hk]; exact h.cell (off + k) (by omega)⟩⟩
section
variable (w : World)
theorem step_copy_win {ops : Array Oper} {o : Oper} {a : Act} {K : Act → World → Prop} {Q : Exit → Act → World → Prop} {E : Prop} (hgd : o.guard = none) (d s : Operand)
    (ho : o.op = .call { callee := .builtin .copy, args := #[d, s], argTypes := #[24, 24] })
    (B : Nat) (Av : Option Addr) (n cap : Nat) (xs : List Int) (hown : OR w B (.slice Av n cap) xs) (off m dL dCap sCap : Nat) (hdL : m ≤ dL) (dp A : Option Addr) (hdv : a.eval d = .slice dp dL dCap) (hsv : a.eval s = .slice A m sCap) (C : Nat) (ys : List Int) (hr : RI w C A m ys)
    (hfit : off + m ≤ xs.length) (hd : 0 < m → dp = Av.map fun x => x.add off)
    (h : ∀ w', OR w' B (.slice Av n cap) (splL xs off ys) → w.grownBy w' (Value.slice Av n cap).ownBlock → w.heap.size = w'.heap.size → K (a.put o.dst (goInt m)) w') :
    if Region.wanted o (yielded ops a.tmps) = true then Oper.wp Tryz.prog o a w K Q else E := by
  have hw : Region.wanted o (yielded ops a.tmps) = true := by simp [Region.wanted, hgd]
  rw [if_pos hw]
  obtain ⟨w', hrun, h2, h3, h4⟩ := run_copy_win w B o.type Av n cap xs hown off m dL dCap sCap hdL dp A C ys hr hfit hd
  unfold Oper.wp execOp
  simp only [ho, resolve, invoke, builtin, Sem.run_bind, Sem.run_pure, Result.andThen_ok, List.map_toArray, List.map_cons, List.map_nil, hdv, hsv, hrun]
  exact h w' h2 h3 h4
end
end Go.Proofs.YtlggfmfelakadaaGreatDoor

/-
  DERIVED. Slices of ints that are drawn: moduli, right sides.
-/
namespace Go.Proofs.YtlggfmfelakadaaGreatDoor
open Go.RowKit
set_option linter.unusedVariables false
set_option linter.unusedSimpArgs false
/-- What the call lays from block B0 on is a slice of at most lim ints. -/
def OIs (B0 lim : Nat) (w' : World) (v : Value) : Prop := ∃ A m c ys, v = .slice A m c ∧ OR w' B0 (.slice A m c) ys ∧ ys.length ≤ lim
theorem OIs.mk {B0 lim : Nat} {w' : World} {v : Value} {ys : List Int} (h : OR w' B0 v ys) (hl : ys.length ≤ lim) : OIs B0 lim w' v := by
  rcases h.form with ⟨h1, h2⟩ | ⟨g, cap, h1, _⟩ <;> subst h1 <;> exact ⟨_, _, _, ys, rfl, h, hl⟩
theorem CT.own {w0 w w' : World} {B b n cap : Nat} {A : Option Addr} {xs : List Int} {v : Value} {B1 : Nat} {ys : List Int} (h : CT w0 w B b n cap A xs) (hg : w.grownBy w' v.ownBlock) (ho : OR w B1 v ys) (hB : w0.heap.size ≤ B1) : CT w0 w' B b n cap A xs :=
  h.below (only_below hg (Nat.le_trans h.size (Nat.le_refl _)) fun g e => by have := (ho.own g e).1; omega) (Nat.le_refl _)
/-- The turning of the cursor keeps what is owned above it. -/
theorem OR.turned {w w' : World} {B B1 b n cap : Nat} {A : Option Addr} {xs ys : List Int} {v : Value} (h : OR w B1 v ys) (hc : CT w w' B b n cap A xs) (hb : b < B1) : OR w' B1 v ys :=
  h.kept hc.gr (.inr fun e => by have := (h.own b e).1; omega)
set_option maxRecDepth 100000 in
set_option maxHeartbeats 4000000 in
theorem spec_l8Right (b n cap : Nat) (A : Option Addr) (xs : List Int) (m : Int) (w : World) {B : Nat} (hct : CT w w B b n cap A xs) (hm : m ≤ 1000) :
    Calls Tryz.prog 51 #[.pointer (some ⟨b, 0, none⟩), .int .i64 m] w (DRV (OIs w.heap.size (m.toNat + 1)) B b n cap A xs w) := by
  have hsz := hct.size
  have hb := hct.hb
  go_enter Tryz.func51, Tryz.ntmps51
  go_wp2_with fail
  have ho : OR (w.alloc (.cells #[] 3)) w.heap.size (.slice (some ⟨w.heap.size, 0, none⟩) 0 0) [] := OR.empty w (Nat.le_refl _)
  go_loopw [5, 6] (fun u v wr => ∃ (k : Nat) (ys : List Int), v = .int .i64 k ∧ k ≤ m.toNat ∧ OR wr w.heap.size u ys ∧ ys.length = k ∧ CT w wr B b n cap A xs) (fun _ v _ => m.toNat - (intOf v).toNat)
  case atStart => exact ⟨0, [], rfl, by omega, ho, rfl, by (with_reducible (repeat (first | exact hct | refine CT.drew ?_ | refine CT.drewN ?_ _ | refine CT.alloc ?_ _ | refine CT.far ?_ Ks _ | refine CT.below ?_ (by assumption) Ks)))⟩
  case round =>
    clear hct ho
    obtain ⟨k, ys, rfl, hk0, ho, hl, hct⟩ := hrel
    have HL := Lib.hid hl
    have hl2 : ys.length ≤ 1000 := by omega
    clear hl
    have hsz := hct.size
    by_cases hk : (k : Int) < m
    · go_wp2_with (first | (go_at_call 77; refine (spec_l1Num b n cap A xs 9 _ (CT.self (w0 := w) (B := B) (by (with_reducible (repeat (first | exact hct | refine CT.drew ?_ | refine CT.drewN ?_ _ | refine CT.alloc ?_ _ | refine CT.far ?_ Ks _ | refine CT.below ?_ (by assumption) Ks))))) (by omega)).mono ?_; rintro e w1 ⟨v, rfl, ⟨x, rfl, hx0, hx1⟩, hc1⟩; have hct_1 : CT w w1 B b n cap A xs := CT.trans (by (with_reducible (repeat (first | exact hct | refine CT.drew ?_ | refine CT.drewN ?_ _ | refine CT.alloc ?_ _ | refine CT.far ?_ Ks _ | refine CT.below ?_ (by assumption) Ks)))) hc1; (first | have ho_1 := OR.turned ho hc1 hb | have ho_1 := OR.turned (OR.alloc ho _) hc1 hb | have ho_1 := OR.turned (OR.drew ho) hc1 hb); clear hct ho hc1; have hct := hct_1; have ho := ho_1; clear hct_1 ho_1; have hsz := hct.size) | (at_builtin; refine wpList_append_one _ rfl (.tmp 13) (.tmp 16) rfl w.heap.size _ _ rfl (ho.alloc _) _ x rfl ?f1 ?f2 ?f3 ?_; (case f1 => (simp [go_sem])); (case f2 => omega); (case f3 => (simp; omega)); intro v1 w2 hown1 hgr hat; (have hct_1 : CT w w2 B b n cap A xs := CT.own (by (with_reducible (repeat (first | exact hct | refine CT.drew ?_ | refine CT.drewN ?_ _ | refine CT.alloc ?_ _ | refine CT.far ?_ Ks _ | refine CT.below ?_ (by assumption) Ks)))) hgr (ho.alloc _) (Nat.le_refl _)); clear hct ho hgr hat; have hct := hct_1; have ho := hown1; clear hct_1 hown1; have hsz := hct.size))
      go_roundw
      case rel => exact ⟨k + 1, _, by go_num, by omega, ho, by simp [HL.out], hct⟩
      case measure => simp only [intOf]; omega
    · go_wp2_with (first | (go_at_call 75; refine (spec_l1Once b n cap A xs 24 _ (CT.self (w0 := w) (B := B) (by (with_reducible (repeat (first | exact hct | refine CT.drew ?_ | refine CT.drewN ?_ _ | refine CT.alloc ?_ _ | refine CT.far ?_ Ks _ | refine CT.below ?_ (by assumption) Ks)))))).mono ?_; rintro e w1 ⟨v, rfl, ⟨q, rfl⟩, hc1⟩; have hct_1 : CT w w1 B b n cap A xs := CT.trans (by (with_reducible (repeat (first | exact hct | refine CT.drew ?_ | refine CT.drewN ?_ _ | refine CT.alloc ?_ _ | refine CT.far ?_ Ks _ | refine CT.below ?_ (by assumption) Ks)))) hc1; (first | have ho_1 := OR.turned ho hc1 hb | have ho_1 := OR.turned (OR.alloc ho _) hc1 hb | have ho_1 := OR.turned (OR.drew ho) hc1 hb); clear hct ho hc1; have hct := hct_1; have ho := ho_1; clear hct_1 ho_1; have hsz := hct.size) | (at_builtin; refine wpList_append_one _ rfl (.tmp 20) (.tmp 21) rfl w.heap.size _ _ rfl (ho.alloc _) _ 1 rfl ?f1 ?f2 ?f3 ?_; (case f1 => (simp [go_sem])); (case f2 => omega); (case f3 => (simp; omega)); intro v1 w2 hown1 hgr hat; (have hct_1 : CT w w2 B b n cap A xs := CT.own (by (with_reducible (repeat (first | exact hct | refine CT.drew ?_ | refine CT.drewN ?_ _ | refine CT.alloc ?_ _ | refine CT.far ?_ Ks _ | refine CT.below ?_ (by assumption) Ks)))) hgr (ho.alloc _) (Nat.le_refl _)); clear hct ho hgr hat; have hct := hct_1; have ho := hown1; clear hct_1 hown1; have hsz := hct.size))
      all_goals go_ret
      all_goals exact ⟨_, rfl, OIs.mk ho (by have := HL.out; first | omega | (simp; omega)), by (with_reducible (repeat (first | exact hct | refine CT.drew ?_ | refine CT.drewN ?_ _ | refine CT.alloc ?_ _ | refine CT.far ?_ Ks _ | refine CT.below ?_ (by assumption) Ks)))⟩
end Go.Proofs.YtlggfmfelakadaaGreatDoor

/-
  DERIVED. Slices of ratios: their cells, flat; the laws' helpers toRatioS, szRatioS, eqRatioS, markRatioS, heldRatioS.
-/
namespace Go.Proofs.YtlggfmfelakadaaGreatDoor
open Go.RowKit
set_option linter.unusedVariables false
set_option linter.unusedSimpArgs false
theorem ratio_info : (Tryz.prog.info? 38).map (fun i => (i.zero, i.size, i.bytes)) = some (some (.agg #[.int .i64 0, .int .i64 0]), 2, 16) := by kernel_rfl
/-- From block B on, the slice value v owns just n ratios, whose cells are xs. -/
def OF (w : World) (B : Nat) (v : Value) (n : Nat) (xs : List Int) : Prop := w.ownsRow B 38 2 v n (xs.map (Value.int .i64))
section
variable {w w' : World} {B n : Nat} {v : Value} {xs : List Int}
theorem OF.len (h : OF w B v n xs) : xs.length = n * 2 := by have := h.1; simpa using this
theorem OF.form (h : OF w B v n xs) : (v = .slice none 0 0 ∧ n = 0) ∨ ∃ g cap, v = .slice (some ⟨g, 0, none⟩) n cap ∧ B ≤ g ∧ g < w.heap.size ∧ n ≤ cap ∧ cap ≤ maxLen := by
  rcases h.2 with ⟨h1, h2⟩ | ⟨g, cap, cur, h1, h2, h3, h4, h5, _⟩
  · exact .inl ⟨h1, h2⟩
  · refine .inr ⟨g, cap, h1, h2, ?_, h4, h5⟩
    rcases Nat.lt_or_ge g w.heap.size with hlt | hge
    · exact hlt
    · rw [Array.getElem?_eq_none hge] at h3; cases h3
theorem OF.kept {row : Option Nat} (h : OF w B v n xs) (hg : w.grownBy w' row) (hne : v.ownBlock = none ∨ v.ownBlock ≠ row) : OF w' B v n xs := World.ownsRow.kept h hg hne
theorem OF.alloc (h : OF w B v n xs) (o : Obj) : OF (w.alloc o) B v n xs := World.ownsRow.alloc h o
theorem OF.drew (h : OF w B v n xs) : OF w.drew B v n xs := h
theorem OF.drewN (h : OF w B v n xs) (k : Nat) : OF (w.drewN k) B v n xs := h
theorem OF.below {C : Nat} (h : OF w B v n xs) (hb : Below C w w') (hC : w.heap.size ≤ C) : OF w' B v n xs :=
  h.kept (row := none) ⟨hb.os, hb.tape, hb.output, hb.size, fun k hk _ => hb.block k (by omega)⟩ (by cases v.ownBlock <;> simp)
theorem OF.far (h : OF w B v n xs) {p : Addr} (hp : v.ownBlock ≠ some p.block) (u : Value) : OF (w.setCell p u) B v n xs :=
  h.kept (row := some p.block) ⟨rfl, rfl, rfl, by simp [World.setCell], fun k hk hne => Below.heap_setCell w p u k (fun e => hne (by rw [e]))⟩ (.inr hp)
theorem OF.mono {B' : Nat} (h : OF w B v n xs) (hB : B' ≤ B) : OF w B' v n xs := by
  refine ⟨h.1, ?_⟩
  rcases h.2 with h1 | ⟨g, cap, cur, h1, h2, h3⟩
  · exact .inl h1
  · exact .inr ⟨g, cap, cur, h1, by omega, h3⟩
theorem OF.low (h : OF w B v n xs) {p : Addr} (hp : p.block < B) (u : Value) : OF (w.setCell p u) B v n xs := ownsRow_setCell_below h hp u
theorem OF.own (h : OF w B v n xs) : Own v B w.heap.size := by
  intro g hg
  rcases h.form with ⟨h1, h2⟩ | ⟨g', cap', h1, h2, h3, _⟩
  · subst h1; cases hg
  · subst h1
    have e : g' = g := by simpa [Value.ownBlock] using hg
    subst e; exact ⟨h2, h3⟩
theorem OF.b_ {w w' : World} {B C n : Nat} {v : Value} {xs : List Int} (h : OF w B v n xs) (hb : Below C w w' := by assumption) (hC : w.heap.size ≤ C := by first | omega | (simp; done) | (simp; omega)) : OF w' B v n xs := OF.below h hb hC
theorem OF.l_ {w : World} {B n : Nat} {v u : Value} {xs : List Int} {p : Addr} (h : OF w B v n xs) (hp : p.block < B := by first | omega | (simp only []; omega) | (simp; omega)) : OF (w.setCell p u) B v n xs := OF.low h hp u
theorem OF.keptOwn {sv : Value} {lo hi lo' hi' : Nat} (h : OF w B v n xs) (hg : w.grownBy w' sv.ownBlock) (a : Own v lo hi) (b : Own sv lo' hi') (hd : hi ≤ lo' ∨ hi' ≤ lo) : OF w' B v n xs := by
  refine h.kept hg ?_
  cases h1 : v.ownBlock with
  | none => exact .inl rfl
  | some g =>
    refine .inr fun e => ?_
    have h2 := a g h1
    have h3 := b g e.symm
    omega
theorem OF.as {ys : List Int} (h : OF w B v n xs) (e : xs = ys) : OF w B v n ys := e ▸ h
theorem OF.nil_ (w : World) (B : Nat) : OF w B (.slice none 0 0) 0 [] := World.ownsRow_nil w B _ _
variable {g cap : Nat} {A : Option Addr} {m : Nat}
theorem OF.lenEq (h : OF w B (.slice A m cap) n xs) : m = n := by
  rcases h.form with ⟨h1, h2⟩ | ⟨g, cap', h1, h2, h3, _⟩
  · injection h1 with e1 e2 e3; omega
  · injection h1
theorem OF.cnt (h : OF w B (.slice A m cap) n xs) : OF w B (.slice A m cap) m xs := by
  have h1 := h.lenEq
  subst h1
  exact h
theorem OF.caps (h : OF w B (.slice A m cap) n xs) : m ≤ cap ∧ cap ≤ 9223372036854775807 := by
  rcases h.form with ⟨h1, h2⟩ | ⟨g, cap', h1, h2, h3, h4, h5⟩
  · injection h1 with e1 e2 e3; omega
  · injection h1 with e1 e2 e3
    unfold maxLen at h5
    omega
theorem OF.begins (h : OF w B (.slice A m cap) n xs) (hp : 0 < n) : ∃ g, A = some ⟨g, 0, none⟩ ∧ B ≤ g ∧ g < w.heap.size := by
  rcases h.form with ⟨h1, h2⟩ | ⟨g, cap', h1, h2, h3, _⟩
  · omega
  · injection h1 with e1 e2 e3
    exact ⟨g, e1, h2, h3⟩
theorem OF.cell (h : OF w B (.slice (some ⟨g, 0, none⟩) m cap) n xs) (k : Nat) (hk : k < n * 2) : w.cell? ⟨g, k, none⟩ = some (.int .i64 (xs.getD k 0)) := by
  have hn := h.lenEq
  subst hn
  have hl := h.len
  have := World.ownsRow.cellAt h k hk
  rw [this]
  simp [show k < xs.length by omega]
theorem OF.frozen (h : OF w B (.slice (some ⟨g, 0, none⟩) m cap) n xs) (k : Nat) : w.frozen? ⟨g, k, none⟩ = false := by
  have hn := h.lenEq
  subst hn
  exact World.ownsRow.frozenAt h k
theorem OF.set_ (h : OF w B (.slice (some ⟨g, 0, none⟩) m cap) n xs) (k : Nat) (u : Int) : OF (w.setCell ⟨g, k, none⟩ (.int .i64 u)) B (.slice (some ⟨g, 0, none⟩) m cap) n (xs.set k u) := by
  have hn := h.lenEq
  subst hn
  have := (World.ownsRow.stored h k (.int .i64 u)).1
  unfold OF
  rw [List.map_set]
  exact this
theorem OF.reads (h : OF w B (.slice A m cap) n xs) : RI w w.heap.size A (m * 2) xs := by
  have hl := h.len
  have hm := h.lenEq
  rcases h.form with ⟨h1, h2⟩ | ⟨g, cap', h1, h2, h3, _⟩
  · injection h1 with e1 e2 e3
    subst e2
    have hx : xs = [] := List.eq_nil_of_length_eq_zero (by omega)
    subst hx
    exact RI.nil_ _ _ _
  · injection h1 with e1 e2 e3
    subst e1; subst e2
    exact ⟨hl, fun hn => ⟨g, 0, rfl, h3, fun k hk => by rw [Nat.zero_add]; exact h.cell k hk⟩⟩
end
theorem made_ratios (n : Nat) : (madeCells #[Value.int .i64 0, Value.int .i64 0] (n * 2)).toList = (List.replicate (n * 2) (0 : Int)).map (Value.int .i64) := by
  rw [List.map_replicate]
  apply List.ext_getElem?
  intro i
  simp only [madeCells]
  by_cases hi : i < n * 2
  · have h2 : i % 2 = 0 ∨ i % 2 = 1 := by omega
    rcases h2 with h2 | h2 <;> simp [hi, h2]
  · simp [hi]
theorem OF.of_made {w : World} {B g n : Nat} (h : w.ownsRow B 38 2 (.slice (some ⟨g, 0, none⟩) n n) n (madeCells #[Value.int .i64 0, Value.int .i64 0] (n * 2)).toList) :
    OF w B (.slice (some ⟨g, 0, none⟩) n n) n (List.replicate (n * 2) 0) := by
  unfold OF
  rw [← made_ratios]
  exact h
/-- The call returned n ratios of its own. -/
def QR (n : Nat) (xs : List Int) (w : World) (e : Ending) (w' : World) : Prop := ∃ A m cap, e = .returned (.slice A m cap) ∧ OF w' w.heap.size (.slice A m cap) n xs ∧ Below w.heap.size w w'
theorem iota_flat {k : Int} {n j : Nat} (h : j < n) : (iota k n).getD j 0 = k + j := iota_getD h
/-- The call returned the int, having written just the block of an own slice of n ratios, which now holds ys. -/
def WF (k : Int) (sv : Value) (B n : Nat) (ys : List Int) (w : World) (e : Ending) (w' : World) : Prop :=
  e = .returned (.int .i64 k) ∧ OF w' B sv n ys ∧ w.grownBy w' sv.ownBlock ∧ w.heap.size ≤ w'.heap.size
theorem run_append_ratio (w : World) (B : Nat) (ty : TypeId) (v : Value) (n : Nat) (xs : List Int) (hown : OF w B v n xs) (g : Nat) (x y : Int) (c0 : w.cell? ⟨g, 0, none⟩ = some (.int .i64 x)) (c1 : w.cell? ⟨g, 1, none⟩ = some (.int .i64 y)) (h63 : n ≤ 1000000000) (hbase : B ≤ w.heap.size) :
    ∃ v' w', (Builtin.append_ #[34, 34] ty #[v, .slice (some ⟨g, 0, none⟩) 1 1]).run Tryz.prog w = .ok v' w' ∧ OF w' B v' (n + 1) (xs ++ [x, y]) ∧ w.grownBy w' v.ownBlock ∧ (v'.ownBlock = v.ownBlock ∨ v'.ownBlock = some w.heap.size) := by
  obtain ⟨i0, hi, hz0, hz1, hz2⟩ := info_parts ratio_info
  have hcells : ∀ j u, ([Value.int .i64 x, Value.int .i64 y] : List Value)[j]? = some u → w.cell? ((⟨g, 0, none⟩ : Addr).add j) = some u := by
    intro j u hu
    rw [addr_add, Nat.zero_add]
    match j, hu with
    | 0, hu => simp at hu; subst hu; exact c0
    | 1, hu => simp at hu; subst hu; exact c1
    | j + 2, hu => simp at hu
  obtain ⟨v', w', hrun, h2, h3, _, h5⟩ := run_append_own_at (P := Tryz.prog) w B 34 ty 38 i0 (.agg #[.int .i64 0, .int .i64 0]) 2 16 Tryz.underlying34 hi hz0 hz1 hz2 rfl (by omega) v n (xs.map (Value.int .i64)) hown ⟨g, 0, none⟩ 1 1 [.int .i64 x, .int .i64 y] rfl hcells (by
    intro u hu
    simp at hu
    rcases hu with rfl | rfl <;> rfl) (by unfold maxLen; omega) (by omega) hbase
  refine ⟨v', w', hrun, ?_, h3, h5⟩
  unfold OF
  rw [List.map_append]
  exact h2
section
variable (w : World)
theorem step_append_ratio {ops : Array Oper} {o : Oper} {a : Act} {K : Act → World → Prop} {Q : Exit → Act → World → Prop} {E : Prop} (hgd : o.guard = none) (s z : Operand)
    (ho : o.op = .call { callee := .builtin .append, args := #[s, z], argTypes := #[34, 34] })
    (B : Nat) (v : Value) (n : Nat) (xs : List Int) (hs : a.eval s = v) (hown : OF w B v n xs) (g : Nat) (x y : Int) (hz : a.eval z = .slice (some ⟨g, 0, none⟩) 1 1) (c0 : w.cell? ⟨g, 0, none⟩ = some (.int .i64 x)) (c1 : w.cell? ⟨g, 1, none⟩ = some (.int .i64 y)) (h63 : n ≤ 1000000000) (hbase : B ≤ w.heap.size)
    (h : ∀ v' w', OF w' B v' (n + 1) (xs ++ [x, y]) → w.grownBy w' v.ownBlock → (v'.ownBlock = v.ownBlock ∨ v'.ownBlock = some w.heap.size) → K (a.put o.dst v') w') :
    if Region.wanted o (yielded ops a.tmps) = true then Oper.wp Tryz.prog o a w K Q else E := by
  have hw : Region.wanted o (yielded ops a.tmps) = true := by simp [Region.wanted, hgd]
  rw [if_pos hw]
  obtain ⟨v', w', hrun, h2, h3, h4⟩ := run_append_ratio w B o.type v n xs hown g x y c0 c1 h63 hbase
  unfold Oper.wp execOp
  simp only [ho, resolve, invoke, builtin, Sem.run_bind, Sem.run_pure, Result.andThen_ok, List.map_toArray, List.map_cons, List.map_nil, hs, hz, hrun]
  exact h v' w' h2 h3 h4
end
theorem OF.shape {w : World} {B n : Nat} {v : Value} {xs : List Int} (h : OF w B v n xs) : ∃ A c, v = .slice A n c := by
  rcases h.form with ⟨h1, h2⟩ | ⟨g, c, h1, _⟩
  · subst h2; exact ⟨_, _, h1⟩
  · exact ⟨_, _, h1⟩
theorem OF.empty (w : World) (g : Nat) (hg : g = w.heap.size) {B : Nat} (hB : B ≤ w.heap.size) : OF (w.alloc (.cells #[] 38)) B (.slice (some ⟨g, 0, none⟩) 0 0) 0 [] := by
  subst hg
  exact World.ownsRow_made (base := B) (e := 38) (size := 2) w #[] 0 hB (by unfold maxLen; omega) rfl
theorem OF.ne_low {w : World} {B n b : Nat} {v : Value} {xs : List Int} (h : OF w B v n xs) (hb : b < B) : some b ≠ v.ownBlock := fun e => by
  have := (h.own b e.symm).1; omega
theorem OF.below_grown {w w' : World} {B n : Nat} {v : Value} {xs : List Int} (h : OF w B v n xs) (hg : w.grownBy w' v.ownBlock) (hB : B ≤ w.heap.size) : Below B w w' :=
  only_below hg hB fun g e => (h.own g e).1
/-- The call returned n ratios of its own and the flag. -/
def QBR (n : Nat) (xs : List Int) (b : Bool) (w : World) (e : Ending) (w' : World) : Prop := ∃ A m cap, e = .returned (.tuple #[.slice A m cap, .bool b]) ∧ OF w' w.heap.size (.slice A m cap) n xs ∧ Below w.heap.size w w'
end Go.Proofs.YtlggfmfelakadaaGreatDoor

/-
  DERIVED. append of a ratio, in a region that keeps its order.
-/
namespace Go.Proofs.YtlggfmfelakadaaGreatDoor
open Go.RowKit
set_option linter.unusedVariables false
set_option linter.unusedSimpArgs false
theorem wpList_append_ratio (w : World) {ops : Array Oper} {rest : List Oper} {o : Oper} {a : Act} {Q : Exit → Act → World → Prop} (hgd : o.guard = none) (s z : Operand)
    (ho : o.op = .call { callee := .builtin .append, args := #[s, z], argTypes := #[34, 34] })
    (B : Nat) (v : Value) (n : Nat) (xs : List Int) (hs : a.eval s = v) (hown : OF w B v n xs) (g : Nat) (x y : Int) (hz : a.eval z = .slice (some ⟨g, 0, none⟩) 1 1) (c0 : w.cell? ⟨g, 0, none⟩ = some (.int .i64 x)) (c1 : w.cell? ⟨g, 1, none⟩ = some (.int .i64 y)) (h63 : n ≤ 1000000000) (hbase : B ≤ w.heap.size)
    (h : ∀ v' w', OF w' B v' (n + 1) (xs ++ [x, y]) → w.grownBy w' v.ownBlock → (v'.ownBlock = v.ownBlock ∨ v'.ownBlock = some w.heap.size) → wpList Tryz.prog ops Q rest (a.put o.dst v') w') : wpList Tryz.prog ops Q (o :: rest) a w :=
  wpList_plain hgd fun _ hK => by
    obtain ⟨v', w', hrun, h2, h3, h4⟩ := run_append_ratio w B o.type v n xs hown g x y c0 c1 h63 hbase
    unfold Oper.wp execOp
    simp only [ho, resolve, invoke, builtin, Sem.run_bind, Sem.run_pure, Result.andThen_ok, List.map_toArray, List.map_cons, List.map_nil, hs, hz, hrun]
    exact hK _ _ (h v' w' h2 h3 h4)
end Go.Proofs.YtlggfmfelakadaaGreatDoor

/-
  DERIVED. The laws' sameRatios of two equal lists.
-/
namespace Go.Proofs.YtlggfmfelakadaaGreatDoor
open Go.RowKit
set_option linter.unusedVariables false
set_option linter.unusedSimpArgs false
set_option maxRecDepth 100000 in
set_option maxHeartbeats 4000000 in
theorem laws_sameRatios (A A' : Option Addr) (n c d : Nat) (xs : List Int) (w : World) {C C' : Nat} (h : RI w C A (n * 2) xs) (h' : RI w C' A' (n * 2) xs) (hC : C ≤ w.heap.size) (hC' : C' ≤ w.heap.size) (hn : n ≤ 1048576) :
    Calls Tryz.prog 16 #[.slice A n c, .slice A' n d] w (BV (.bool true) w) := by
  have H := Lib.hid (h.more hC)
  have H' := Lib.hid (h'.more hC')
  have hb : ((n : Int) != (n : Int)) = false := by simp
  clear h h'
  go_enter Tryz.func16, Tryz.ntmps16
  go_wp2_with fail
  go_loopw [5] (fun v wr => ∃ k : Nat, v = .int .i64 k ∧ k ≤ n ∧ Below w.heap.size w wr) (fun v _ => n - (intOf v).toNat)
  case atStart => exact ⟨0, rfl, Nat.zero_le _, Below.refl _ _⟩
  case round =>
    obtain ⟨k, rfl, hk, hbw⟩ := hrel
    have hszw := hbw.size
    by_cases hlt : k < n
    · obtain ⟨b, o, rfl, hbb, hcells⟩ := H.out.2 (by omega)
      obtain ⟨b', o', rfl, hbb', hcells'⟩ := H'.out.2 (by omega)
      have hc1 := (hbw.cell (p := ⟨b, o + k * 2, none⟩) hbb).trans (hcells (k * 2) (by omega))
      have hc2 := (hbw.cell (p := ⟨b, o + k * 2 + 1, none⟩) hbb).trans (hcells (k * 2 + 1) (by omega))
      have hc3 := (hbw.cell (p := ⟨b', o' + k * 2, none⟩) hbb').trans (hcells' (k * 2) (by omega))
      have hc4 := (hbw.cell (p := ⟨b', o' + k * 2 + 1, none⟩) hbb').trans (hcells' (k * 2 + 1) (by omega))
      clear hcells hcells'
      generalize xs.getD (k * 2) 0 = x at *
      generalize xs.getD (k * 2 + 1) 0 = y at *
      go_wp2_with fail
      go_quiet (fail)
      go_wp2_with fail
      go_roundw
      case rel => exact ⟨k + 1, by go_num, by omega, Kw⟩
      case measure => simp only [intOf]; omega
    · go_wp2
      go_ret
      exact BV.mk rfl hbw
end Go.Proofs.YtlggfmfelakadaaGreatDoor

/-
  DERIVED. Several small texts in one: EchT, SolD, PlEcL, RankI, SolDS, EchL, PlDb, PlainV, PlainS, PlIm, PlainX, PlIm2, PlLi.
-/
import Derived.Test.YtlggfmfelakadaaGreatDoorc7
import Derived.Test.YtlggfmfelakadaaGreatDoorc4
import Derived.Test.YtlggfmfelakadaaGreatDoorElimx
import Derived.Test.YtlggfmfelakadaaGreatDoorc2
import Derived.Test.YtlggfmfelakadaaGreatDoorc3
import Derived.Test.YtlggfmfelakadaaGreatDoorRatAx
import Derived.Test.YtlggfmfelakadaaGreatDoorc5
import Derived.Test.YtlggfmfelakadaaGreatDoorRedx
import Derived.Test.YtlggfmfelakadaaGreatDoorRatioFromx
/-
  DERIVED. What EchelonOf returns; makePrimitive on a row.
-/
namespace Go.Proofs.YtlggfmfelakadaaGreatDoor
open Go.RowKit
set_option linter.unusedVariables false
set_option linter.unusedSimpArgs false
theorem ret_MTT' {fn : Func} {R : Ending → World → Prop} {a : Act} {w : World} {t s s2 : Tmp} {b n cap : Nat} {r c : Int} {A : Option Addr} (hr : fn.results = #[.cell t 26, .tmp s, .tmp s2])
    (ht : a.tmps.getD t undef = .pointer (some ⟨b, 0, none⟩)) (h : BM w b r c A n cap) (hd : a.defers = []) (hR : R (.returned (.tuple #[.agg #[.int .i64 r, .int .i64 c, .slice A n cap], a.tmps.getD s undef, a.tmps.getD s2 undef])) w) : bodyPost Tryz.prog fn R .ret a w :=
  bodyPost_ret (v := .tuple #[.agg #[.int .i64 r, .int .i64 c, .slice A n cap], a.tmps.getD s undef, a.tmps.getD s2 undef]) (by
    obtain ⟨r0, r1, r2, rf, rl⟩ := h.mx
    have ht' := ht
    simp only [Array.getD_eq_getD_getElem?] at ht'
    simp [results, hr, ht', go_sem, r0, r1, r2]) hd hR
theorem OR.shape' {w : World} {B : Nat} {v : Value} {xs : List Int} (h : OR w B v xs) : ∃ A c, v = .slice A xs.length c := by
  rcases h.form with ⟨h1, h2⟩ | ⟨g, c, h1, _⟩
  · subst h2; exact ⟨_, _, h1⟩
  · exact ⟨_, _, h1⟩
/-- The call returned this matrix, this list and the flag: each its own, and apart. -/
def MIBR (m : Mx) (ps : List Int) (b : Bool) (w : World) (e : Ending) (w' : World) : Prop :=
  ∃ A n cap P k c, e = .returned (.tuple #[.agg #[.int .i64 m.r, .int .i64 m.c, .slice A n cap], .slice P k c, .bool b]) ∧ OR w' w.heap.size (.slice A n cap) m.xs ∧ OR w' w.heap.size (.slice P k c) ps ∧ Apart (.slice A n cap) (.slice P k c) ∧ Below w.heap.size w w'
def eoX (r c : Int) (xs : List Int) : Option QSt := if isMat r c xs then echQ r.toNat c.toNat (fun i j => cel xs c.toNat i j) else none
def mxQ (r c : Int) : Option QSt → Mx
  | some s => ⟨r, c, tb r.toNat c.toNat s.f⟩
  | none => .none
def psQ : Option QSt → List Int
  | some s => s.ps
  | none => []
theorem MIBR.none_ {r c : Int} {w w' : World} {P : Option Addr} {k pc : Nat} (h : OR w' w.heap.size (.slice P k pc) []) (hb : Below w.heap.size w w') :
    MIBR (mxQ r c none) (psQ none) (none : Option QSt).isSome w (.returned (.tuple #[.agg #[.int .i64 0, .int .i64 0, .slice none 0 0], .slice P k pc, .bool false])) w' :=
  ⟨none, 0, 0, P, k, pc, rfl, OR.nil_ _ _, h, (fun g h1 => by simp [Value.ownBlock] at h1), hb⟩
theorem MIBR.some_ {R C : Nat} {s : QSt} {w w' : World} {A P : Option Addr} {n cap k pc : Nat} (ho : OR w' w.heap.size (.slice A n cap) (tb R C s.f)) (h : OR w' w.heap.size (.slice P k pc) s.ps) (ha : Apart (.slice A n cap) (.slice P k pc)) (hb : Below w.heap.size w w') :
    MIBR (mxQ R C (some s)) (psQ (some s)) (some s).isSome w (.returned (.tuple #[.agg #[.int .i64 R, .int .i64 C, .slice A n cap], .slice P k pc, .bool true])) w' :=
  ⟨A, n, cap, P, k, pc, rfl, by show OR w' w.heap.size (.slice A n cap) (tb (R : Int).toNat (C : Int).toNat s.f); simpa using ho, h, ha, hb⟩
theorem tb_bd {R C : Nat} {f : Nat → Nat → Int} (h : ∀ i c, i < R → c < C → -400000000 ≤ f i c ∧ f i c ≤ 400000000) (k : Nat) : -400000000 ≤ (tb R C f).getD k 0 ∧ (tb R C f).getD k 0 ≤ 400000000 := by
  by_cases hk : k < (tb R C f).length
  · exact tb_mem (P := fun x => -400000000 ≤ x ∧ x ≤ 400000000) h _ (mem_getD hk)
  · simp [List.getD, List.getElem?_eq_none (show (tb R C f).length ≤ k by omega)]
end Go.Proofs.YtlggfmfelakadaaGreatDoor

/-
  DERIVED. isSystem, l11Right; what SolveByDeterminants computes; l11Replaced.
-/
namespace Go.Proofs.YtlggfmfelakadaaGreatDoor
open Go.RowKit
set_option linter.unusedVariables false
set_option linter.unusedSimpArgs false
/-- Column j anew, its first k cells. -/
def rpF (f : Nat → Nat → Int) (bs : List Int) (j k : Nat) : Nat → Nat → Int := fun a c => if c = j ∧ a < k then bs.getD a 0 else f a c
theorem rpF_zero (f : Nat → Nat → Int) (bs : List Int) (j : Nat) : rpF f bs j 0 = f := by funext a c; simp [rpF]
theorem rpF_step (f : Nat → Nat → Int) (bs : List Int) (j k : Nat) : upd (rpF f bs j k) k j (bs.getD k 0) = rpF f bs j (k + 1) := by
  funext a c
  unfold upd rpF
  by_cases h1 : a = k ∧ c = j
  · obtain ⟨rfl, rfl⟩ := h1
    simp
  · rw [if_neg h1]
    by_cases h2 : c = j ∧ a < k
    · rw [if_pos h2, if_pos ⟨h2.1, by omega⟩]
    · rw [if_neg h2, if_neg (by rintro ⟨h3, h4⟩; exact h2 ⟨h3, by have : ¬ a = k := fun e => h1 ⟨e, h3⟩; omega⟩)]
def rpL (R : Nat) (f : Nat → Nat → Int) (bs : List Int) (j : Nat) : List Int := tb R R (rpF f bs j R)
/-- The first j ratios. -/
def sdS (d : Int) (R : Nat) (f : Nat → Nat → Int) (bs : List Int) : Nat → Option (List Int)
  | 0 => some []
  | j + 1 => (sdS d R f bs j).bind fun qs => (dtO R R (rpL R f bs j)).bind fun n => some (qs ++ [(makR n d).1, (makR n d).2])
def sdO (r c : Int) (xs bs : List Int) : Option (List Int) := if sysB r c xs bs then (dtO r c xs).bind fun d => if d = 0 then none else sdS d r.toNat (fun a k => cel xs c a k) bs r.toNat else none
def sdN (r c : Int) (xs bs : List Int) : Nat := if (sdO r c xs bs).isSome then r.toNat else 0
def sdV (r c : Int) (xs bs : List Int) : List Int := (sdO r c xs bs).getD []
def sdB (r c : Int) (xs bs : List Int) : Bool := (sdO r c xs bs).isSome
theorem sdS_bad {d : Int} {R j : Nat} {f : Nat → Nat → Int} {bs : List Int} (h : dtO R R (rpL R f bs j) = none) : sdS d R f bs (j + 1) = none := by
  unfold sdS
  cases sdS d R f bs j with
  | none => rfl
  | some qs => rw [Option.bind_some, h]; rfl
theorem sdS_next {d n : Int} {R j : Nat} {f : Nat → Nat → Int} {bs qs : List Int} (h : sdS d R f bs j = some qs) (h2 : dtO R R (rpL R f bs j) = some n) : sdS d R f bs (j + 1) = some (qs ++ [(makR n d).1, (makR n d).2]) := by
  unfold sdS; rw [h, Option.bind_some, h2]; rfl
theorem sdS_up {d : Int} {R j : Nat} {f : Nat → Nat → Int} {bs : List Int} (h : sdS d R f bs j = none) : ∀ k, j ≤ k → sdS d R f bs k = none
  | 0, hk => by
    have e : j = 0 := by omega
    rw [← e]; exact h
  | k + 1, hk => by
    by_cases e : j = k + 1
    · rw [← e]; exact h
    · have := sdS_up h k (by omega)
      unfold sdS; rw [this]; rfl
theorem sd_no {r c : Int} {xs bs : List Int} (h : sdO r c xs bs = none) : sdN r c xs bs = 0 ∧ sdV r c xs bs = [] ∧ sdB r c xs bs = false := by
  unfold sdN sdV sdB; rw [h]; exact ⟨rfl, rfl, rfl⟩
theorem sd_yes {r c : Int} {xs bs qs : List Int} (h : sdO r c xs bs = some qs) : sdN r c xs bs = r.toNat ∧ sdV r c xs bs = qs ∧ sdB r c xs bs = true := by
  unfold sdN sdV sdB; rw [h]; exact ⟨rfl, rfl, rfl⟩
theorem sdN_len {r c : Int} {xs bs : List Int} : sdN r c xs bs ≤ 1048576 := by
  unfold sdN
  split
  · rename_i h
    unfold sdO at h
    split at h
    · rename_i hs
      unfold sysB at hs
      rw [Bool.and_eq_true, Bool.and_eq_true] at hs
      have := (isSq_iff.1 hs.1.1).le
      omega
    · cases h
  · omega
theorem sd_cases (r c : Int) (xs bs : List Int) : (sysB r c xs bs = false ∧ sdO r c xs bs = none) ∨ (sysB r c xs bs = true ∧ dtO r c xs = none ∧ sdO r c xs bs = none) ∨ (sysB r c xs bs = true ∧ dtO r c xs = some 0 ∧ sdO r c xs bs = none) ∨
    (∃ d : Int, sysB r c xs bs = true ∧ dtO r c xs = some d ∧ d ≠ 0 ∧ sdO r c xs bs = sdS d r.toNat (fun a k => cel xs c a k) bs r.toNat) := by
  unfold sdO
  rcases sysB r c xs bs with _ | _
  · left; exact ⟨rfl, rfl⟩
  · right
    rcases h : dtO r c xs with _ | d
    · left; exact ⟨rfl, rfl, rfl⟩
    · right
      by_cases hd : d = 0
      · left; subst hd; exact ⟨rfl, rfl, rfl⟩
      · right; exact ⟨d, rfl, rfl, hd, by simp [hd]⟩
end Go.Proofs.YtlggfmfelakadaaGreatDoor

/-
  DERIVED. What EchelonOf answers, said of matrices as lists: again, mixed, turned over, two beside each other. No program in sight.
-/
namespace Go.Proofs.YtlggfmfelakadaaGreatDoor
set_option linter.unusedVariables false
structure EOF_ (R C : Nat) (xs : List Int) (s : QSt) : Prop where
  m : isMat R C xs = true
  ef : EF R C s.ps.length (pf s.ps) s.f
  ok : QOk R C s.f
  sp : QSP R R C (fun i j => cel xs C i j) s.f
  nn : ∀ x ∈ s.ps, 0 ≤ x
  R24 : R ≤ 24
  C24 : C ≤ 24
theorem eo_ef {R C : Nat} {xs : List Int} {s : QSt} (h : eoX R C xs = some s) : EOF_ R C xs s := by
  unfold eoX at h
  split at h
  · rename_i hm
    have M := isMat_iff.1 hm
    have h1 := M.r1; have h2 := M.c1
    simp only [Int.toNat_natCast] at h
    obtain ⟨a1, a2, a3, a4⟩ := echQ_ef (fun i c _ _ => by
      rw [cel_nat]
      exact M.nums (i * C + c)) h
    exact ⟨hm, a1, a2, a3, a4, by omega, by omega⟩
  · cases h
theorem eo_of {R C : Nat} {f : Fn2} {s : QSt} (hm : isMat R C (tb R C f) = true) (h : echQ R C (fun i j => cel (tb R C f) C i j) = some s) : eoX R C (tb R C f) = some s := by
  unfold eoX
  rw [if_pos hm]
  simpa only [Int.toNat_natCast] using h
theorem eo_again {R C : Nat} {xs : List Int} {s : QSt} (h : eoX R C xs = some s) : ∃ s', eoX R C (tb R C s.f) = some s' ∧ s'.ps = s.ps ∧ tb R C s'.f = tb R C s.f := by
  have E := eo_ef h
  obtain ⟨s', h1, h2, h3⟩ := echQ_again (g := fun i j => cel (tb R C s.f) C i j) E.ef E.ok E.nn (fun i j hi hj => cel_tb hi hj)
  exact ⟨s', eo_of (E.ok.mat E.R24 E.C24) h1, h2, tb_ext fun i j hi hj => h3 i j hi hj⟩
theorem eo_ech {R C : Nat} {xs : List Int} {s : QSt} (h : eoX R C xs = some s) : echB R C (tb R C s.f) = true := by
  have E := eo_ef h
  exact E.ef.echelon E.ok E.R24 E.C24
theorem QSP.of {R C : Nat} {f g : Fn2} (h : SPN R C f g) : QSP R R C f g := by
  refine ⟨fun i hi => ?_, fun i hi => ?_⟩
  · obtain ⟨c, hc⟩ := h.2 i hi
    exact ⟨1, c, by decide, fun y hy => by rw [Int.one_mul]; exact hc y hy⟩
  · obtain ⟨c, hc⟩ := h.1 i hi
    exact ⟨1, c, by decide, fun y hy => by rw [Int.one_mul]; exact hc y hy⟩
theorem QSP.congr {R S C : Nat} {f g g' : Fn2} (h : QSP R S C f g) (e : EqM S C g' g) : QSP R S C f g' := by
  refine ⟨fun i hi => (h.1 i hi).trans fun k hk => ?_, fun i hi => (h.2 i hi).as (d := 1) (by decide) fun y hy => by rw [Int.one_mul]; exact e i y hi hy⟩
  exact (QS.row (f := g') hk).as (d := 1) (by decide) fun y hy => by rw [Int.one_mul]; exact (e k y hk hy).symm
/-- Of two matrices whose rows span one space the forms are equal. -/
theorem eo_same {R C : Nat} {xs ys : List Int} {s s2 : QSt} (h : eoX R C xs = some s) (h2 : eoX R C ys = some s2) (k : QSP R R C (fun i j => cel xs C i j) (fun i j => cel ys C i j)) : s2.ps = s.ps ∧ tb R C s2.f = tb R C s.f := by
  have E := eo_ef h
  have E2 := eo_ef h2
  obtain ⟨h3, h4⟩ := ech_uniq E2.ef E2.ok E2.nn E.ef E.ok E.nn ((E2.sp.symm.trans k.symm).trans E.sp)
  refine ⟨h3, tb_ext fun i j hi hj => ?_⟩
  rcases Nat.lt_or_ge i s2.ps.length with h5 | h5
  · exact h4 i j h5 hj
  · rw [E2.ef.zero i j h5 hi hj, E.ef.zero i j (by rw [← h3]; exact h5) hi hj]
theorem mul_fn {R n C : Nat} {f : Fn2} {xs : List Int} {i j : Nat} (hi : i < R) (hj : j < C) : cel (mulL (tb R n f) R n xs C) C i j = mm n f (fun i j => cel xs C i j) i j := by
  rw [cel_nat, mulL_at hi hj]
  unfold prodAt mm
  exact sumTo_congr n fun k hk => by rw [cel_tb hi hk]
theorem eo_mix {R C : Nat} {mf : Fn2} {xs : List Int} {s s2 : QSt} (hs : SPN R R idF mf) (h : eoX R C xs = some s) (h2 : eoX R C (mulL (tb R R mf) R R xs C) = some s2) : s2.ps = s.ps ∧ tb R C s2.f = tb R C s.f :=
  eo_same h h2 ((QSP.of (SPN.left (C := C) (m := fun i j => cel xs C i j) hs)).congr fun i j hi hj => mul_fn hi hj)
/-- The number of rows that are wanted to span what the matrix spans. -/
theorem eo_rk {R C : Nat} {xs : List Int} {s : QSt} (h : eoX R C xs = some s) : RKs R C s.ps.length (fun i j => cel xs C i j) ∧ ∀ n, RKs R C n (fun i j => cel xs C i j) → s.ps.length ≤ n := by
  have E := eo_ef h
  exact ⟨E.ef.rk.span E.sp.1, fun n hn => E.ef.rk_le (hn.span E.sp.2)⟩
theorem RKs.congr {R C n : Nat} {f g : Fn2} (h : RKs R C n f) (e : EqM R C g f) : RKs R C n g := by
  obtain ⟨u, hu⟩ := h
  exact ⟨u, fun i hi => (hu i hi).as (d := 1) (by decide) fun y hy => by rw [Int.one_mul]; exact e i y hi hy⟩
theorem eo_turn {R C : Nat} {xs : List Int} {s s3 : QSt} (h : eoX R C xs = some s) (h3 : eoX C R (tb C R (fun a b => cel xs C b a)) = some s3) : s3.ps.length = s.ps.length := by
  obtain ⟨a1, a2⟩ := eo_rk h
  obtain ⟨b1, b2⟩ := eo_rk h3
  refine Nat.le_antisymm (b2 _ (a1.turn.congr fun i j hi hj => cel_tb hi hj)) (a2 _ ?_)
  have b3 := b1.congr (g := fun a b => cel xs C b a) fun i j hi hj => (cel_tb (f := fun a b : Nat => cel xs C b a) hi hj).symm
  exact b3.turn
end Go.Proofs.YtlggfmfelakadaaGreatDoor

/-
  DERIVED. RankMod and DeterminantMod of the program.
-/
namespace Go.Proofs.YtlggfmfelakadaaGreatDoor
open Go.RowKit
set_option linter.unusedVariables false
set_option linter.unusedSimpArgs false
/-- The end of the elimination over residues. -/
def rmF (c : Int) (xs : List Int) (p : Int) : Nat → Nat → Int := fun i j => cel (redL xs p) c.toNat i j
def rmS (r c : Int) (xs : List Int) (p : Int) : ESt := runE r.toNat c.toNat p (rmF c xs p)
def rankM (r c : Int) (xs : List Int) (p : Int) : Int := if redB r c xs p then ((rmS r c xs p).t : Int) else 0
def detMB (r c : Int) (xs : List Int) (p : Int) : Bool := redB r c xs p && decide (r = c)
def detM (r c : Int) (xs : List Int) (p : Int) : Int := if detMB r c xs p then (if ((rmS r c xs p).t : Int) < r then 0 else (rmS r c xs p).d) else 0
theorem redL_at (xs : List Int) (p : Int) (hp : 2 ≤ p) (k : Nat) : 0 ≤ (redL xs p).getD k 0 ∧ (redL xs p).getD k 0 < p := by
  unfold redL
  by_cases hk : k < xs.length
  · have : (xs.map (· % p)).getD k 0 = xs[k] % p := by simp [List.getD, hk]
    rw [this]
    exact emod_bds _ _ (by omega)
  · have : (xs.map (· % p)).getD k 0 = 0 := by simp [List.getD, List.getElem?_eq_none (show xs.length ≤ k by omega)]
    rw [this]; omega
structure RedOk (r c : Int) (xs : List Int) (p : Int) : Prop where
  m : IsM r c xs
  pr : isPr p = true
  pb : 2 ≤ p ∧ p ≤ 10000
  mx : redM r c xs p = ⟨r, c, redL xs p⟩
  tb_ : redL xs p = tb r.toNat c.toNat (rmF c xs p)
  f0 : ∀ i j : Nat, 0 ≤ rmF c xs p i j ∧ rmF c xs p i j < p
  ok : EOk r.toNat p (rmS r c xs p)
theorem redOk {r c : Int} {xs : List Int} {p : Int} (h : redB r c xs p = true) : RedOk r c xs p := by
  have h0 := h
  unfold redB at h0
  rw [Bool.and_eq_true] at h0
  have M := isMat_iff.1 h0.1
  have hp := isPr_bds h0.2
  have hf : ∀ i j : Nat, 0 ≤ rmF c xs p i j ∧ rmF c xs p i j < p := fun i j => redL_at xs p hp.1 _
  refine ⟨M, h0.2, hp, ?_, ?_, hf, ?_⟩
  · unfold redM; rw [if_pos h]
  · unfold rmF
    apply tb_of
    have h1 := M.len; have h2 := M.r0; have h3 := M.c0
    obtain ⟨R, rfl⟩ := nat_of h2
    obtain ⟨C, rfl⟩ := nat_of h3
    simp only [Int.toNat_natCast]
    rw [← Int.natCast_mul] at h1
    simp [redL]; omega
  · exact colsE_ok hp.1 _ _ _ ⟨hf, Nat.zero_le _, by show (0 : Int) ≤ 1 ∧ (1 : Int) < p; omega⟩
theorem redM_no {r c : Int} {xs : List Int} {p : Int} (h : redB r c xs p = false) : redM r c xs p = .none := by
  unfold redM; rw [h]; rfl
theorem det_cases (r c : Int) (xs : List Int) (p : Int) : (redB r c xs p = false ∧ detMB r c xs p = false) ∨ (redB r c xs p = true ∧ (r != c) = true ∧ detMB r c xs p = false) ∨ (redB r c xs p = true ∧ r = c ∧ detMB r c xs p = true) := by
  unfold detMB
  rcases redB r c xs p with _ | _
  · left; simp
  · right
    by_cases h : r = c
    · right; simp [h]
    · left; simp [h]
theorem detM_no {r c : Int} {xs : List Int} {p : Int} (h : detMB r c xs p = false) : detM r c xs p = 0 := by unfold detM; rw [h]; rfl
set_option maxRecDepth 100000 in
set_option maxHeartbeats 2000000 in
theorem impl_DeterminantMod (r c p : Int) (A : Option Addr) (n cap : Nat) (xs : List Int) (w : World) {B : Nat} (h : RI w B A n xs) (hB : B ≤ w.heap.size) (hn : n ≤ 1048576) :
    Calls Tryz.prog 43 #[.agg #[.int .i64 r, .int .i64 c, .slice A n cap], .int .i64 p] w (BV (.tuple #[.int .i64 (detM r c xs p), .bool (detMB r c xs p)]) w) := by
  have H2 := Lib.hid (h.more hB)
  clear h
  rcases det_cases r c xs p with ⟨hb, hd⟩ | ⟨hb, hne, hd⟩ | ⟨hb, rfl, hd⟩
  · rw [detM_no hd, hd]
    have HB := Lib.hid hb
    have HX := Lib.hid (redM_no hb)
    clear hb hd
    go_enter Tryz.func43, Tryz.ntmps43
    go_wp2_with fail
    refine (impl_ReduceMod r c p A n cap xs _ (B := w.heap.size) (Kr H2.out) Ks hn).mono ?_
    rw [HB.out, HX.out]
    rintro e w1 ⟨A', n', cap', rfl, hown, hb1⟩
    have hsz1 := hb1.size
    simp at hsz1
    go_wp2_with fail
    go_ret2
    exact BV.mk rfl Kw
  · rw [detM_no hd, hd]
    have HB := Lib.hid hb
    have HX := Lib.hid (redOk hb).mx
    clear hb hd
    go_enter Tryz.func43, Tryz.ntmps43
    go_wp2_with fail
    refine (impl_ReduceMod r c p A n cap xs _ (B := w.heap.size) (Kr H2.out) Ks hn).mono ?_
    rw [HB.out, HX.out]
    rintro e w1 ⟨A', n', cap', rfl, hown, hb1⟩
    have hsz1 := hb1.size
    simp at hsz1
    have hM : BM w1 w.heap.size r c A n cap := Ka
    obtain ⟨oa, ob, oc, of, ol⟩ := hM.mx
    go_wp2_with fail
    go_ret2
    exact BV.mk rfl Kw
  · have K := redOk hb
    have hv : detM r r xs p = (if ((rmS r r xs p).t : Int) < r then 0 else (rmS r r xs p).d) := by unfold detM; rw [hd]; rfl
    rw [hv, hd]
    have HB := Lib.hid hb
    have HX := Lib.hid K.mx
    have HT := Lib.hid K.tb_
    have HF := Lib.hid K.f0
    have HR : Hid (runE r.toNat r.toNat p (rmF r xs p) = rmS r r xs p) := Lib.hid rfl
    obtain ⟨hp1, hp2⟩ := K.pb
    have hR := K.m.r1
    have hd0 := K.ok.d0
    have ht0 := K.ok.t0
    obtain ⟨R, rfl⟩ := nat_of K.m.r0
    clear hb hv K hd
    generalize rmS (R : Int) (R : Int) xs p = X at *
    simp only [Int.toNat_natCast] at HT HF HR ht0
    generalize rmF (R : Int) xs p = f at *
    obtain ⟨hd1, hd2⟩ := hd0
    generalize hvv : (if ((X.t : Nat) : Int) < (R : Int) then 0 else X.d) = V
    have HVV := Lib.hid hvv
    clear hvv
    go_enter Tryz.func43, Tryz.ntmps43
    go_wp2_with fail
    refine (impl_ReduceMod R R p A n cap xs _ (B := w.heap.size) (Kr H2.out) Ks hn).mono ?_
    rw [HB.out, HX.out]
    rintro e w1 ⟨A', n', cap', rfl, hown, hb1⟩
    have hsz1 := hb1.size
    simp at hsz1
    have hown1 : OR w1 (w.heap.size + 1) (.slice A' n' cap') (tb R R f) := by
      have := hown
      rw [show (⟨(R : Int), (R : Int), redL xs p⟩ : Mx).xs = redL xs p from rfl, HT.out] at this
      simpa using this
    have hM : BM w1 w.heap.size R R A n cap := Ka
    obtain ⟨oa, ob, oc, of, ol⟩ := hM.mx
    clear hown
    go_wp2_with fail
    refine (impl_eliminate R R R p A' n' cap' f _ (B := w.heap.size + 1) (Ko hown1) (by omega) (by omega) (Nat.le_refl _) ⟨hp1, hp2⟩ HF.out).mono ?_
    rw [HR.out]
    rintro e w2 ⟨rfl, hown2, hgr2, hsz2⟩
    have hbw : Below w.heap.size w w2 := Below.trans (show Below w.heap.size w (w1.alloc (.cells #[.int .i64 R, .int .i64 R, .slice A' n' cap'] 26)) from Kw) ((OR.below_grown (hown1.alloc (.cells #[.int .i64 R, .int .i64 R, .slice A' n' cap'] 26)) hgr2 (by simp; omega)).mono (by omega))
    have hM2 : BM w2 w.heap.size R R A n cap := (hM.alloc (.cells #[.int .i64 R, .int .i64 R, .slice A' n' cap'] 26)).grown hgr2 (OR.ne_low (hown1.alloc (.cells #[.int .i64 R, .int .i64 R, .slice A' n' cap'] 26)) (by omega))
    clear hgr2 oa ob oc of ol
    obtain ⟨oa, ob, oc, of, ol⟩ := hM2.mx
    by_cases hlt : X.t < R
    · have HV : Hid (V = 0) := Lib.hid (by rw [← HVV.out, if_pos (by omega)])
      generalize X.t = XT at *
      go_wp2_with fail
      go_ret2
      refine BV.mk ?_ hbw
      exact vib HV.out.symm rfl
    · have HV : Hid (V = X.d) := Lib.hid (by rw [← HVV.out, if_neg (by omega)])
      have HE : Hid (X.d % p = X.d) := Lib.hid (Int.emod_eq_of_lt hd1 hd2)
      generalize X.t = XT at *
      generalize X.d = XD at *
      go_wp2_with (first | (go_at_call 64; refine (impl_mod _ _ _ (by omega) (by omega) (by omega) (by omega)).mono ?_; rintro e w' ⟨rfl, rfl⟩))
      go_ret2
      refine BV.mk ?_ hbw
      exact vib (HV.out.trans HE.out.symm).symm rfl
end Go.Proofs.YtlggfmfelakadaaGreatDoor

/-
  DERIVED. SolveByDeterminants of the reference.
-/
namespace Go.Proofs.YtlggfmfelakadaaGreatDoor
open Go.RowKit
set_option linter.unusedVariables false
set_option linter.unusedSimpArgs false
section
variable {r c : Int} {xs bs : List Int}
theorem sd_n1 (h : dtO r c xs = none) : sdO r c xs bs = none := by unfold sdO; rw [h]; split <;> rfl
theorem sd_n2 (h : dtO r c xs = some 0) : sdO r c xs bs = none := by unfold sdO; rw [h]; split <;> rfl
theorem sd_n3 (h : sysB r c xs bs = false) : sdO r c xs bs = none := by unfold sdO; rw [h]; rfl
theorem sd_y {d : Int} (h : sysB r c xs bs = true) (h2 : dtO r c xs = some d) (h3 : ¬ d = 0) : sdO r c xs bs = sdS d r.toNat (fun a k => cel xs c a k) bs r.toNat := by
  unfold sdO; rw [h, h2]
  show (if d = 0 then none else _) = _
  rw [if_neg h3]
theorem sd_sys (h : sysB r c xs bs = true) : ∃ R : Nat, r = R ∧ c = R ∧ R ≤ 6 ∧ xs.length = R * R ∧ bs.length = R := by
  unfold sysB at h
  rw [Bool.and_eq_true, Bool.and_eq_true] at h
  have S := isSq_iff.1 h.1.1
  obtain ⟨R, rfl⟩ := nat_of S.m.r0
  have hc := S.e
  have hl := S.m.len
  have h6 := S.le
  have hb := of_decide_eq_true h.1.2
  refine ⟨R, rfl, hc.symm, by omega, ?_, by omega⟩
  rw [← hc, ← Int.natCast_mul] at hl
  omega
theorem rpL_len (R : Nat) (f : Nat → Nat → Int) (bs : List Int) (j : Nat) : (rpL R f bs j).length = R * R := tb_len _ _ _
end
end Go.Proofs.YtlggfmfelakadaaGreatDoor

/-
  DERIVED. How long the results of EchelonOf are: no program in sight.
-/
namespace Go.Proofs.YtlggfmfelakadaaGreatDoor
open Go.RowKit
set_option linter.unusedVariables false
theorem colsQ_len {R C : Nat} : ∀ (n j : Nat) (s s' : QSt), colsQ R C n j s = some s' → s'.ps.length ≤ s.ps.length + n
  | 0, j, s, s', h => by
    unfold colsQ at h
    injection h with h
    subst h; omega
  | n + 1, j, s, s', h => by
    unfold colsQ at h
    split at h
    · have := colsQ_len n (j + 1) s s' h; omega
    · split at h
      · cases h
      · have := colsQ_len n (j + 1) _ s' h
        simp at this
        omega
theorem colsQ_le {R C : Nat} : ∀ (n j : Nat) (s s' : QSt), s.ps.length ≤ R → colsQ R C n j s = some s' → s'.ps.length ≤ R
  | 0, j, s, s', hs, h => by
    unfold colsQ at h
    injection h with h
    subst h; exact hs
  | n + 1, j, s, s', hs, h => by
    unfold colsQ at h
    split at h
    · exact colsQ_le n (j + 1) s s' hs h
    · rename_i hk
      split at h
      · cases h
      · refine colsQ_le n (j + 1) _ s' ?_ h
        have := fnd_le s.f j (R - s.ps.length) s.ps.length
        simp
        omega
theorem eoX_len (r c : Int) (xs : List Int) : (mxQ r c (eoX r c xs)).xs.length ≤ 1048576 ∧ (psQ (eoX r c xs)).length ≤ 1048576 := by
  unfold eoX
  by_cases hm : isMat r c xs = true
  · rw [if_pos hm]
    have M := isMat_iff.1 hm
    have h1 := M.r0; have h2 := M.r1; have h3 := M.c0; have h4 := M.c1
    obtain ⟨R, rfl⟩ := nat_of h1
    obtain ⟨C, rfl⟩ := nat_of h3
    simp only [Int.toNat_natCast]
    have h5 : R * C ≤ 24 * 24 := Nat.mul_le_mul (by omega) (by omega)
    cases hx : echQ R C (fun i j : Nat => cel xs C i j) with
    | none => exact ⟨Nat.zero_le _, Nat.zero_le _⟩
    | some s =>
      have h6 := colsQ_len _ _ _ _ hx
      simp at h6
      refine ⟨?_, ?_⟩
      · show (tb (R : Int).toNat (C : Int).toNat s.f).length ≤ 1048576
        rw [tb_len]
        simp only [Int.toNat_natCast]
        omega
      · show s.ps.length ≤ 1048576
        omega
  · rw [if_neg hm]; exact ⟨Nat.zero_le _, Nat.zero_le _⟩
end Go.Proofs.YtlggfmfelakadaaGreatDoor

/-
  DERIVED. DeterminantByImages: which primes it takes: no program in sight.
-/
namespace Go.Proofs.YtlggfmfelakadaaGreatDoor
set_option linter.unusedVariables false
/-- The primes among the n numbers from 101 on; their product. -/
def plK : Nat → List Int
  | 0 => []
  | n + 1 => if isPr (101 + (n : Int)) then plK n ++ [101 + (n : Int)] else plK n
def ppK : Nat → Int
  | 0 => 1
  | n + 1 => if isPr (101 + (n : Int)) then ppK n * (101 + (n : Int)) else ppK n
theorem plK_yes {n : Nat} (h : isPr (101 + (n : Int)) = true) : plK (n + 1) = plK n ++ [101 + (n : Int)] := by
  show (if _ then _ else _) = _
  rw [if_pos h]
theorem plK_no {n : Nat} (h : isPr (101 + (n : Int)) = false) : plK (n + 1) = plK n := by
  show (if _ then _ else _) = _
  rw [if_neg (by rw [h]; exact Bool.false_ne_true)]
theorem ppK_yes {n : Nat} (h : isPr (101 + (n : Int)) = true) : ppK (n + 1) = ppK n * (101 + (n : Int)) := by
  show (if _ then _ else _) = _
  rw [if_pos h]
theorem ppK_no {n : Nat} (h : isPr (101 + (n : Int)) = false) : ppK (n + 1) = ppK n := by
  show (if _ then _ else _) = _
  rw [if_neg (by rw [h]; exact Bool.false_ne_true)]
theorem pl_bds : ∀ n : Nat, n ≤ 12 → (1 ≤ ppK n ∧ ppK n ≤ 121330189) ∧ (plK n).length ≤ 4 ∧ modsOk (plK n) = true ∧ (plK n).foldl (· * ·) 1 = ppK n := by
  set_option maxRecDepth 100000 in decide
theorem pl_last : isPr (101 + ((12 : Nat) : Int)) = true ∧ isNum (ppK 12 * (101 + ((12 : Nat) : Int))) = false := by
  set_option maxRecDepth 100000 in decide
/-- How many numbers from 101 on are taken till the product is beyond twice the bound. -/
def dbG (bound : Int) : Nat → Nat → Option Nat
  | 0, n => none
  | k + 1, n => if 2 * bound < ppK n then some n else if isPr (101 + (n : Int)) then (if isNum (ppK n * (101 + (n : Int))) then dbG bound k (n + 1) else none) else dbG bound k (n + 1)
def dbN (r c : Int) (xs : List Int) : Option Nat := (bndRes r c xs).bind fun b => dbG b 13 0
def dbR (r c : Int) (xs : List Int) (n : Nat) : List Int := (plK n).map (detM r c xs)
def dbV (r c : Int) (xs : List Int) : Option Int := (dbN r c xs).map fun n => symOf (chV (dbR r c xs n) (plK n)).1 (chV (dbR r c xs n) (plK n)).2
theorem dbG_stop {b : Int} {k n : Nat} (h : 2 * b < ppK n) : dbG b (k + 1) n = some n := by
  show (if _ then _ else _) = _
  rw [if_pos h]
theorem dbG_bad {b : Int} {k n : Nat} (h : ¬ 2 * b < ppK n) (h1 : isPr (101 + (n : Int)) = true) (h2 : isNum (ppK n * (101 + (n : Int))) = false) : dbG b (k + 1) n = none := by
  show (if _ then _ else _) = _
  rw [if_neg h, if_pos h1, if_neg (by rw [h2]; exact Bool.false_ne_true)]
theorem dbG_yes {b : Int} {k n : Nat} (h : ¬ 2 * b < ppK n) (h1 : isPr (101 + (n : Int)) = true) (h2 : isNum (ppK n * (101 + (n : Int))) = true) : dbG b (k + 1) n = dbG b k (n + 1) := by
  show (if _ then _ else _) = _
  rw [if_neg h, if_pos h1, if_pos h2]
theorem dbG_no {b : Int} {k n : Nat} (h : ¬ 2 * b < ppK n) (h1 : isPr (101 + (n : Int)) = false) : dbG b (k + 1) n = dbG b k (n + 1) := by
  show (if _ then _ else _) = _
  rw [if_neg h, if_neg (by rw [h1]; exact Bool.false_ne_true)]
theorem detM_bds (r c : Int) (xs : List Int) {p : Int} (hp : 2 ≤ p) : 0 ≤ detM r c xs p ∧ detM r c xs p < p := by
  unfold detM
  split
  · rename_i h
    have h2 : redB r c xs p = true := by
      unfold detMB at h
      rw [Bool.and_eq_true] at h
      exact h.1
    have ho := (redOk h2).ok.d0
    split
    · omega
    · exact ho
  · omega
theorem plK_mem : ∀ (n : Nat) (x : Int), x ∈ plK n → 101 ≤ x ∧ x < 101 + (n : Int)
  | 0, x, h => by cases h
  | n + 1, x, h => by
    rcases hp : isPr (101 + (n : Int)) with _ | _
    · rw [plK_no hp] at h
      have := plK_mem n x h
      omega
    · rw [plK_yes hp] at h
      rcases List.mem_append.1 h with h | h
      · have := plK_mem n x h
        omega
      · have := List.mem_singleton.1 h
        omega
theorem dbR_ok {r c : Int} {xs : List Int} {n : Nat} (hn : n ≤ 12) : chB (dbR r c xs n) (plK n) = true := by
  have hm := (pl_bds n hn).2.2.1
  have hm' := hm
  unfold modsOk at hm'
  rw [Bool.and_eq_true, decide_eq_true_eq] at hm'
  refine chB_iff.2 ⟨hm'.2, hm'.1, by simp [dbR], ?_⟩
  rw [List.all_eq_true]
  intro y hy
  obtain ⟨x, hx, rfl⟩ := List.mem_map.1 hy
  obtain ⟨h1, h2⟩ := plK_mem n x hx
  obtain ⟨h3, h4⟩ := detM_bds r c xs (p := x) (by omega)
  exact (isNum_iff _).2 ⟨by omega, by omega⟩
theorem dbX_bds {r c : Int} {xs : List Int} {n : Nat} (hn : n ≤ 12) : (0 ≤ (chV (dbR r c xs n) (plK n)).1 ∧ (chV (dbR r c xs n) (plK n)).1 ≤ 400000000) ∧ (1 ≤ (chV (dbR r c xs n) (plK n)).2 ∧ (chV (dbR r c xs n) (plK n)).2 ≤ 400000000) := by
  obtain ⟨h1, h2, h3, -⟩ := chV_spec (dbR_ok (r := r) (c := c) (xs := xs) hn)
  rw [(pl_bds n hn).2.2.2] at h1
  have h4 := (pl_bds n hn).1
  omega
end Go.Proofs.YtlggfmfelakadaaGreatDoor

/-
  DERIVED. The inverse over residues: the wide matrix, the part at the right. No program in sight.
-/
namespace Go.Proofs.YtlggfmfelakadaaGreatDoor
set_option linter.unusedVariables false
/-- f and, at its right, ones in the diagonal. -/
def wideF (n : Nat) (f : Nat → Nat → Int) : Nat → Nat → Int := fun i c => if c < n then f i c else if c = n + i then 1 else 0
/-- The first m rows of it, zeros below. -/
def wK (n : Nat) (f : Nat → Nat → Int) (m : Nat) : Nat → Nat → Int := fun i c => if i < m then wideF n f i c else 0
/-- Row m, too, up to cell k of f. -/
def wR (n : Nat) (f : Nat → Nat → Int) (m k : Nat) : Nat → Nat → Int := fun i c => if i < m then wideF n f i c else if i = m ∧ c < k then f i c else 0
theorem wK_zero (n : Nat) (f : Nat → Nat → Int) : wK n f 0 = fun _ _ => 0 := by funext i c; simp [wK]
theorem wK_end {R C : Nat} (n : Nat) (f : Nat → Nat → Int) : tb R C (wK n f R) = tb R C (wideF n f) := tb_ext fun i c hi hc => by unfold wK; rw [if_pos hi]
theorem wR_zero (n : Nat) (f : Nat → Nat → Int) (m : Nat) : wR n f m 0 = wK n f m := by funext i c; unfold wR wK; grind
theorem wR_step {n : Nat} {f : Nat → Nat → Int} {m k : Nat} : upd (wR n f m k) m k (f m k) = wR n f m (k + 1) := by funext i c; unfold upd wR; grind
theorem wR_end {n : Nat} {f : Nat → Nat → Int} {m : Nat} : upd (wR n f m n) m (n + m) 1 = wK n f (m + 1) := by funext i c; unfold upd wR wK wideF; grind
theorem wR_row {n D m : Nat} {f : Nat → Nat → Int} (hm : m < n) (hD : n ≤ D) : splL (tb n D (wK n f m)) (m * D) (rowL (tb n n f) n m) = tb n D (wR n f m n) := by
  have hl : m * n + n ≤ n * n := by
    have h3 := Nat.mul_le_mul_right n (show m + 1 ≤ n by omega); rw [Nat.add_mul, Nat.one_mul] at h3; exact h3
  have hlen : (rowL (tb n n f) n m).length = n := rowL_len (by rw [tb_len]; exact hl)
  have := spl_tbo (R := n) (C := D) (i := m) (o := 0) (f := wK n f m) (ys := rowL (tb n n f) n m) hm (by omega)
  rw [Nat.add_zero] at this
  rw [this]
  apply tb_ext
  intro i c hi hc
  unfold setW wR
  by_cases h : i = m ∧ c < n
  · obtain ⟨rfl, h2⟩ := h
    rw [if_pos (by omega), if_neg (by omega), if_pos ⟨rfl, h2⟩, Nat.sub_zero, rowL_getD h2, cel_tb hi h2]
  · rw [if_neg (by omega)]
    unfold wK
    grind
/-- The first m rows of g, from column n on; zeros below. -/
def oK (n : Nat) (g : Nat → Nat → Int) (m : Nat) : Nat → Nat → Int := fun i c => if i < m then g i (n + c) else 0
def oR (n : Nat) (g : Nat → Nat → Int) (m k : Nat) : Nat → Nat → Int := fun i c => if i < m ∨ i = m ∧ c < k then g i (n + c) else 0
theorem oK_zero (n : Nat) (g : Nat → Nat → Int) : oK n g 0 = fun _ _ => 0 := by funext i c; simp [oK]
theorem oK_end {R C : Nat} (n : Nat) (g : Nat → Nat → Int) : tb R C (oK n g R) = tb R C (fun i c => g i (n + c)) := tb_ext fun i c hi hc => by unfold oK; rw [if_pos hi]
theorem oR_zero (n : Nat) (g : Nat → Nat → Int) (m : Nat) : oR n g m 0 = oK n g m := by funext i c; unfold oR oK; grind
theorem oR_step {n : Nat} {g : Nat → Nat → Int} {m k : Nat} : upd (oR n g m k) m k (g m (n + k)) = oR n g m (k + 1) := by funext i c; unfold upd oR; grind
theorem oR_end {R n : Nat} {g : Nat → Nat → Int} {m : Nat} : tb R n (oR n g m n) = tb R n (oK n g (m + 1)) := tb_ext fun i c hi hc => by unfold oR oK; grind
theorem oK_row {n D m : Nat} {g : Nat → Nat → Int} (hm : m < n) (hD : n + n ≤ D) : splL (tb n n (oK n g m)) (m * n) (winL (tb n D g) (m * D + n) n) = tb n n (oK n g (m + 1)) := by
  have hl : m * D + D ≤ n * D := by
    have h3 := Nat.mul_le_mul_right D (show m + 1 ≤ n by omega); rw [Nat.add_mul, Nat.one_mul] at h3; exact h3
  have hlen : (winL (tb n D g) (m * D + n) n).length = n := winL_len (by rw [tb_len]; omega)
  rw [spl_tb hm hlen]
  apply tb_ext
  intro i c hi hc
  unfold setR oK
  by_cases h : i = m
  · subst h
    rw [if_pos rfl, if_pos (by omega), winL_getD hc, Nat.add_assoc, tb_at hi (by omega)]
  · rw [if_neg h]
    grind
/-- Whether there is something to invert. -/
def imOk (r c : Int) (xs : List Int) (p : Int) : Bool := redB r c xs p && decide (r = c) && decide (r ≤ 12)
def imS (r c : Int) (xs : List Int) (p : Int) : ESt := runE r.toNat r.toNat p (wideF r.toNat (rmF c xs p))
def imB (r c : Int) (xs : List Int) (p : Int) : Bool := imOk r c xs p && decide (r ≤ (imS r c xs p).t)
def imM (r c : Int) (xs : List Int) (p : Int) : Mx := if imB r c xs p then ⟨r, r, tb r.toNat r.toNat (fun i j => (imS r c xs p).f i (r.toNat + j))⟩ else .none
theorem im_cases (r c : Int) (xs : List Int) (p : Int) : (redB r c xs p = false ∧ imB r c xs p = false) ∨ (redB r c xs p = true ∧ (r != c) = true ∧ imB r c xs p = false) ∨ (redB r c xs p = true ∧ r = c ∧ 12 < r ∧ imB r c xs p = false) ∨
    (redB r c xs p = true ∧ r = c ∧ r ≤ 12 ∧ imB r c xs p = decide (r ≤ (imS r c xs p).t)) := by
  unfold imB imOk
  rcases redB r c xs p with _ | _
  · left; simp
  · right
    by_cases h : r = c
    · right
      by_cases h2 : r ≤ 12
      · right; exact ⟨rfl, h, h2, by simp [h, show c ≤ 12 by omega]⟩
      · left; exact ⟨rfl, h, by omega, by simp [h, show ¬ c ≤ 12 by omega]⟩
    · left; simp [h]
theorem imM_no {r c : Int} {xs : List Int} {p : Int} (h : imB r c xs p = false) : imM r c xs p = .none := by unfold imM; rw [h]; rfl
theorem imM_yes {r c : Int} {xs : List Int} {p : Int} (h : imB r c xs p = true) : imM r c xs p = ⟨r, r, tb r.toNat r.toNat (fun i j => (imS r c xs p).f i (r.toNat + j))⟩ := by unfold imM; rw [h]; rfl
theorem imM_len (r c : Int) (xs : List Int) (p : Int) : (imM r c xs p).xs.length ≤ 1048576 := by
  rcases im_cases r c xs p with ⟨_, hi⟩ | ⟨_, _, hi⟩ | ⟨_, _, _, hi⟩ | ⟨hb, _, h12, hi⟩
  iterate 3
    · rw [imM_no hi]; exact Nat.zero_le _
  · rcases hv : imB r c xs p with _ | _
    · rw [imM_no hv]; exact Nat.zero_le _
    · rw [imM_yes hv]
      have h1 := (redOk hb).m.r0
      obtain ⟨R, rfl⟩ := nat_of h1
      have : R * R ≤ 12 * 12 := Nat.mul_le_mul (by omega) (by omega)
      simp only [Int.toNat_natCast, tb_len]
      omega
theorem wideF_bd {n : Nat} {f : Nat → Nat → Int} {p : Int} (hp : 2 ≤ p) (hf : ∀ i c : Nat, 0 ≤ f i c ∧ f i c < p) (i c : Nat) : 0 ≤ wideF n f i c ∧ wideF n f i c < p := by
  unfold wideF
  split
  · exact hf i c
  · split <;> omega
end Go.Proofs.YtlggfmfelakadaaGreatDoor

/-
  DERIVED. Solutions read off an echelon form. No program in sight.
-/
namespace Go.Proofs.YtlggfmfelakadaaGreatDoor
set_option linter.unusedVariables false
/-- The pivots so far: number k is at least k, and less than j. -/
def PInv (j : Nat) (ps : List Int) : Prop := ∀ k, k < ps.length → (k : Int) ≤ ps.getD k 0 ∧ ps.getD k 0 < (j : Int)
theorem PInv.len {j : Nat} {ps : List Int} (h : PInv j ps) : ps.length ≤ j := by
  rcases Nat.eq_zero_or_pos ps.length with h0 | h0
  · omega
  · have := h (ps.length - 1) (by omega)
    omega
theorem PInv.add {j : Nat} {ps : List Int} (h : PInv j ps) : PInv (j + 1) (ps ++ [(j : Int)]) := by
  intro k hk
  have hl := h.len
  rw [List.length_append] at hk
  simp at hk
  by_cases h1 : k < ps.length
  · have h2 := h k h1
    have e : (ps ++ [(j : Int)]).getD k 0 = ps.getD k 0 := by simp [List.getD, List.getElem?_append_left h1]
    rw [e]; omega
  · obtain rfl : k = ps.length := by omega
    have e : (ps ++ [(j : Int)]).getD ps.length 0 = (j : Int) := by simp [List.getD]
    rw [e]; omega
theorem PInv.more {j : Nat} {ps : List Int} (h : PInv j ps) : PInv (j + 1) ps := fun k hk => by have := h k hk; omega
theorem colsQ_inv {R C : Nat} : ∀ (n j : Nat) (s s' : QSt), PInv j s.ps → colsQ R C n j s = some s' → PInv (j + n) s'.ps
  | 0, j, s, s', hs, h => by
    unfold colsQ at h
    injection h with h
    subst h; exact hs
  | n + 1, j, s, s', hs, h => by
    unfold colsQ at h
    rw [show j + (n + 1) = j + 1 + n by omega]
    split at h
    · exact colsQ_inv n (j + 1) s s' hs.more h
    · split at h
      · cases h
      · exact colsQ_inv n (j + 1) _ s' hs.add h
/-- The matrix with b as its last column. -/
def augF (R : Nat) (f : Nat → Nat → Int) (bs : List Int) : Nat → Nat → Int := fun i j => if j < R then f i j else bs.getD i 0
def aK (R : Nat) (f : Nat → Nat → Int) (bs : List Int) (m : Nat) : Nat → Nat → Int := fun i c => if i < m then augF R f bs i c else 0
def aR (R : Nat) (f : Nat → Nat → Int) (bs : List Int) (m k : Nat) : Nat → Nat → Int := fun i c => if i < m then augF R f bs i c else if i = m ∧ c < k then f i c else 0
theorem aK_zero (R : Nat) (f : Nat → Nat → Int) (bs : List Int) : aK R f bs 0 = fun _ _ => 0 := by funext i c; simp [aK]
theorem aK_end {R : Nat} (f : Nat → Nat → Int) (bs : List Int) : tb R (R + 1) (aK R f bs R) = tb R (R + 1) (augF R f bs) := tb_ext fun i c hi hc => by unfold aK; rw [if_pos hi]
theorem aR_zero (R : Nat) (f : Nat → Nat → Int) (bs : List Int) (m : Nat) : aR R f bs m 0 = aK R f bs m := by funext i c; unfold aR aK; grind
theorem aR_step {R : Nat} {f : Nat → Nat → Int} {bs : List Int} {m k : Nat} : upd (aR R f bs m k) m k (f m k) = aR R f bs m (k + 1) := by funext i c; unfold upd aR; grind
theorem aR_end {R : Nat} {f : Nat → Nat → Int} {bs : List Int} {m : Nat} : tb R (R + 1) (upd (aR R f bs m R) m R (bs.getD m 0)) = tb R (R + 1) (aK R f bs (m + 1)) := tb_ext fun i c hi hc => by unfold upd aR aK augF; grind
theorem aR_row {R m : Nat} {f : Nat → Nat → Int} {bs : List Int} (hm : m < R) : splL (tb R (R + 1) (aK R f bs m)) (m * (R + 1)) (rowL (tb R R f) R m) = tb R (R + 1) (aR R f bs m R) := by
  have hl : m * R + R ≤ R * R := by
    have h3 := Nat.mul_le_mul_right R (show m + 1 ≤ R by omega); rw [Nat.add_mul, Nat.one_mul] at h3; exact h3
  have hlen : (rowL (tb R R f) R m).length = R := rowL_len (by rw [tb_len]; exact hl)
  have h0 : splL (tb R (R + 1) (aK R f bs m)) (m * (R + 1)) (rowL (tb R R f) R m) = _ := spl_tbo (R := R) (C := R + 1) (i := m) (o := 0) (f := aK R f bs m) (ys := rowL (tb R R f) R m) hm (by omega)
  rw [h0]
  apply tb_ext
  intro i c hi hc
  unfold setW aR
  by_cases h : i = m ∧ c < R
  · obtain ⟨rfl, h2⟩ := h
    rw [if_pos (by omega), if_neg (by omega), if_pos ⟨rfl, h2⟩, Nat.sub_zero, rowL_getD h2, cel_tb hi h2]
  · rw [if_neg (by omega)]
    unfold aK
    grind
def seX (r : Int) (xs bs : List Int) : Option QSt := eoX r ((r.toNat + 1 : Nat) : Int) (tb r.toNat (r.toNat + 1) (augF r.toNat (fun i j => cel xs r.toNat i j) bs))
/-- Whether the form shows one solution. -/
def seOk (R : Nat) : Option QSt → Bool
  | some s => decide (R ≤ s.ps.length) && (decide (R = 0) || decide (s.ps.getD (R - 1) 0 = ((R - 1 : Nat) : Int)))
  | none => false
def seB (r c : Int) (xs bs : List Int) : Bool := sysB r c xs bs && seOk r.toNat (seX r xs bs)
def seF (s : QSt) (R i : Nat) : List Int := [(makR (s.f i R) (s.f i i)).1, (makR (s.f i R) (s.f i i)).2]
def seL (s : QSt) (R : Nat) : Nat → List Int
  | 0 => []
  | k + 1 => seL s R k ++ seF s R k
def seV (r c : Int) (xs bs : List Int) : List Int := if seB r c xs bs then (match seX r xs bs with | some s => seL s r.toNat r.toNat | none => []) else []
def seN (r c : Int) (xs bs : List Int) : Nat := if seB r c xs bs then r.toNat else 0
theorem se_cases (r c : Int) (xs bs : List Int) : (sysB r c xs bs = false ∧ seB r c xs bs = false) ∨ (sysB r c xs bs = true ∧ seX r xs bs = none ∧ seB r c xs bs = false) ∨ (∃ s, sysB r c xs bs = true ∧ seX r xs bs = some s ∧ seB r c xs bs = seOk r.toNat (some s)) := by
  unfold seB
  rcases sysB r c xs bs with _ | _
  · left; simp
  · right
    rcases hx : seX r xs bs with _ | s
    · left; simp [seOk]
    · right; exact ⟨s, by simp⟩
/-- The pivots of a form: as many as rows at most, each in its place or behind it. -/
theorem eoX_piv {R C : Nat} {xs : List Int} {s : QSt} (h : eoX (R : Int) (C : Int) xs = some s) : s.ps.length ≤ R ∧ PInv C s.ps := by
  unfold eoX at h
  by_cases hm : isMat (R : Int) (C : Int) xs = true
  · rw [if_pos hm] at h
    simp only [Int.toNat_natCast] at h
    refine ⟨colsQ_le _ _ _ _ (Nat.zero_le _) h, ?_⟩
    have := colsQ_inv _ _ _ _ (show PInv 0 (⟨prK C (fun i j : Nat => cel xs C i j) R, []⟩ : QSt).ps from fun k hk => absurd hk (Nat.not_lt_zero _)) h
    rw [show 0 + (C - 0) = C by omega] at this
    exact this
  · rw [if_neg hm] at h; cases h
theorem aug_ri {R : Nat} {xs : List Int} (h : xs.length = R * R) : xs = tb R R (fun i j => cel xs R i j) := tb_of h
theorem seL_len (s : QSt) (R : Nat) : ∀ k, (seL s R k).length = k * 2
  | 0 => rfl
  | k + 1 => by
    unfold seL
    rw [List.length_append, seL_len s R k]
    simp [seF]; omega
theorem seV_len {r c : Int} {xs bs : List Int} : seN r c xs bs ≤ 1048576 := by
  unfold seN
  split
  · rename_i h
    unfold seB at h
    rw [Bool.and_eq_true] at h
    have K := sysOk h.1
    have := K.r6
    omega
  · omega
end Go.Proofs.YtlggfmfelakadaaGreatDoor

/-
  DERIVED. Inverses modulo a prime are inverses from both sides, and there is none exactly if the determinant's residue is 0: no program in sight.
-/
namespace Go.Proofs.YtlggfmfelakadaaGreatDoor
set_option linter.unusedVariables false
theorem prFrom_no {p : Int} : ∀ (k : Nat) (d : Int), 2 ≤ d → prFrom p d k = true → ∀ q, d ≤ q → q < d + k → q * q ≤ p → ¬ q ∣ p
  | 0, d, _, _, q, h1, h2, _ => by omega
  | k + 1, d, hd, h, q, h1, h2, hq => by
    unfold prFrom at h
    have hdd : d * d ≤ p := Int.le_trans (Int.mul_le_mul h1 h1 (by omega) (by omega)) hq
    rw [if_pos hdd] at h
    split at h
    · cases h
    · rename_i hm
      by_cases e : q = d
      · subst e
        exact fun hdv => hm (Int.emod_eq_zero_of_dvd hdv)
      · exact prFrom_no k (d + 1) (by omega) h q (by omega) (by omega) hq
theorem pr_div {p q : Int} (h : isPr p = true) (hq : 2 ≤ q) (hqp : q < p) : ¬ q ∣ p := by
  simp only [isPr, Bool.and_eq_true, decide_eq_true_eq] at h
  obtain ⟨⟨h1, h2⟩, h3⟩ := h
  rintro ⟨r, hr⟩
  have hr1 : 2 ≤ r := by
    refine Int.not_lt.1 fun hlt => ?_
    rcases Int.lt_or_le r 1 with h5 | h5
    · have := Int.mul_nonneg (show 0 ≤ q by omega) (show 0 ≤ -r by omega)
      rw [Int.mul_neg] at this
      omega
    · obtain rfl : r = 1 := by omega
      omega
  rcases Int.lt_or_le r q with hlt | hge
  · have hrr : r * r ≤ p := by
      rw [hr]
      exact Int.mul_le_mul (Int.le_of_lt hlt) (Int.le_refl r) (by omega) (by omega)
    have hb := le_of_sq r 100 p (by omega) hrr (by omega)
    exact prFrom_no 200 2 (by omega) h3 r (by omega) (by omega) hrr ⟨q, by rw [hr, Int.mul_comm]⟩
  · have hqq : q * q ≤ p := by
      rw [hr]
      exact Int.mul_le_mul (Int.le_refl q) hge (by omega) (by omega)
    have hb := le_of_sq q 100 p (by omega) hqq (by omega)
    exact prFrom_no 200 2 (by omega) h3 q (by omega) (by omega) hqq ⟨r, hr⟩
theorem pr_gcd {p a : Int} (h : isPr p = true) (h0 : 0 < a) (h1 : a < p) : Int.gcd a p = 1 := by
  have hp := isPr_bds h
  have d1 : ((Int.gcd a p : Nat) : Int) ∣ a := Int.gcd_dvd_left ..
  have d2 : ((Int.gcd a p : Nat) : Int) ∣ p := Int.gcd_dvd_right ..
  have hle := Int.le_of_dvd h0 d1
  have hpos : 0 < Int.gcd a p := Int.gcd_pos_of_ne_zero_left _ (by omega)
  by_cases e : Int.gcd a p = 1
  · exact e
  · exact absurd d2 (pr_div h (by omega) (by omega))
/-- A prime divides a factor of what it divides. -/
theorem pr_mul {p a b : Int} (h : isPr p = true) (hd : p ∣ a * b) : p ∣ a ∨ p ∣ b := by
  have hp := isPr_bds h
  by_cases h0 : a % p = 0
  · exact .inl (Int.dvd_of_emod_eq_zero h0)
  · right
    obtain ⟨b1, b2⟩ := emod_bds a p (by omega)
    have hg := pr_gcd h (show 0 < a % p by omega) b2
    have e1 := Int.emod_add_mul_ediv a p
    have hd2 : p ∣ a % p * b := by
      have e2 : (a % p + p * (a / p)) * b = a * b := by rw [e1]
      have : a % p * b = a * b - p * (a / p * b) := by rw [← e2]; grind
      rw [this]
      exact Int.dvd_sub hd ⟨_, rfl⟩
    exact dvd_of_gcd_one hd2 (by rw [Int.gcd_comm]; exact hg)
theorem dvd_emod (a p : Int) : p ∣ a % p - a := ⟨-(a / p), by have := Int.emod_add_mul_ediv a p; rw [Int.mul_neg]; omega⟩
theorem dvd_sumTo {p : Int} {f : Nat → Int} : ∀ n, (∀ k, k < n → p ∣ f k) → p ∣ sumTo f n
  | 0, _ => Int.dvd_zero _
  | n + 1, h => by rw [sumTo_succ]; exact Int.dvd_add (dvd_sumTo n fun k hk => h k (by omega)) (h n (by omega))
theorem dvd_sumTo_sub {p : Int} {f g : Nat → Int} (n : Nat) (h : ∀ k, k < n → p ∣ f k - g k) : p ∣ sumTo f n - sumTo g n := by
  rw [← sumTo_sub]
  exact dvd_sumTo n h
/-- The right half keeps account of what is done to the left one; and it takes no column but that of zeros to zeros. -/
structure EI (n : Nat) (p : Int) (m f : Fn2) : Prop where
  lin : ∀ i c, i < n → c < n → p ∣ f i c - sumTo (fun k => f i (n + k) * m k c) n
  inj : ∀ z : Nat → Int, (∀ i, i < n → p ∣ sumTo (fun k => f i (n + k) * z k) n) → ∀ k, k < n → p ∣ z k
theorem EI.swap {n : Nat} {p : Int} {m f : Fn2} {k t : Nat} (h : EI n p m f) (hk : k < n) (ht : t < n) : EI n p m (swF f k t) := by
  have key : ∀ i, i < n → (if i = k then t else if i = t then k else i) < n := fun i hi => by
    split
    · exact ht
    · split
      · exact hk
      · exact hi
  refine ⟨fun i c hi hc => h.lin _ c (key i hi) hc, fun z hz => h.inj z fun i hi => ?_⟩
  have := hz (if i = k then t else if i = t then k else i) (key i hi)
  have e : (if (if i = k then t else if i = t then k else i) = k then t else if (if i = k then t else if i = t then k else i) = t then k else (if i = k then t else if i = t then k else i)) = i := by
    split <;> split <;> (try split) <;> omega
  have e2 : ∀ c, swF f k t (if i = k then t else if i = t then k else i) c = f i c := fun c => by
    unfold swF
    rw [e]
  rw [sumTo_congr n fun l _ => by rw [e2 (n + l)]] at this
  exact this
/-- A row that is a sum of two. -/
theorem EI.row {n : Nat} {p a b : Int} {m f : Fn2} {g : Nat → Int} {i t c : Nat} (h : EI n p m f) (hi : i < n) (ht : t < n) (hc : c < n) (hg : ∀ q, p ∣ g q - (a * f i q + b * f t q)) : p ∣ g c - sumTo (fun k => g (n + k) * m k c) n := by
  have h1 := h.lin i c hi hc
  have h2 := h.lin t c ht hc
  have h3 : p ∣ sumTo (fun k => g (n + k) * m k c) n - sumTo (fun k => (a * f i (n + k) + b * f t (n + k)) * m k c) n := dvd_sumTo_sub n fun k _ => by
    rw [← Int.sub_mul]
    exact Int.dvd_trans (hg (n + k)) ⟨_, rfl⟩
  have h4 : sumTo (fun k => (a * f i (n + k) + b * f t (n + k)) * m k c) n = a * sumTo (fun k => f i (n + k) * m k c) n + b * sumTo (fun k => f t (n + k) * m k c) n := by
    rw [← sumTo_mul', ← sumTo_mul', ← sumTo_add]
    exact sumTo_congr n fun k _ => by grind
  rw [h4] at h3
  generalize sumTo (fun k => f i (n + k) * m k c) n = S at *
  generalize sumTo (fun k => f t (n + k) * m k c) n = T at *
  generalize sumTo (fun k => g (n + k) * m k c) n = U at *
  have e : g c - U = (g c - (a * f i c + b * f t c)) + a * (f i c - S) + b * (f t c - T) - (U - (a * S + b * T)) := by grind
  rw [e]
  exact Int.dvd_sub (Int.dvd_add (Int.dvd_add (hg c) (Int.dvd_trans h1 ⟨a, by rw [Int.mul_comm]⟩)) (Int.dvd_trans h2 ⟨b, by rw [Int.mul_comm]⟩)) h3
theorem EI.sc {n : Nat} {p x y : Int} {m f : Fn2} {t : Nat} (h : EI n p m f) (ht : t < n) (hx : p ∣ y * x - 1) : EI n p m (scF f t x p) := by
  have e0 : ∀ q, scF f t x p t q = f t q * x % p := fun q => by unfold scF; rw [if_pos rfl]
  have e1 : ∀ i q, i ≠ t → scF f t x p i q = f i q := fun i q hne => by unfold scF; rw [if_neg hne]
  refine ⟨fun i c hi hc => ?_, fun z hz => h.inj z fun i hi => ?_⟩
  · by_cases hit : i = t
    · subst hit
      refine h.row (a := x) (b := 0) (g := fun q => scF f i x p i q) hi hi hc fun q => ?_
      show p ∣ scF f i x p i q - _
      rw [e0, Int.zero_mul, Int.add_zero, Int.mul_comm x]
      exact dvd_emod _ _
    · rw [e1 i c hit, sumTo_congr n fun k _ => by rw [e1 i (n + k) hit]]
      exact h.lin i c hi hc
  · by_cases hit : i = t
    · subst hit
      have h1 := hz i hi
      have h2 : p ∣ sumTo (fun k => scF f i x p i (n + k) * z k) n - sumTo (fun k => f i (n + k) * z k) n * x := by
        rw [← sumTo_mul]
        refine dvd_sumTo_sub n fun k _ => ?_
        rw [e0]
        have : f i (n + k) * x % p * z k - f i (n + k) * z k * x = (f i (n + k) * x % p - f i (n + k) * x) * z k := by grind
        rw [this]
        exact Int.dvd_trans (dvd_emod _ _) ⟨_, rfl⟩
      generalize sumTo (fun k => f i (n + k) * z k) n = S at *
      generalize sumTo (fun k => scF f i x p i (n + k) * z k) n = U at *
      have e : S = y * (U - (U - S * x)) - S * (y * x - 1) := by grind
      rw [e]
      exact Int.dvd_sub (Int.dvd_trans (Int.dvd_sub h1 h2) ⟨y, by rw [Int.mul_comm]⟩) (Int.dvd_trans hx ⟨S, by rw [Int.mul_comm]⟩)
    · have h1 := hz i hi
      rw [sumTo_congr n fun k _ => by rw [e1 i (n + k) hit]] at h1
      exact h1
theorem EI.el {n : Nat} {p : Int} {m f : Fn2} {t j : Nat} (h : EI n p m f) (ht : t < n) : EI n p m (elF f t j p) := by
  have e0 : ∀ q, elF f t j p t q = f t q := fun q => by unfold elF; rw [if_neg (fun h => h rfl)]
  have e1 : ∀ i q, i ≠ t → elF f t j p i q = (f i q - f i j * f t q) % p := fun i q hne => by unfold elF elAt; rw [if_pos hne]
  refine ⟨fun i c hi hc => ?_, fun z hz => h.inj z fun i hi => ?_⟩
  · by_cases hit : i = t
    · subst hit
      rw [e0, sumTo_congr n fun k _ => by rw [e0 (n + k)]]
      exact h.lin i c hi hc
    · refine h.row (a := 1) (b := -f i j) (g := fun q => elF f t j p i q) hi ht hc fun q => ?_
      show p ∣ elF f t j p i q - _
      rw [e1 i q hit]
      have : (1 : Int) * f i q + -f i j * f t q = f i q - f i j * f t q := by grind
      rw [this]
      exact dvd_emod _ _
  · have ht0 := hz t ht
    rw [sumTo_congr n fun k _ => by rw [e0 (n + k)]] at ht0
    by_cases hit : i = t
    · subst hit; exact ht0
    · have h1 := hz i hi
      have h2 : p ∣ sumTo (fun k => elF f t j p i (n + k) * z k) n - sumTo (fun k => (f i (n + k) - f i j * f t (n + k)) * z k) n := by
        refine dvd_sumTo_sub n fun k _ => ?_
        rw [e1 i _ hit, ← Int.sub_mul]
        exact Int.dvd_trans (dvd_emod _ _) ⟨_, rfl⟩
      have h3 : sumTo (fun k => (f i (n + k) - f i j * f t (n + k)) * z k) n = sumTo (fun k => f i (n + k) * z k) n - f i j * sumTo (fun k => f t (n + k) * z k) n := by
        rw [← sumTo_mul', ← sumTo_sub]
        exact sumTo_congr n fun k _ => by grind
      rw [h3] at h2
      generalize sumTo (fun k => f i (n + k) * z k) n = S at *
      generalize sumTo (fun k => f t (n + k) * z k) n = T at *
      generalize sumTo (fun k => elF f t j p i (n + k) * z k) n = U at *
      have e : S = U - (U - (S - f i j * T)) + T * f i j := by grind
      rw [e]
      exact Int.dvd_add (Int.dvd_sub h1 h2) (Int.dvd_trans ht0 ⟨_, rfl⟩)
theorem EI.start (n : Nat) (p : Int) (m : Fn2) : EI n p m (wideF n m) := by
  have e : ∀ i k, wideF n m i (n + k) = if k = i then 1 else 0 := fun i k => by
    unfold wideF
    rw [if_neg (by omega)]
    by_cases h : k = i
    · rw [if_pos h, if_pos (by omega)]
    · rw [if_neg h, if_neg (by omega)]
  have s : ∀ (z : Nat → Int) i, i < n → sumTo (fun k => wideF n m i (n + k) * z k) n = z i := fun z i hi => by
    rw [sumTo_one n hi (fun k _ hne => by rw [e, if_neg hne, Int.zero_mul])]
    rw [e, if_pos rfl, Int.one_mul]
  refine ⟨fun i c hi hc => ?_, fun z hz k hk => ?_⟩
  · rw [s (fun k => m k c) i hi]
    unfold wideF
    rw [if_pos hc, Int.sub_self]
    exact Int.dvd_zero _
  · have := hz k hk
    rwa [s z k hk] at this
/-- The columns done are those of the unit matrix. -/
def Un (n j : Nat) (f : Fn2) : Prop := ∀ i c, i < n → c < j → f i c = if i = c then 1 else 0
/-- A column with a pivot. -/
theorem colE_piv {n j : Nat} {p d : Int} {m f : Fn2} (hp : isPr p = true) (hf : ∀ i c, 0 ≤ f i c ∧ f i c < p) (hE : EI n p m f) (hU : Un n j f) (hj : j < n) (hk : fnd f j (n - j) j < n) :
    EI n p m (colE n p ⟨f, j, d⟩ j).f ∧ Un n (j + 1) (colE n p ⟨f, j, d⟩ j).f ∧ (colE n p ⟨f, j, d⟩ j).t = j + 1 ∧ (∀ i c, 0 ≤ (colE n p ⟨f, j, d⟩ j).f i c ∧ (colE n p ⟨f, j, d⟩ j).f i c < p) := by
  have hp2 := isPr_bds hp
  have hkl := fnd_le f j (n - j) j
  have hne := fnd_ne f j (n - j) j (by omega)
  have hv : colE n p ⟨f, j, d⟩ j = ⟨elF (scF (swF f (fnd f j (n - j) j) j) j (invOf (swF f (fnd f j (n - j) j) j j j) p) p) j j p, j + 1, (if fnd f j (n - j) j = j then d else (-d) % p) * swF f (fnd f j (n - j) j) j j j % p⟩ := by
    unfold colE
    simp only
    rw [if_neg (by omega)]
  rw [hv]
  generalize fnd f j (n - j) j = k at *
  have hp1 : swF f k j j j = f k j := swF_t f k j j
  rw [hp1]
  have hb := hf k j
  have hinv := invOf_spec (a := f k j) (m := p) (by omega) (by omega) (pr_gcd hp (by omega) hb.2)
  generalize invOf (f k j) p = x at *
  have E1 := hE.swap (k := k) (t := j) (by omega) hj
  have E2 := E1.sc hj hinv
  refine ⟨E2.el hj, ?_, rfl, fun i c => ?_⟩
  · have hU1 : Un n j (swF f k j) := fun i c hi hc => by
      unfold swF
      split
      · rename_i e
        rw [hU j c hj hc, if_neg (by omega), if_neg (by omega)]
      · split
        · rename_i e
          rw [hU k c (by omega) hc, if_neg (by omega), if_neg (by omega)]
        · exact hU i c hi hc
    have s0 : ∀ c, c < j → scF (swF f k j) j x p j c = 0 := fun c hc => by
      unfold scF
      rw [if_pos rfl, hU1 j c hj hc, if_neg (by omega), Int.zero_mul]
      exact Int.zero_emod _
    have s1 : scF (swF f k j) j x p j j = 1 := by
      unfold scF
      rw [if_pos rfl, hp1]
      obtain ⟨q, hq⟩ := hinv
      have : f k j * x = 1 + p * q := by omega
      rw [this, Int.add_mul_emod_self_left]
      exact Int.emod_eq_of_lt (by omega) (by omega)
    have s2 : ∀ i c, i ≠ j → scF (swF f k j) j x p i c = swF f k j i c := fun i c h => by unfold scF; rw [if_neg h]
    intro i c hi hc
    show elF _ j j p i c = _
    by_cases hij : i = j
    · subst hij
      have : elF (scF (swF f k i) i x p) i i p i c = scF (swF f k i) i x p i c := by unfold elF; rw [if_neg (fun h => h rfl)]
      rw [this]
      by_cases hcj : c = i
      · subst hcj; rw [s1, if_pos rfl]
      · rw [s0 c (by omega), if_neg (fun e => hcj e.symm)]
    · have : elF (scF (swF f k j) j x p) j j p i c = (swF f k j i c - swF f k j i j * scF (swF f k j) j x p j c) % p := by
        unfold elF elAt
        rw [if_pos hij, s2 i c hij, s2 i j hij]
      rw [this]
      by_cases hcj : c = j
      · subst hcj
        rw [s1, Int.mul_one, Int.sub_self, if_neg hij]
        exact Int.zero_emod _
      · rw [s0 c (by omega), Int.mul_zero, Int.sub_zero, hU1 i c hi (by omega)]
        split
        · exact Int.emod_eq_of_lt (by omega) (by omega)
        · exact Int.zero_emod _
  · show 0 ≤ elF _ j j p i c ∧ elF _ j j p i c < p
    unfold elF elAt
    split
    · exact emod_bds _ _ (by omega)
    · unfold scF
      split
      · exact emod_bds _ _ (by omega)
      · exact hf _ _
theorem colE_skip {n j : Nat} {p : Int} {s : ESt} (hk : ¬ fnd s.f j (n - s.t) s.t < n) : colE n p s j = s := by
  unfold colE
  simp only
  rw [if_pos (by omega)]
theorem colE_t (n j : Nat) (p : Int) (s : ESt) : (colE n p s j).t ≤ s.t + 1 := by
  unfold colE
  simp only
  split
  · omega
  · exact Nat.le_refl _
theorem colsE_t (n : Nat) (p : Int) : ∀ m j (s : ESt), (colsE n p m j s).t ≤ s.t + m
  | 0, _, _ => Nat.le_refl _
  | m + 1, j, s => by
    have h1 := colsE_t n p m (j + 1) (colE n p s j)
    have h2 := colE_t n j p s
    show (colsE n p m (j + 1) (colE n p s j)).t ≤ _
    omega
/-- All columns have pivots: the left half is the unit matrix. -/
theorem colsE_unit {n : Nat} {p : Int} {m : Fn2} (hp : isPr p = true) : ∀ q j (s : ESt), j + q = n → s.t = j → (∀ i c, 0 ≤ s.f i c ∧ s.f i c < p) → EI n p m s.f → Un n j s.f → n ≤ (colsE n p q j s).t → EI n p m (colsE n p q j s).f ∧ Un n n (colsE n p q j s).f
  | 0, j, s, hq, ht, hf, hE, hU, hn => by
    obtain rfl : j = n := by omega
    exact ⟨hE, hU⟩
  | q + 1, j, s, hq, ht, hf, hE, hU, hn => by
    obtain ⟨f, t, d⟩ := s
    dsimp only at ht hf hE hU
    subst ht
    have hn' : n ≤ (colsE n p q (t + 1) (colE n p ⟨f, t, d⟩ t)).t := hn
    by_cases hk : fnd f t (n - t) t < n
    · obtain ⟨a, b, c, e⟩ := colE_piv (d := d) hp hf hE hU (by omega) hk
      exact colsE_unit hp q (t + 1) (colE n p ⟨f, t, d⟩ t) (by omega) c e a b hn'
    · rw [colE_skip (s := ⟨f, t, d⟩) hk] at hn'
      have := colsE_t n p q (t + 1) ⟨f, t, d⟩
      dsimp only at this
      omega
/-- What the elimination of the wide matrix leaves: v m and m v are the unit matrix, over residues. -/
theorem wide_inv {n : Nat} {p : Int} {m : Fn2} (hp : isPr p = true) (hm : ∀ i c, 0 ≤ m i c ∧ m i c < p) (hw : ∀ i c, 0 ≤ wideF n m i c ∧ wideF n m i c < p) (hn : n ≤ (runE n n p (wideF n m)).t) :
    ∀ i j, i < n → j < n → p ∣ sumTo (fun k => m i k * (runE n n p (wideF n m)).f k (n + j)) n - (if i = j then 1 else 0) := by
  obtain ⟨hE, hU⟩ := colsE_unit hp n 0 ⟨wideF n m, 0, 1⟩ (by omega) rfl hw (EI.start n p m) (fun i c _ hc => absurd hc (Nat.not_lt_zero _)) hn
  have hE : EI n p m (runE n n p (wideF n m)).f := hE
  have hU : Un n n (runE n n p (wideF n m)).f := hU
  generalize (runE n n p (wideF n m)).f = f at *
  intro i j hi hj
  refine hE.inj (fun i => sumTo (fun k => m i k * f k (n + j)) n - (if i = j then 1 else 0)) (fun a ha => ?_) i hi
  -- v (m v - 1) = (v m - 1) v
  have h1 : sumTo (fun i => f a (n + i) * (sumTo (fun k => m i k * f k (n + j)) n - (if i = j then 1 else 0))) n = sumTo (fun k => sumTo (fun i => f a (n + i) * m i k) n * f k (n + j)) n - f a (n + j) := by
    have e1 : sumTo (fun i => f a (n + i) * (sumTo (fun k => m i k * f k (n + j)) n - (if i = j then 1 else 0))) n = sumTo (fun i => f a (n + i) * sumTo (fun k => m i k * f k (n + j)) n) n - sumTo (fun i => f a (n + i) * (if i = j then 1 else 0)) n := by
      rw [← sumTo_sub]
      exact sumTo_congr n fun k _ => by rw [Int.mul_sub]
    rw [e1, sumTo_one (f := fun i => f a (n + i) * (if i = j then 1 else 0)) n hj (fun k _ hne => by show _ * (if k = j then 1 else 0) = 0; rw [if_neg hne, Int.mul_zero]), if_pos rfl, Int.mul_one]
    have e2 : sumTo (fun i => f a (n + i) * sumTo (fun k => m i k * f k (n + j)) n) n = sumTo (fun i => sumTo (fun k => f a (n + i) * m i k * f k (n + j)) n) n := sumTo_congr n fun k _ => by
      rw [← sumTo_mul']
      exact sumTo_congr n fun l _ => by rw [Int.mul_assoc]
    rw [e2, sumTo_swap]
    congr 1
    exact sumTo_congr n fun k _ => by rw [sumTo_mul]
  rw [h1]
  have h2 : p ∣ sumTo (fun k => sumTo (fun i => f a (n + i) * m i k) n * f k (n + j)) n - sumTo (fun k => (if a = k then 1 else 0) * f k (n + j)) n := dvd_sumTo_sub n fun k hk => by
    rw [← Int.sub_mul]
    have := hE.lin a k ha hk
    rw [hU a k ha hk] at this
    exact Int.dvd_trans (by have := Int.dvd_neg.2 this; rwa [Int.neg_sub] at this) ⟨_, rfl⟩
  rw [sumTo_one (f := fun k => (if a = k then 1 else 0) * f k (n + j)) n ha (fun k _ hne => by show (if a = k then 1 else 0) * _ = 0; rw [if_neg (fun e => hne e.symm), Int.zero_mul]), if_pos rfl, Int.one_mul] at h2
  exact h2
/-- The elimination of two matrices that agree in the columns that it looks at. -/
theorem colE_agree {R C : Nat} {p : Int} {f g : Fn2} {t j : Nat} {d : Int} (h : ∀ i c, c < C → f i c = g i c) (hj : j < C) :
    (∀ i c, c < C → (colE R p ⟨f, t, d⟩ j).f i c = (colE R p ⟨g, t, d⟩ j).f i c) ∧ (colE R p ⟨f, t, d⟩ j).t = (colE R p ⟨g, t, d⟩ j).t ∧ (colE R p ⟨f, t, d⟩ j).d = (colE R p ⟨g, t, d⟩ j).d := by
  have hk : ∀ n k, fnd f j n k = fnd g j n k := fun n => by
    induction n with
    | zero => intro k; rfl
    | succ n ih => intro k; unfold fnd; rw [h k j hj, ih]
  unfold colE
  simp only
  rw [hk]
  generalize fnd g j (R - t) t = k
  have s1 : ∀ i c, c < C → swF f k t i c = swF g k t i c := fun i c hc => h _ c hc
  rw [s1 t j hj]
  split
  · exact ⟨h, rfl, rfl⟩
  · refine ⟨fun i c hc => ?_, rfl, rfl⟩
    have s2 : ∀ i c, c < C → scF (swF f k t) t (invOf (swF g k t t j) p) p i c = scF (swF g k t) t (invOf (swF g k t t j) p) p i c := fun i c hc => by
      unfold scF
      rw [s1 t c hc, s1 i c hc]
    show elF _ t j p i c = elF _ t j p i c
    unfold elF elAt
    rw [s2 i c hc, s2 i j hj, s2 t c hc]
theorem colsE_agree {R C : Nat} {p : Int} : ∀ q j (f g : Fn2) (t : Nat) (d : Int), j + q ≤ C → (∀ i c, c < C → f i c = g i c) →
    (colsE R p q j ⟨f, t, d⟩).t = (colsE R p q j ⟨g, t, d⟩).t ∧ (colsE R p q j ⟨f, t, d⟩).d = (colsE R p q j ⟨g, t, d⟩).d
  | 0, j, f, g, t, d, _, _ => ⟨rfl, rfl⟩
  | q + 1, j, f, g, t, d, hq, h => by
    obtain ⟨a, b, c⟩ := colE_agree (R := R) (p := p) (t := t) (d := d) h (show j < C by omega)
    show (colsE R p q (j + 1) (colE R p ⟨f, t, d⟩ j)).t = (colsE R p q (j + 1) (colE R p ⟨g, t, d⟩ j)).t ∧ (colsE R p q (j + 1) (colE R p ⟨f, t, d⟩ j)).d = (colsE R p q (j + 1) (colE R p ⟨g, t, d⟩ j)).d
    generalize colE R p ⟨f, t, d⟩ j = s at *
    generalize colE R p ⟨g, t, d⟩ j = s' at *
    obtain ⟨f1, t1, d1⟩ := s
    obtain ⟨f2, t2, d2⟩ := s'
    dsimp only at a b c
    subst b; subst c
    exact colsE_agree q (j + 1) f1 f2 t1 d1 (by omega) a
theorem wide_t (n : Nat) (p : Int) (m : Fn2) : (runE n n p (wideF n m)).t = (runE n n p m).t :=
  (colsE_agree (R := n) (C := n) n 0 (wideF n m) m 0 1 (by omega) fun i c hc => by unfold wideF; rw [if_pos hc]).1
/-- The determinant's residue is not 0 if all columns have pivots. -/
theorem colE_d {R : Nat} {p : Int} {s : ESt} (hp : isPr p = true) (hf : EOk R p s) (hd : s.d ≠ 0) (j : Nat) : (colE R p s j).d ≠ 0 := by
  have hp2 := isPr_bds hp
  unfold colE
  simp only
  split
  · exact hd
  · rename_i hk
    have hk2 := fnd_le s.f j (R - s.t) s.t
    have hne := fnd_ne s.f j (R - s.t) s.t (by omega)
    show (if _ then _ else _) * _ % p ≠ 0
    rw [swF_t]
    intro h0
    have hb := hf.f0 (fnd s.f j (R - s.t) s.t) j
    have hdb := hf.d0
    have hd2 : ∀ x : Int, p ∣ x → 0 < x → x < p → False := fun x hx h1 h2 => by have := Int.le_of_dvd h1 hx; omega
    rcases pr_mul hp (Int.dvd_of_emod_eq_zero h0) with h1 | h1
    · split at h1
      · exact hd2 _ h1 (by omega) hdb.2
      · have h3 : p ∣ s.d := by
          have := Int.dvd_sub h1 (dvd_emod (-s.d) p)
          have e : (-s.d) % p - ((-s.d) % p - -s.d) = -s.d := by omega
          rw [e] at this
          exact Int.dvd_neg.1 this
        exact hd2 _ h3 (by omega) hdb.2
    · exact hd2 _ h1 (by omega) hb.2
theorem colsE_d {R : Nat} {p : Int} (hp : isPr p = true) : ∀ n j (s : ESt), EOk R p s → s.d ≠ 0 → (colsE R p n j s).d ≠ 0
  | 0, _, _, _, h => h
  | n + 1, j, s, ho, h => colsE_d hp n (j + 1) (colE R p s j) (colE_ok (isPr_bds hp).1 ho j) (colE_d hp ho h j)
end Go.Proofs.YtlggfmfelakadaaGreatDoor

/-
  DERIVED. A matrix times a list, over residues. No program in sight.
-/
namespace Go.Proofs.YtlggfmfelakadaaGreatDoor
set_option linter.unusedVariables false
/-- The sum of the first k products, as a residue. -/
def smS (f : Nat → Nat → Int) (bs : List Int) (p : Int) (i : Nat) : Nat → Int
  | 0 => 0
  | k + 1 => (smS f bs p i k + f i k * (bs.getD k 0 % p)) % p
theorem smS_bd {f : Nat → Nat → Int} {bs : List Int} {p : Int} (hp : 2 ≤ p) (i : Nat) : ∀ k, 0 ≤ smS f bs p i k ∧ smS f bs p i k < p
  | 0 => by unfold smS; omega
  | k + 1 => by unfold smS; exact emod_bds _ _ (by omega)
def smL (R L : Nat) (f : Nat → Nat → Int) (bs : List Int) (p : Int) : List Int := tab R fun i => smS f bs p i L
theorem smL_len (R L : Nat) (f : Nat → Nat → Int) (bs : List Int) (p : Int) : (smL R L f bs p).length = R := tab_len _ _
def smB (r c : Int) (xs bs : List Int) (p : Int) : Bool := imB r c xs p && decide ((bs.length : Int) = r) && bs.all isNum
def smV (r c : Int) (xs bs : List Int) (p : Int) : List Int := if smB r c xs bs p then smL r.toNat r.toNat (fun i j => (imS r c xs p).f i (r.toNat + j)) bs p else []
theorem sm_cases (r c : Int) (xs bs : List Int) (p : Int) : (imB r c xs p = false ∧ smB r c xs bs p = false) ∨ (imB r c xs p = true ∧ ((bs.length : Int) != r) = true ∧ smB r c xs bs p = false) ∨
    (imB r c xs p = true ∧ ((bs.length : Int) != r) = false ∧ bs.all isNum = false ∧ smB r c xs bs p = false) ∨ (imB r c xs p = true ∧ ((bs.length : Int) != r) = false ∧ bs.all isNum = true ∧ smB r c xs bs p = true) := by
  unfold smB
  rcases imB r c xs p with _ | _
  · left; simp
  · right
    by_cases h : (bs.length : Int) = r
    · right
      rcases hb : bs.all isNum with _ | _
      · left; simp [h]
      · right; simp [h]
    · left; simp [h]
theorem smV_no {r c : Int} {xs bs : List Int} {p : Int} (h : smB r c xs bs p = false) : smV r c xs bs p = [] := by unfold smV; rw [h]; rfl
theorem smV_yes {r c : Int} {xs bs : List Int} {p : Int} (h : smB r c xs bs p = true) : smV r c xs bs p = smL r.toNat r.toNat (fun i j => (imS r c xs p).f i (r.toNat + j)) bs p := by unfold smV; rw [h]; rfl
/-- What holds where there is an inverse. -/
structure ImOk (r c : Int) (xs : List Int) (p : Int) : Prop where
  r0 : 0 ≤ r
  r1 : r ≤ 12
  p1 : 2 ≤ p
  p2 : p ≤ 10000
  f0 : ∀ i j : Nat, 0 ≤ (imS r c xs p).f i j ∧ (imS r c xs p).f i j < p
theorem imOk_of {r c : Int} {xs : List Int} {p : Int} (h : imB r c xs p = true) : ImOk r c xs p := by
  rcases im_cases r c xs p with ⟨_, hi⟩ | ⟨_, _, hi⟩ | ⟨_, _, _, hi⟩ | ⟨hb, hrc, h12, hi⟩
  iterate 3
    · rw [hi] at h; cases h
  · have K := redOk hb
    have h0 := K.m.r0
    refine ⟨K.m.r0, h12, K.pb.1, K.pb.2, ?_⟩
    have := colsE_ok (R := r.toNat) K.pb.1 r.toNat 0 ⟨wideF r.toNat (rmF c xs p), 0, 1⟩ ⟨wideF_bd K.pb.1 K.f0, Nat.zero_le _, by show (0 : Int) ≤ 1 ∧ (1 : Int) < p; have := K.pb.1; omega⟩
    exact this.f0
theorem smV_len (r c : Int) (xs bs : List Int) (p : Int) : (smV r c xs bs p).length ≤ 1048576 := by
  rcases hb : smB r c xs bs p with _ | _
  · rw [smV_no hb]; exact Nat.zero_le _
  · rw [smV_yes hb, smL_len]
    have h1 : imB r c xs p = true := by
      unfold smB at hb
      rcases h : imB r c xs p with _ | _
      · rw [h] at hb; simp at hb
      · rfl
    have K := imOk_of h1
    have h2 := K.r1
    omega
end Go.Proofs.YtlggfmfelakadaaGreatDoor

/-
  DERIVED. InverseMod, DeterminantMod, SolveMod together: no program in sight.
-/
namespace Go.Proofs.YtlggfmfelakadaaGreatDoor
set_option linter.unusedVariables false
/-- The inverse, place by place. -/
def imV (R : Nat) (xs : List Int) (p : Int) : Fn2 := fun i j => (imS R R xs p).f i (R + j)
theorem im_parts {r c : Int} {xs : List Int} {p : Int} (h : imB r c xs p = true) : ∃ R : Nat, r = R ∧ c = R ∧ R ≤ 12 ∧ redB R R xs p = true ∧ R ≤ (imS R R xs p).t := by
  rcases im_cases r c xs p with ⟨_, hi⟩ | ⟨_, _, hi⟩ | ⟨_, _, _, hi⟩ | ⟨hb, hrc, h12, hi⟩
  iterate 3
    · rw [hi] at h; cases h
  · have K := redOk hb
    obtain ⟨R, rfl⟩ := nat_of K.m.r0
    subst hrc
    refine ⟨R, rfl, rfl, by omega, hb, ?_⟩
    unfold imB at h
    rw [Bool.and_eq_true, decide_eq_true_eq] at h
    omega
/-- m v is the unit matrix, over residues. -/
theorem im_right {R : Nat} {xs : List Int} {p : Int} (hb : redB R R xs p = true) (ht : R ≤ (imS R R xs p).t) {i j : Nat} (hi : i < R) (hj : j < R) : p ∣ sumTo (fun k => rmF R xs p i k * imV R xs p k j) R - (if i = j then 1 else 0) := by
  have K := redOk hb
  exact wide_inv (m := rmF R xs p) K.pr K.f0 (wideF_bd K.pb.1 K.f0) ht i j hi hj
theorem im_prod {R : Nat} {xs : List Int} {p : Int} (hb : redB R R xs p = true) (ht : R ≤ (imS R R xs p).t) {i j : Nat} (hi : i < R) (hj : j < R) : sumTo (fun k => rmF R xs p i k * imV R xs p k j) R % p = idF i j := by
  have hp := (redOk hb).pb
  obtain ⟨q, hq⟩ := im_right hb ht hi hj
  have : sumTo (fun k => rmF R xs p i k * imV R xs p k j) R = (if i = j then 1 else 0) + p * q := by omega
  rw [this, Int.add_mul_emod_self_left]
  unfold idF
  split
  · exact Int.emod_eq_of_lt (by omega) (by omega)
  · exact Int.zero_emod _
/-- Where there is no inverse, the determinant's residue is 0. -/
theorem im_none {r c : Int} {xs : List Int} {p : Int} (h : imB r c xs p = false) (hr : r ≤ 12) : detMB r c xs p = false ∨ detM r c xs p = 0 := by
  rcases im_cases r c xs p with ⟨hb, _⟩ | ⟨hb, hne, _⟩ | ⟨_, _, h12, _⟩ | ⟨hb, hrc, h12, _⟩
  · left; unfold detMB; rw [hb]; rfl
  · left
    unfold detMB
    rw [hb, Bool.true_and]
    simpa using hne
  · omega
  · right
    have K := redOk hb
    obtain ⟨R, rfl⟩ := nat_of K.m.r0
    subst hrc
    unfold imB at h
    have hok : imOk (R : Int) (R : Int) xs p = true := by unfold imOk; rw [hb]; simp; omega
    rw [hok, Bool.true_and, decide_eq_false_iff_not] at h
    have e : (imS R R xs p).t = (rmS R R xs p).t := wide_t R p (rmF R xs p)
    unfold detM
    split
    · rw [if_pos (by omega)]
    · rfl
/-- Where there is one, it is not. -/
theorem im_some {r c : Int} {xs : List Int} {p : Int} (h : imB r c xs p = true) : detMB r c xs p = true ∧ detM r c xs p ≠ 0 := by
  obtain ⟨R, rfl, rfl, h12, hb, ht⟩ := im_parts h
  have K := redOk hb
  have e : (imS R R xs p).t = (rmS R R xs p).t := wide_t R p (rmF R xs p)
  have hm : detMB (R : Int) (R : Int) xs p = true := by unfold detMB; rw [hb]; simp
  refine ⟨hm, ?_⟩
  unfold detM
  rw [if_pos hm, if_neg (by omega)]
  exact colsE_d K.pr _ 0 ⟨rmF R xs p, 0, 1⟩ ⟨K.f0, Nat.zero_le _, by show (0 : Int) ≤ 1 ∧ (1 : Int) < p; have := K.pb; omega⟩ (by show (1 : Int) ≠ 0; decide)
theorem smS_dvd {f : Fn2} {bs : List Int} {p : Int} (i : Nat) : ∀ k, p ∣ smS f bs p i k - sumTo (fun l => f i l * bs.getD l 0) k
  | 0 => by show p ∣ (0 : Int) - 0; rw [Int.sub_zero]; exact Int.dvd_zero _
  | k + 1 => by
    have ih := smS_dvd (f := f) (bs := bs) (p := p) i k
    show p ∣ (smS f bs p i k + f i k * (bs.getD k 0 % p)) % p - (sumTo (fun l => f i l * bs.getD l 0) k + f i k * bs.getD k 0)
    generalize smS f bs p i k = s at *
    generalize sumTo (fun l => f i l * bs.getD l 0) k = S at *
    generalize bs.getD k 0 = b at *
    have d1 := dvd_emod (s + f i k * (b % p)) p
    have d2 : p ∣ f i k * (b % p - b) := Int.dvd_trans (dvd_emod b p) ⟨f i k, by rw [Int.mul_comm]⟩
    have e : (s + f i k * (b % p)) % p - (S + f i k * b) = ((s + f i k * (b % p)) % p - (s + f i k * (b % p))) + (s - S) + f i k * (b % p - b) := by grind
    rw [e]
    exact Int.dvd_add (Int.dvd_add d1 ih) d2
/-- The law's own loop: the residue of what is left. -/
def imN (p n0 : Int) (m x : Nat → Int) : Nat → Int
  | 0 => n0
  | j + 1 => (imN p n0 m x j + (m j).tmod p * x j).tmod p
theorem dvd_tmod (a p : Int) : p ∣ a.tmod p - a := ⟨-(a.tdiv p), by have := Int.tmod_add_mul_tdiv a p; rw [Int.mul_neg]; omega⟩
theorem imN_dvd {p n0 : Int} {m x : Nat → Int} : ∀ j, p ∣ imN p n0 m x j - (n0 + sumTo (fun k => m k * x k) j)
  | 0 => by show p ∣ n0 - (n0 + 0); rw [Int.add_zero, Int.sub_self]; exact Int.dvd_zero _
  | j + 1 => by
    have ih := imN_dvd (p := p) (n0 := n0) (m := m) (x := x) j
    show p ∣ (imN p n0 m x j + (m j).tmod p * x j).tmod p - (n0 + (sumTo (fun k => m k * x k) j + m j * x j))
    generalize imN p n0 m x j = s at *
    generalize sumTo (fun k => m k * x k) j = S at *
    have d1 := dvd_tmod (s + (m j).tmod p * x j) p
    have d2 : p ∣ ((m j).tmod p - m j) * x j := Int.dvd_trans (dvd_tmod (m j) p) ⟨x j, rfl⟩
    have e : (s + (m j).tmod p * x j).tmod p - (n0 + (S + m j * x j)) = ((s + (m j).tmod p * x j).tmod p - (s + (m j).tmod p * x j)) + (s - (n0 + S)) + ((m j).tmod p - m j) * x j := by grind
    rw [e]
    exact Int.dvd_add (Int.dvd_add d1 ih) d2
theorem imN_zero {p n0 : Int} {m x : Nat → Int} {R : Nat} (hR : 0 < R) (h : p ∣ n0 + sumTo (fun k => m k * x k) R) : imN p n0 m x R = 0 := by
  obtain ⟨q, rfl⟩ : ∃ q, R = q + 1 := ⟨R - 1, by omega⟩
  have h1 := Int.dvd_add (imN_dvd (p := p) (n0 := n0) (m := m) (x := x) (q + 1)) h
  rw [Int.sub_add_cancel] at h1
  have h2 : p ∣ imN p n0 m x q + (m q).tmod p * x q := by
    have d1 := dvd_tmod (imN p n0 m x q + (m q).tmod p * x q) p
    have e : imN p n0 m x q + (m q).tmod p * x q = imN p n0 m x (q + 1) - ((imN p n0 m x q + (m q).tmod p * x q).tmod p - (imN p n0 m x q + (m q).tmod p * x q)) := by
      show _ = (imN p n0 m x q + (m q).tmod p * x q).tmod p - _
      omega
    rw [e]
    exact Int.dvd_sub h1 d1
  exact Int.tmod_eq_zero_of_dvd h2
/-- The solution that SolveMod finds solves. -/
theorem sm_solves {R : Nat} {xs bs : List Int} {p : Int} (hb : redB R R xs p = true) (ht : R ≤ (imS R R xs p).t) {i : Nat} (hi : i < R) :
    p ∣ sumTo (fun j => cel xs R i j * smS (imV R xs p) bs p j R) R - bs.getD i 0 := by
  have K := redOk hb
  -- m x = m (v b) = b
  have h1 : p ∣ sumTo (fun j => cel xs R i j * smS (imV R xs p) bs p j R) R - sumTo (fun j => rmF R xs p i j * sumTo (fun k => imV R xs p j k * bs.getD k 0) R) R := dvd_sumTo_sub R fun j hj => by
    have d1 : p ∣ rmF R xs p i j - cel xs R i j := by
      have M := K.m
      have e : rmF R xs p i j = cel xs R i j % p := by
        unfold rmF
        rw [Int.toNat_natCast, cel_nat, cel_nat]
        unfold redL
        have hl : xs.length = R * R := by have := M.len; rw [← Int.natCast_mul] at this; omega
        have := idx_nat hi hj
        simp [List.getD, show i * R + j < xs.length by omega]
      rw [e]
      exact dvd_emod _ _
    have d2 := smS_dvd (f := imV R xs p) (bs := bs) (p := p) j R
    generalize smS (imV R xs p) bs p j R = s at *
    generalize sumTo (fun l => imV R xs p j l * bs.getD l 0) R = S at *
    generalize rmF R xs p i j = a at *
    generalize cel xs R i j = b at *
    have e : b * s - a * S = b * (s - S) - (a - b) * S := by grind
    rw [e]
    exact Int.dvd_sub (Int.dvd_trans d2 ⟨b, by rw [Int.mul_comm]⟩) (Int.dvd_trans d1 ⟨S, rfl⟩)
  have h2 : sumTo (fun j => rmF R xs p i j * sumTo (fun k => imV R xs p j k * bs.getD k 0) R) R = sumTo (fun k => sumTo (fun j => rmF R xs p i j * imV R xs p j k) R * bs.getD k 0) R := by
    have e1 : sumTo (fun j => rmF R xs p i j * sumTo (fun k => imV R xs p j k * bs.getD k 0) R) R = sumTo (fun j => sumTo (fun k => rmF R xs p i j * imV R xs p j k * bs.getD k 0) R) R := sumTo_congr R fun j _ => by
      rw [← sumTo_mul']
      exact sumTo_congr R fun k _ => by rw [Int.mul_assoc]
    rw [e1, sumTo_swap]
    exact sumTo_congr R fun k _ => by rw [sumTo_mul]
  have h3 : p ∣ sumTo (fun k => sumTo (fun j => rmF R xs p i j * imV R xs p j k) R * bs.getD k 0) R - sumTo (fun k => (if i = k then 1 else 0) * bs.getD k 0) R := dvd_sumTo_sub R fun k hk => by
    rw [← Int.sub_mul]
    exact Int.dvd_trans (im_right hb ht hi hk) ⟨_, rfl⟩
  rw [sumTo_one (f := fun k => (if i = k then 1 else 0) * bs.getD k 0) R hi (fun k _ hne => by show (if i = k then 1 else 0) * _ = 0; rw [if_neg (fun e => hne e.symm), Int.zero_mul]), if_pos rfl, Int.one_mul, ← h2] at h3
  have := Int.dvd_add h1 h3
  have e : ∀ a b c : Int, a - b + (b - c) = a - c := fun a b c => by omega
  rwa [e] at this
end Go.Proofs.YtlggfmfelakadaaGreatDoor

/-
  DERIVED. Solutions by lifting: what both programs compute. No program in sight.
-/
namespace Go.Proofs.YtlggfmfelakadaaGreatDoor
set_option linter.unusedVariables false
/-- Whether one more round is done. -/
def liC (p : Int) (k : Nat) : Bool := decide (p ^ k ≤ 200000000) && decide (p ^ k ≤ 400000000 / p)
def liG (p : Int) : Nat → Nat → Nat
  | 0, k => k
  | m + 1, k => if liC p k then liG p m (k + 1) else k
def liK (p : Int) : Nat := liG p 6 0
theorem liG_go {p : Int} {m k : Nat} (h : liC p k = true) : liG p (m + 1) k = liG p m (k + 1) := by
  show (if _ then _ else _) = _
  rw [if_pos h]
theorem liG_stop {p : Int} {m k : Nat} (h : liC p k = false) : liG p m k = k := by
  cases m with
  | zero => rfl
  | succ m => show (if _ then _ else _) = _; rw [if_neg (by rw [h]; exact Bool.false_ne_true)]
theorem pow_one_le {p : Int} (hp : 1 ≤ p) : ∀ k : Nat, 1 ≤ p ^ k
  | 0 => by rw [Int.pow_zero]; omega
  | k + 1 => by
    rw [Int.pow_succ]
    have h1 := pow_one_le hp k
    have := Int.mul_le_mul h1 hp (by omega) (by omega)
    omega
theorem liC_iff {p : Int} {k : Nat} (hp : 1 ≤ p) : liC p k = true ↔ p ^ k ≤ 200000000 ∧ p ^ (k + 1) ≤ 400000000 := by
  unfold liC
  rw [Bool.and_eq_true, decide_eq_true_eq, decide_eq_true_eq, Int.le_ediv_iff_mul_le (by omega), Int.pow_succ]
theorem liC_small {p : Int} {k : Nat} (hp : 101 ≤ p) (h : liC p k = true) : k ≤ 3 := by
  refine Nat.le_of_not_lt fun hk => ?_
  have h2 := ((liC_iff (by omega)).1 h).2
  obtain ⟨d, hd⟩ : ∃ d, k + 1 = 5 + d := ⟨k - 4, by omega⟩
  rw [hd, Int.pow_add] at h2
  have h3 := pow_one_le (p := p) (by omega) d
  have a1 : (101 : Int) * 101 ≤ p * p := Int.mul_le_mul hp hp (by omega) (by omega)
  have a2 : (101 : Int) * 101 * 101 ≤ p * p * p := Int.mul_le_mul a1 hp (by omega) (by omega)
  have a3 : (101 : Int) * 101 * 101 * 101 ≤ p * p * p * p := Int.mul_le_mul a2 hp (by omega) (by omega)
  have a4 : (101 : Int) * 101 * 101 * 101 * 101 ≤ p * p * p * p * p := Int.mul_le_mul a3 hp (by omega) (by omega)
  have e : p ^ 5 = p * p * p * p * p := by
    rw [show (5 : Nat) = 0 + 1 + 1 + 1 + 1 + 1 from rfl]
    simp only [Int.pow_succ, Int.pow_zero, Int.one_mul]
  rw [e] at h2
  have a5 := Int.mul_le_mul a4 h3 (by omega) (by omega)
  omega
/-- The remainders behind a round. -/
def liR (n : Nat) (f : Fn2) (rs ds : List Int) (p : Int) : List Int := tab n fun i => (rs.getD i 0 - sumTo (fun k => f i k * ds.getD k 0) n).tdiv p
/-- The numbers behind a round. -/
def liX (n : Nat) (xs ds : List Int) (pw : Int) : List Int := tab n fun i => xs.getD i 0 + ds.getD i 0 * pw
/-- Remainders and numbers behind k rounds. -/
def liS (n : Nat) (f g : Fn2) (p : Int) (bs : List Int) : Nat → List Int × List Int
  | 0 => (bs, List.replicate n 0)
  | k + 1 => (liR n f (liS n f g p bs k).1 (smL n n g (liS n f g p bs k).1 p) p, liX n (liS n f g p bs k).2 (smL n n g (liS n f g p bs k).1 p) (p ^ k))
theorem liR_len (n : Nat) (f : Fn2) (rs ds : List Int) (p : Int) : (liR n f rs ds p).length = n := tab_len _ _
theorem liX_len (n : Nat) (xs ds : List Int) (pw : Int) : (liX n xs ds pw).length = n := tab_len _ _
theorem liS_len {n : Nat} {f g : Fn2} {p : Int} {bs : List Int} (hb : bs.length = n) : ∀ k, (liS n f g p bs k).1.length = n ∧ (liS n f g p bs k).2.length = n
  | 0 => ⟨hb, by simp [liS]⟩
  | k + 1 => ⟨liR_len _ _ _ _ _, liX_len _ _ _ _⟩
theorem getD_tab_bd {n : Nat} {f : Nat → Int} {P : Int → Prop} (h0 : P 0) (h : ∀ k, k < n → P (f k)) (k : Nat) : P ((tab n f).getD k 0) := by
  by_cases hk : k < n
  · rw [tab_getD hk]; exact h k hk
  · have e : (tab n f).getD k 0 = 0 := by simp only [List.getD, List.getElem?_eq_none (show (tab n f).length ≤ k by rw [tab_len]; omega)]; rfl
    rw [e]; exact h0
theorem smL_bd {n L : Nat} {g : Fn2} {bs : List Int} {p : Int} (hp : 2 ≤ p) (k : Nat) : 0 ≤ (smL n L g bs p).getD k 0 ∧ (smL n L g bs p).getD k 0 < p :=
  getD_tab_bd (P := fun x => 0 ≤ x ∧ x < p) (by omega) (fun k _ => smS_bd hp k L) k
/-- A row of the matrix times digits, as far as number j. -/
theorem liD_bd {n : Nat} {f : Fn2} {ds : List Int} {i : Nat} (hn : n ≤ 6) (hf : OKF n n f) (hi : i < n) (hd : ∀ k, 0 ≤ ds.getD k 0 ∧ ds.getD k 0 < 200) {j : Nat} (hj : j ≤ n) : -480000000000 ≤ sumTo (fun k => f i k * ds.getD k 0) j ∧ sumTo (fun k => f i k * ds.getD k 0) j ≤ 480000000000 := by
  have := sumTo_bd (f := fun k => f i k * ds.getD k 0) (b := 80000000000) (by omega) j fun k hk => by
    obtain ⟨a1, a2⟩ := hf i k hi (by omega)
    obtain ⟨b1, b2⟩ := hd k
    have h1 : (f i k * ds.getD k 0).natAbs ≤ 400000000 * 200 := by
      rw [Int.natAbs_mul]
      exact Nat.mul_le_mul (by omega) (by omega)
    omega
  have hj6 : (j : Int) ≤ 6 := by omega
  omega
theorem liR_bd {n : Nat} {f : Fn2} {rs ds : List Int} {p : Int} (hp : 101 ≤ p) (hn : n ≤ 6) (hf : OKF n n f) (hd : ∀ k, 0 ≤ ds.getD k 0 ∧ ds.getD k 0 < 200) (hr : ∀ k, -500000000000 ≤ rs.getD k 0 ∧ rs.getD k 0 ≤ 500000000000) (k : Nat) : -500000000000 ≤ (liR n f rs ds p).getD k 0 ∧ (liR n f rs ds p).getD k 0 ≤ 500000000000 := by
  refine getD_tab_bd (P := fun x => -500000000000 ≤ x ∧ x ≤ 500000000000) (by omega) (fun i hi => ?_) k
  have h1 := liD_bd hn hf hi hd (Nat.le_refl n)
  have h2 := hr i
  generalize sumTo (fun k => f i k * ds.getD k 0) n = s at *
  generalize rs.getD i 0 = r at *
  have h3 : ((r - s).tdiv p).natAbs ≤ (r - s).natAbs / 101 := by
    rw [Int.natAbs_tdiv]
    exact Nat.div_le_div_left (by omega) (by omega)
  omega
theorem liX_bd {n : Nat} {xs ds : List Int} {p : Int} {k : Nat} (hp : 1 ≤ p) (hd : ∀ k, 0 ≤ ds.getD k 0 ∧ ds.getD k 0 < p) (hx : ∀ i, 0 ≤ xs.getD i 0 ∧ xs.getD i 0 < p ^ k) (i : Nat) : 0 ≤ (liX n xs ds (p ^ k)).getD i 0 ∧ (liX n xs ds (p ^ k)).getD i 0 < p ^ (k + 1) := by
  have h1 := pow_one_le hp k
  have h2 := pow_one_le hp (k + 1)
  refine getD_tab_bd (P := fun x => 0 ≤ x ∧ x < p ^ (k + 1)) (by omega) (fun i hi => ?_) i
  obtain ⟨a1, a2⟩ := hx i
  obtain ⟨b1, b2⟩ := hd i
  rw [Int.pow_succ]
  generalize p ^ k = q at *
  generalize xs.getD i 0 = x at *
  generalize ds.getD i 0 = d at *
  have h3 : 0 ≤ d * q := Int.mul_nonneg b1 (by omega)
  have h4 : d * q ≤ (p - 1) * q := Int.mul_le_mul_of_nonneg_right (by omega) (by omega)
  have h5 : (p - 1) * q = q * p - q := by grind
  omega
theorem liS_bd {n : Nat} {f g : Fn2} {p : Int} {bs : List Int} (hp : 101 ≤ p) (hp2 : p < 200) (hn : n ≤ 6) (hf : OKF n n f) (hb : ∀ k, Num (bs.getD k 0)) : ∀ k, (∀ i, -500000000000 ≤ (liS n f g p bs k).1.getD i 0 ∧ (liS n f g p bs k).1.getD i 0 ≤ 500000000000) ∧ ∀ i, 0 ≤ (liS n f g p bs k).2.getD i 0 ∧ (liS n f g p bs k).2.getD i 0 < p ^ k
  | 0 => by
    refine ⟨fun i => ?_, fun i => ?_⟩
    · obtain ⟨a, b⟩ := hb i
      show _ ≤ bs.getD i 0 ∧ bs.getD i 0 ≤ _
      omega
    · show 0 ≤ (List.replicate n (0 : Int)).getD i 0 ∧ (List.replicate n (0 : Int)).getD i 0 < p ^ 0
      have e : (List.replicate n (0 : Int)).getD i 0 = 0 := by
        simp only [List.getD, List.getElem?_replicate]
        split <;> rfl
      rw [e, Int.pow_zero]; omega
  | k + 1 => by
    obtain ⟨h1, h2⟩ := liS_bd hp hp2 hn hf hb k
    have hd := fun i => smL_bd (n := n) (L := n) (g := g) (bs := (liS n f g p bs k).1) (p := p) (by omega) i
    exact ⟨fun i => liR_bd hp hn hf (fun k => by have := hd k; omega) h1 i, fun i => liX_bd (by omega) hd h2 i⟩
/-- New as far as number i, old from there on. -/
def mxT (n : Nat) (new old : List Int) (i : Nat) : List Int := tab n fun j => if j < i then new.getD j 0 else old.getD j 0
theorem mxT_len (n : Nat) (new old : List Int) (i : Nat) : (mxT n new old i).length = n := tab_len _ _
theorem tab_all {n : Nat} {xs : List Int} (h : xs.length = n) : tab n (fun j => xs.getD j 0) = xs := by
  apply List.ext_getElem?
  intro i
  by_cases hi : i < n
  · simp [tab, List.getD, hi, show i < xs.length by omega]
  · rw [List.getElem?_eq_none (by rw [tab_len]; omega), List.getElem?_eq_none (by omega)]
theorem tab_same {n : Nat} {f g : Nat → Int} (h : ∀ k, k < n → f k = g k) : tab n f = tab n g := List.map_congr_left fun k hk => h k (List.mem_range.1 hk)
theorem mxT_zero {n : Nat} {new old : List Int} (h : old.length = n) : mxT n new old 0 = old :=
  (tab_same fun j _ => if_neg (Nat.not_lt_zero _)).trans (tab_all h)
theorem mxT_end {n : Nat} {new old : List Int} (h : new.length = n) : mxT n new old n = new :=
  (tab_same fun j hj => if_pos hj).trans (tab_all h)
theorem mxT_at {n : Nat} {new old : List Int} {i : Nat} (h : i < n) : (mxT n new old i).getD i 0 = old.getD i 0 := by
  unfold mxT; rw [tab_getD h, if_neg (Nat.lt_irrefl _)]
theorem tab_set {n i : Nat} {f g : Nat → Int} {v : Int} (hv : g i = v) (h : ∀ j, j < n → j ≠ i → g j = f j) : (tab n f).set i v = tab n g := by
  apply List.ext_getElem?
  intro j
  by_cases hj : j < n
  · by_cases hji : j = i
    · subst hji
      simp [tab, hj, hv]
    · rw [List.getElem?_set_ne (Ne.symm hji)]
      simp [tab, hj, h j hj hji]
  · rw [List.getElem?_eq_none (by rw [List.length_set, tab_len]; omega), List.getElem?_eq_none (by rw [tab_len]; omega)]
theorem mxT_set {n : Nat} {new old : List Int} {i : Nat} {v : Int} (hv : new.getD i 0 = v) : (mxT n new old i).set i v = mxT n new old (i + 1) := by
  unfold mxT
  refine tab_set (by rw [if_pos (Nat.lt_succ_self i)]; exact hv) fun j hj hne => ?_
  by_cases h : j < i
  · rw [if_pos h, if_pos (by omega)]
  · rw [if_neg h, if_neg (by omega)]
/-- The greatest bound that a modulus allows. -/
def liBd (pw : Int) : Nat → Nat
  | 0 => 0
  | b + 1 => if pw ≤ 2 * ((b + 1 : Nat) : Int) * ((b + 1 : Nat) : Int) then liBd pw b else b + 1
theorem liBd_le (pw : Int) : ∀ b, liBd pw b ≤ b
  | 0 => Nat.le_refl _
  | b + 1 => by
    show (if _ then _ else _) ≤ _
    split
    · have := liBd_le pw b; omega
    · exact Nat.le_refl _
theorem liBd_go {pw : Int} {b : Nat} (h : pw ≤ 2 * (b : Int) * (b : Int)) (h1 : 1 ≤ pw) : 1 ≤ b ∧ liBd pw b = liBd pw (b - 1) := by
  cases b with
  | zero => simp at h; omega
  | succ b =>
    refine ⟨by omega, ?_⟩
    show (if _ then _ else _) = _
    rw [if_pos h]; rfl
theorem liBd_stop {pw : Int} {b : Nat} (h : ¬ pw ≤ 2 * (b : Int) * (b : Int)) : liBd pw b = b := by
  cases b with
  | zero => rfl
  | succ b => show (if _ then _ else _) = _; rw [if_neg h]
/-- The first j ratios. -/
def liO (pw b : Int) (xs : List Int) : Nat → Option (List Int)
  | 0 => some []
  | j + 1 => (liO pw b xs j).bind fun qs => (rfRes (xs.getD j 0) pw b).bind fun q => some (qs ++ [q.1, q.2])
theorem liO_yes {pw b : Int} {xs qs : List Int} {j : Nat} {n d : Int} (h : liO pw b xs j = some qs) (hr : rfRes (xs.getD j 0) pw b = some (n, d)) : liO pw b xs (j + 1) = some (qs ++ [n, d]) := by
  show (liO pw b xs j).bind _ = _
  rw [h, Option.bind_some, hr]; rfl
theorem liO_no {pw b : Int} {xs qs : List Int} {j : Nat} (h : liO pw b xs j = some qs) (hr : rfRes (xs.getD j 0) pw b = none) : liO pw b xs (j + 1) = none := by
  show (liO pw b xs j).bind _ = _
  rw [h, Option.bind_some, hr]; rfl
theorem liO_none {pw b : Int} {xs : List Int} {j : Nat} (h : liO pw b xs j = none) : ∀ m, j ≤ m → liO pw b xs m = none := by
  intro m
  induction m with
  | zero => intro hj; obtain rfl : j = 0 := by omega
            exact h
  | succ m ih =>
    intro hj
    by_cases e : j = m + 1
    · subst e; exact h
    · show (liO pw b xs m).bind _ = _
      rw [ih (by omega)]; rfl
theorem liO_len {pw b : Int} {xs : List Int} : ∀ {j : Nat} {qs : List Int}, liO pw b xs j = some qs → qs.length = j * 2
  | 0, qs, h => by cases h; rfl
  | j + 1, qs, h => by
    rcases h1 : liO pw b xs j with _ | ps
    · rw [liO_none h1 (j + 1) (by omega)] at h; cases h
    · rcases h2 : rfRes (xs.getD j 0) pw b with _ | ⟨n, d⟩
      · rw [liO_no h1 h2] at h; cases h
      · rw [liO_yes h1 h2] at h
        cases h
        rw [List.length_append, liO_len h1]; simp; omega
/-- The first number of m from p on modulo which there is an inverse. -/
def liP (r c : Int) (xs : List Int) : Nat → Int → Option Int
  | 0, p => none
  | m + 1, p => if imB r c xs p then some p else liP r c xs m (p + 1)
theorem liP_yes {r c : Int} {xs : List Int} {m : Nat} {p : Int} (h : imB r c xs p = true) : liP r c xs (m + 1) p = some p := by
  show (if _ then _ else _) = _
  rw [if_pos h]
theorem liP_no {r c : Int} {xs : List Int} {m : Nat} {p : Int} (h : imB r c xs p = false) : liP r c xs (m + 1) p = liP r c xs m (p + 1) := by
  show (if _ then _ else _) = _
  rw [if_neg (by rw [h]; exact Bool.false_ne_true)]
/-- The ratios, if they solve. -/
def lsQ (r c : Int) (xs bs : List Int) (p : Int) : Option (List Int) :=
  (liO (p ^ liK p) (liBd (p ^ liK p) 10000) (liS r.toNat (fun i j => cel xs r.toNat i j) (fun i j => (imS r c xs p).f i (r.toNat + j)) p bs (liK p)).2 r.toNat).bind fun qs => if irB r c xs bs qs then some qs else none
def lsX (r c : Int) (xs bs : List Int) : Option (List Int) := if sysB r c xs bs then (liP r c xs 99 101).bind (lsQ r c xs bs) else none
def lsN (r : Int) (o : Option (List Int)) : Nat := if o.isSome then r.toNat else 0
theorem lsX_no {r c : Int} {xs bs : List Int} (h : sysB r c xs bs = false) : lsX r c xs bs = none := by
  unfold lsX; rw [if_neg (by rw [h]; exact Bool.false_ne_true)]
theorem lsX_none {r c : Int} {xs bs : List Int} (h : sysB r c xs bs = true) (hp : liP r c xs 99 101 = none) : lsX r c xs bs = none := by
  unfold lsX; rw [if_pos h, hp]; rfl
theorem lsX_some {r c : Int} {xs bs : List Int} {p : Int} (h : sysB r c xs bs = true) (hp : liP r c xs 99 101 = some p) : lsX r c xs bs = lsQ r c xs bs p := by
  unfold lsX; rw [if_pos h, hp]; rfl
theorem liP_some {r c : Int} {xs : List Int} {p : Int} : ∀ (m : Nat) (q : Int), liP r c xs m q = some p → imB r c xs p = true ∧ q ≤ p ∧ p < q + m
  | 0, q, h => by cases h
  | m + 1, q, h => by
    rcases hb : imB r c xs q with _ | _
    · rw [liP_no hb] at h
      obtain ⟨h1, h2, h3⟩ := liP_some m (q + 1) h
      exact ⟨h1, by omega, by omega⟩
    · rw [liP_yes hb] at h
      cases h
      exact ⟨hb, Int.le_refl _, by omega⟩
theorem im_200 (r c : Int) (xs : List Int) : imB r c xs 200 = false := by
  rcases h : imB r c xs 200 with _ | _
  · rfl
  · unfold imB imOk at h
    rw [Bool.and_eq_true, Bool.and_eq_true, Bool.and_eq_true] at h
    have K := redOk h.1.1.1
    have := K.pr
    exact absurd this (by decide)
theorem lsQ_len {r c : Int} {xs bs qs : List Int} {p : Int} (h : lsQ r c xs bs p = some qs) : qs.length = r.toNat * 2 := by
  unfold lsQ at h
  rcases ho : liO (p ^ liK p) (liBd (p ^ liK p) 10000) (liS r.toNat (fun i j => cel xs r.toNat i j) (fun i j => (imS r c xs p).f i (r.toNat + j)) p bs (liK p)).2 r.toNat with _ | q
  · rw [ho] at h; cases h
  · rw [ho, Option.bind_some] at h
    split at h
    · cases h; exact liO_len ho
    · cases h
theorem lsX_len {r c : Int} {xs bs : List Int} : ((lsX r c xs bs).getD []).length = lsN r (lsX r c xs bs) * 2 := by
  unfold lsN
  rcases hs : sysB r c xs bs with _ | _
  · rw [lsX_no hs]; rfl
  · rcases hp : liP r c xs 99 101 with _ | p
    · rw [lsX_none hs hp]; rfl
    · rw [lsX_some hs hp]
      rcases hq : lsQ r c xs bs p with _ | qs
      · rfl
      · simpa using lsQ_len hq
end Go.Proofs.YtlggfmfelakadaaGreatDoor

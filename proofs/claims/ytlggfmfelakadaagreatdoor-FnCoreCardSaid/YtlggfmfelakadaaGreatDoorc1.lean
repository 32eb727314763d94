/-
  DERIVED. Several small texts in one: Plain1, Plain2, Base, Plain4, Mem, PlTx, Sh, LawB, RIat, Plain5, Ints, Plain3, Rowkit, Append.
-/
import Derived.WalkKit
import Derived.OrdersHeld
import Derived.Test.YtlggfmfelakadaaGreatDoorProg
import Derived.Handy
import Derived.Outline
import Derived.Lib.Hide
import Derived.WalkSpells
import Derived.WalkLawsBesides
import Derived.RegionTactic
import Derived.BigRegion
import Derived.ChangeAlike
import Derived.Deep.QuietTactic
import Derived.BigQuiet
import Derived.Deep.Draws
import Derived.Deep.RegionWith
import Derived.Deep.RegionHeld3
import Derived.StillTailTactics
import Derived.Deep.LoopGhost
import Derived.Deep.DeepCutAuto
import Derived.Deep.AppendLies
import Derived.Deep.DeepFit
import Derived.Deep.DeepMust
import Derived.Deep.Light
import Derived.Laws.OwnMore
import Derived.Laws.CopyOwn
import Derived.Laws.MakeOwn
import Derived.Laws.Rows
import Derived.Maps.AppendAt
import Derived.Lib.Atoi
import Derived.Lib.ItoaNum
import Derived.Lib.IndexMore
import Derived.Lib.Join
import Derived.Lib.Strings
import Derived.Lib.FieldsP
import Derived.Laws.RangeString
import Derived.Shelf.Strings.OnBuilder
import Derived.Shelf.Strconv.Atoi
import Derived.Shelf.LaysM
import Derived.Shelf.Strconv.Itoa3
import Derived.Shelf.LaysC
import Derived.Shelf.Strconv.AtoiErr
import Derived.Shelf.Strings.Cut
import Derived.Shelf.Strings.Prefix
import Derived.Shelf.Strings.FieldsFuncAny
import Derived.Test.YtlggfmfelakadaaGreatDoorRows
import Derived.ProofKit
import Derived.OpenShut
import Derived.Carry
import Derived.ChangeSame
import Derived.Lib.SmallJoins
import Derived.Deep.Slices
/-
  DERIVED. Plain facts on numbers: no program in sight.
-/
namespace Go.Proofs.YtlggfmfelakadaaGreatDoor
/-- Within the limit. -/
def isNum (n : Int) : Bool := decide (-400000000 ≤ n) && decide (n ≤ 400000000)
theorem isNum_iff (n : Int) : isNum n = true ↔ -400000000 ≤ n ∧ n ≤ 400000000 := by simp [isNum]
theorem isNum_not (n : Int) : isNum n = false ↔ n < -400000000 ∨ 400000000 < n := by
  rw [← Bool.not_eq_true, isNum_iff]; omega

/-- The remainder of Go's division lies between the divisor and its negative. -/
theorem tmod_lt (a p : Int) (hp : 0 < p) : -p < a.tmod p ∧ a.tmod p < p := by
  constructor
  · have h1 := Int.lt_tmod_of_pos a hp; exact h1
  · exact Int.tmod_lt_of_pos a hp
theorem emod_of_tmod_neg (a p : Int) (hp : 0 < p) (h : a.tmod p < 0) : a % p = a.tmod p + p := by
  have h1 := Int.tmod_add_mul_tdiv a p
  have h2 := tmod_lt a p hp
  have h3 : a % p = (a.tmod p + p) % p := by
    have : a = (a.tmod p + p) + p * (a.tdiv p - 1) := by rw [Int.mul_sub]; omega
    conv => lhs; rw [this]
    rw [Int.add_mul_emod_self_left]
  rw [h3, Int.emod_eq_of_lt (by omega) (by omega)]
theorem emod_of_tmod_nonneg (a p : Int) (hp : 0 < p) (h : 0 ≤ a.tmod p) : a % p = a.tmod p := by
  have h1 := Int.tmod_add_mul_tdiv a p
  have h2 := tmod_lt a p hp
  have h3 : a % p = (a.tmod p) % p := by
    conv => lhs; rw [← h1]
    rw [Int.add_mul_emod_self_left]
  rw [h3, Int.emod_eq_of_lt (by omega) (by omega)]
theorem tmod_zero_iff (a p : Int) : a.tmod p = 0 ↔ a % p = 0 := by
  constructor
  · intro h; exact Int.emod_eq_zero_of_dvd (Int.dvd_of_tmod_eq_zero h)
  · intro h; exact Int.tmod_eq_zero_of_dvd (Int.dvd_of_emod_eq_zero h)
/-- '(n % p + p) % p' in Go is the residue. -/
theorem tmod_twice (a p : Int) (hp : 0 < p) : (a.tmod p + p) % p = a % p := by
  rcases Int.lt_or_le (a.tmod p) 0 with h | h
  · rw [emod_of_tmod_neg a p hp h]
    have h2 := tmod_lt a p hp
    exact Int.emod_eq_of_lt (by omega) (by omega)
  · rw [emod_of_tmod_nonneg a p hp h, Int.add_emod_right]
    have h2 := tmod_lt a p hp
    exact Int.emod_eq_of_lt (by omega) (by omega)

theorem natAbs_tmod_lt (a b : Int) (h : b ≠ 0) : (a.tmod b).natAbs < b.natAbs := by
  rw [Int.natAbs_tmod]
  exact Nat.mod_lt _ (by omega)
theorem gcd_tmod (a b : Int) : Int.gcd b (a.tmod b) = Int.gcd a b := by
  unfold Int.gcd
  rw [Int.natAbs_tmod, Nat.gcd_comm b.natAbs, ← Nat.gcd_rec, Nat.gcd_comm]

/-- No divisor from d on, d below its square root. -/
def prFrom (p d : Int) : Nat → Bool
  | 0 => true
  | k + 1 => if d * d ≤ p then (if p % d = 0 then false else prFrom p (d + 1) k) else true
theorem sq_le (d m : Int) (h0 : 0 ≤ d) (h : d ≤ m) : 0 ≤ d * d ∧ d * d ≤ m * m :=
  ⟨Int.mul_nonneg h0 h0, Int.mul_le_mul h h h0 (by omega)⟩
theorem le_of_sq (d m p : Int) (hm : 0 ≤ m) (h : d * d ≤ p) (hp : p < (m + 1) * (m + 1)) : d ≤ m := by
  rcases Int.lt_or_le m d with h1 | h1
  · have := Int.mul_le_mul (show m + 1 ≤ d by omega) (show m + 1 ≤ d by omega) (by omega) (by omega)
    omega
  · exact h1
def isPr (p : Int) : Bool := decide (2 ≤ p) && decide (p ≤ 10000) && prFrom p 2 200
theorem mod_mul_sub (a d n m : Int) : ((a % m) * (d % m) - n) % m = (a * d - n) % m := by
  rw [Int.sub_emod, ← Int.mul_emod, ← Int.sub_emod]
theorem mul_bd (x y p q : Int) (h0 : 0 ≤ x) (h1 : x ≤ p) (h2 : 0 ≤ y) (h3 : y ≤ q) : 0 ≤ x * y ∧ x * y ≤ p * q :=
  ⟨Int.mul_nonneg h0 h2, Int.mul_le_mul h1 h3 h2 (by omega)⟩
theorem mul_bd2 (x y p q : Int) (h0 : -p ≤ x) (h1 : x ≤ p) (h2 : 0 ≤ y) (h3 : y ≤ q) : -(p * q) ≤ x * y ∧ x * y ≤ p * q := by
  have hp : 0 ≤ p := by omega
  constructor
  · have h := Int.mul_le_mul (show -x ≤ p by omega) h3 h2 hp
    have : -x * y = -(x * y) := Int.neg_mul x y
    omega
  · exact Int.mul_le_mul h1 h3 h2 hp
theorem mul_bd4 (x y p q : Int) (h0 : -p ≤ x) (h1 : x ≤ p) (h2 : -q ≤ y) (h3 : y ≤ q) : -(p * q) ≤ x * y ∧ x * y ≤ p * q := by
  rcases Int.le_total 0 y with h | h
  · exact mul_bd2 x y p q h0 h1 h h3
  · have := mul_bd2 x (-y) p q h0 h1 (by omega) (by omega)
    have e : x * -y = -(x * y) := Int.mul_neg x y
    omega
end Go.Proofs.YtlggfmfelakadaaGreatDoor

/-
  DERIVED. Euclid's algorithm with its two combinations: no program in sight.
-/
namespace Go.Proofs.YtlggfmfelakadaaGreatDoor
set_option linter.unusedVariables false
/-- The rounds of the algorithm. -/
def egL (g h x u y v : Int) : Int × Int × Int :=
  if hh : h = 0 then (g, x, y) else egL h (g.tmod h) u (x - g.tdiv h * u) v (y - g.tdiv h * v)
termination_by h.natAbs
decreasing_by exact natAbs_tmod_lt g h hh
theorem egL_zero (g x u y v : Int) : egL g 0 x u y v = (g, x, y) := by rw [egL]; simp
theorem egL_step (g h x u y v : Int) (hh : h ≠ 0) : egL g h x u y v = egL h (g.tmod h) u (x - g.tdiv h * u) v (y - g.tdiv h * v) := by
  conv => lhs; rw [egL]
  simp [hh]
def egRes (a b : Int) : Int × Int × Int :=
  if (egL a b 1 0 0 1).1 < 0 then (-(egL a b 1 0 0 1).1, -(egL a b 1 0 0 1).2.1, -(egL a b 1 0 0 1).2.2) else egL a b 1 0 0 1

theorem tdiv_mul (g h : Int) : g.tdiv h * h = g - g.tmod h := by
  have := Int.tmod_add_mul_tdiv g h
  rw [Int.mul_comm] at this
  omega
/-- Where the combinations stay: the two sums of products never grow. -/
structure EgInv (a b g h x u y v : Int) : Prop where
  g1 : g.natAbs ≤ 400000000
  h1 : h.natAbs ≤ 400000000
  x1 : x.natAbs ≤ 400000000
  u1 : u.natAbs ≤ 400000000
  y1 : y.natAbs ≤ 400000000
  v1 : v.natAbs ≤ 400000000
  s1 : u.natAbs * g.natAbs + x.natAbs * h.natAbs ≤ b.natAbs
  s2 : v.natAbs * g.natAbs + y.natAbs * h.natAbs ≤ a.natAbs
  e1 : a * x + b * y = g
  e2 : a * u + b * v = h
  d : Int.gcd g h = Int.gcd a b
theorem EgInv.start {a b : Int} (ha : -400000000 ≤ a ∧ a ≤ 400000000) (hb : -400000000 ≤ b ∧ b ≤ 400000000) : EgInv a b a b 1 0 0 1 := by
  refine ⟨by omega, by omega, by omega, by omega, by omega, by omega, by simp, by simp, by simp, by simp, rfl⟩
theorem natAbs_div_add (g h : Int) : g.natAbs = (g.tdiv h).natAbs * h.natAbs + (g.tmod h).natAbs := by
  rw [Int.natAbs_tdiv, Int.natAbs_tmod]
  exact (Nat.div_add_mod' g.natAbs h.natAbs).symm
theorem sum_step (x u g h : Int) (hh : h ≠ 0) : (x - g.tdiv h * u).natAbs * h.natAbs + u.natAbs * (g.tmod h).natAbs ≤ u.natAbs * g.natAbs + x.natAbs * h.natAbs := by
  have h1 : (x - g.tdiv h * u).natAbs ≤ x.natAbs + (g.tdiv h).natAbs * u.natAbs := by
    have := Int.natAbs_sub_le x (g.tdiv h * u)
    rwa [Int.natAbs_mul] at this
  have h2 := Nat.mul_le_mul_right h.natAbs h1
  have h3 := natAbs_div_add g h
  rw [h3]
  rw [Nat.add_mul] at h2
  rw [Nat.mul_add]
  have h4 : (g.tdiv h).natAbs * u.natAbs * h.natAbs = u.natAbs * ((g.tdiv h).natAbs * h.natAbs) := by
    rw [Nat.mul_comm (g.tdiv h).natAbs u.natAbs, Nat.mul_assoc]
  omega
theorem EgInv.step {a b g h x u y v : Int} (ha : a.natAbs ≤ 400000000) (hb : b.natAbs ≤ 400000000) (i : EgInv a b g h x u y v) (hh : h ≠ 0) :
    EgInv a b h (g.tmod h) u (x - g.tdiv h * u) v (y - g.tdiv h * v) := by
  have k1 := sum_step x u g h hh
  have k2 := sum_step y v g h hh
  have m1 := i.s1
  have m2 := i.s2
  have hp : 1 ≤ h.natAbs := by omega
  have q1 := Nat.mul_le_mul_left (x - g.tdiv h * u).natAbs hp
  have q2 := Nat.mul_le_mul_left (y - g.tdiv h * v).natAbs hp
  have hlt := natAbs_tmod_lt g h hh
  have hh1 := i.h1
  refine ⟨i.h1, by omega, i.u1, by omega, i.v1, by omega, by omega, by omega, i.e2, ?_, by rw [gcd_tmod]; exact i.d⟩
  have t := tdiv_mul g h
  have e1 := i.e1
  have e2 := i.e2
  have p1 : a * (x - g.tdiv h * u) + b * (y - g.tdiv h * v) = (a * x + b * y) - g.tdiv h * (a * u + b * v) := by grind
  rw [p1, e1, e2, t]
  omega
/-- The quotient times a number within the limit stays small. -/
theorem quo_bd (g h u : Int) (hg : g.natAbs ≤ 400000000) (hu : u.natAbs ≤ 400000000) : (g.tdiv h).natAbs ≤ 400000000 ∧ -160000000000000000 ≤ g.tdiv h * u ∧ g.tdiv h * u ≤ 160000000000000000 := by
  have h1 : (g.tdiv h).natAbs ≤ 400000000 := by
    rw [Int.natAbs_tdiv]
    exact Nat.le_trans (Nat.div_le_self _ _) hg
  have := mul_bd4 (g.tdiv h) u 400000000 400000000 (by omega) (by omega) (by omega) (by omega)
  omega
/-- What the algorithm ends with. -/
theorem egL_spec {a b : Int} (ha : a.natAbs ≤ 400000000) (hb : b.natAbs ≤ 400000000) : ∀ (n : Nat) (g h x u y v : Int), h.natAbs ≤ n → EgInv a b g h x u y v →
    ∃ G X Y U V : Int, egL g h x u y v = (G, X, Y) ∧ EgInv a b G 0 X U Y V
  | 0, g, h, x, u, y, v, hn, i => by
    have : h = 0 := by omega
    subst this
    exact ⟨g, x, y, u, v, egL_zero _ _ _ _ _, i⟩
  | n + 1, g, h, x, u, y, v, hn, i => by
    by_cases hh : h = 0
    · subst hh
      exact ⟨g, x, y, u, v, egL_zero _ _ _ _ _, i⟩
    · have hlt := natAbs_tmod_lt g h hh
      rw [egL_step _ _ _ _ _ _ hh]
      exact egL_spec ha hb n _ _ _ _ _ _ (by omega) (i.step ha hb hh)
theorem egRes_spec {a b : Int} (ha : -400000000 ≤ a ∧ a ≤ 400000000) (hb : -400000000 ≤ b ∧ b ≤ 400000000) :
    (egRes a b).1 = Int.gcd a b ∧ a * (egRes a b).2.1 + b * (egRes a b).2.2 = Int.gcd a b ∧ (egRes a b).2.1.natAbs ≤ 400000000 ∧ (egRes a b).2.2.natAbs ≤ 400000000 := by
  obtain ⟨G, X, Y, U, V, hr, i⟩ := egL_spec (a := a) (b := b) (by omega) (by omega) _ _ _ _ _ _ _ (Nat.le_refl _) (EgInv.start ha hb)
  have hd := i.d
  have e1 := i.e1
  have x1 := i.x1
  have y1 := i.y1
  unfold egRes
  rw [hr]
  simp only [Int.gcd_zero_right] at hd
  split
  · rename_i hneg
    simp only at hneg ⊢
    refine ⟨by omega, ?_, by omega, by omega⟩
    rw [Int.mul_neg, Int.mul_neg]; omega
  · rename_i hneg
    simp only at hneg ⊢
    exact ⟨by omega, by omega, x1, y1⟩
end Go.Proofs.YtlggfmfelakadaaGreatDoor

/-
  DERIVED. The imports of all our walks, and small words that every walk uses.
-/
namespace Go.Proofs.YtlggfmfelakadaaGreatDoor
open Go.RowKit
set_option linter.unusedVariables false
theorem ret_bool {a b : Bool} (h : a = b) : Ending.returned (.bool a) = .returned (.bool b) := by rw [h]
theorem ret_int {k : IntKind} {a b : Int} (h : a = b) : Ending.returned (.int k a) = .returned (.int k b) := by rw [h]
theorem below_drewN {B : Nat} {a w : World} (h : Below B a w) (n : Nat) : Below B a (w.drewN n) := ⟨h.os, h.tape, h.output, h.size, h.block⟩
theorem below_of_drewN (B : Nat) (w : World) (n : Nat) : Below B w (w.drewN n) := below_drewN (Below.refl B w) n
theorem below_into {B : Nat} {a w w' : World} (h : Below B a w) (k : Below w.heap.size w w') (hB : B ≤ w.heap.size) : Below B a w' := h.trans (k.mono hB)
theorem below_i {B : Nat} {a w w' : World} (h : Below B a w) (k : Below w.heap.size w w' := by assumption) (hB : B ≤ w.heap.size := by first | omega | (simp; done) | (simp; omega)) : Below B a w' := below_into h k hB
theorem e1_ {α : Type _} {xs : List α} {i : Nat} : xs.toArray[i]? = xs[i]? := List.getElem?_toArray
theorem e2_ {α : Type _} {a : α} {xs : List α} {i : Nat} : (a :: xs)[i + 1]? = xs[i]? := List.getElem?_cons_succ
theorem e3_ {α : Type _} {a : α} {xs : List α} : (a :: xs)[0]? = some a := List.getElem?_cons_zero
theorem p1_ {α : Type _} {xs : List α} {i : Nat} {a : α} : xs.toArray.setIfInBounds i a = (xs.set i a).toArray := List.setIfInBounds_toArray ..
theorem p2_ {α : Type _} {a b : α} {xs : List α} : (a :: xs).set 0 b = b :: xs := List.set_cons_zero ..
theorem p3_ {α : Type _} {a b : α} {xs : List α} {i : Nat} : (a :: xs).set (i + 1) b = a :: xs.set i b := List.set_cons_succ ..
theorem tk_ {P : Program} {ops : Array Oper} {Q : Exit → Act → World → Prop} {md : Region.Mode} {S : World → Prop} {i : Nat} {oi : Oper} {v : Value} {fuel : Nat} {listed : Array Bool} {a : Act} {w : World} (hi : ops[i]? = some oi := by simp only [e1_, e2_, e3_]; try rfl)
    (hs : Region.noSelect ops = true := by kernel_rfl) (hf : Region.free md ops listed i = true := by kernel_rfl) (hr : (Region.ready md ops listed).contains i = true := by kernel_rfl)
    (hQ : ∀ c a w, Q (.panic c) (a.put oi.dst v) w → Q (.panic c) a w := by exact fun _ _ _ h => h) (y : YieldsIf P ops S oi v a) (hS : S w := by assumption)
    (h : wpAnyH P md ops Q S fuel (listed.setIfInBounds i true) (a.put oi.dst v) w) : wpAnyH P md ops Q S (fuel + 1) listed a w := wpAnyH_take hi hs hf hr hQ y hS h
theorem Ks {P : Prop} (h : P := by first | omega | (simp; done) | (simp; omega)) : P := h
theorem Kw {P : Prop} (h : P := by (repeat (first | (with_reducible (first | exact Below.refl _ _ | assumption | refine below_drewN ?_ _ | refine Below.drew ?_ | refine Below.alloc ?_ ?_ _ | refine Below.setCell ?_ ?_ _ | refine below_i ?_)) | go_size))) : P := h
/-- The call returned v; below its first heap size nothing has turned. -/
def BV (v : Value) (w : World) (e : Ending) (w' : World) : Prop := e = .returned v ∧ Below w.heap.size w w'
theorem BV.mk {v v' : Value} {w w' : World} (h : v = v') (hb : Below w.heap.size w w') : BV v' w (.returned v) w' := by subst h; exact ⟨rfl, hb⟩
theorem quiet_left {P : Program} {f : FuncId} {args : Array Value} {w : World} {n : Nat} {v : Value}
    (h : Calls P f args (w.drewN n) fun e w' => e = .returned v ∧ w.drewN n = w') : Calls P f args (w.drewN n) fun e w'' => e = .returned v ∧ ∃ m, w'' = w.drewN m :=
  h.mono fun _ _ ⟨he, hm⟩ => ⟨he, n, hm.symm⟩
theorem quiet_add_left {P : Program} {f : FuncId} {args : Array Value} {w : World} {a n : Nat} {v : Value}
    (h : Calls P f args (w.drewN (a + n)) fun e w' => e = .returned v ∧ w.drewN (a + n) = w') :
    Calls P f args (w.drewN (a + n)) fun e w'' => e = .returned v ∧ ∃ m, w'' = w.drewN (a + m) :=
  h.mono fun _ _ ⟨he, hm⟩ => ⟨he, n, hm.symm⟩
theorem quiet_drew {P : Program} {f : FuncId} {args : Array Value} {w : World} {n : Nat} {v : Value}
    (h : Calls P f args (w.drewN n) fun e w' => e = .returned v ∧ ∃ m, w' = (w.drewN n).drewN m) : Calls P f args (w.drewN n) fun e w'' => e = .returned v ∧ ∃ m, w'' = w.drewN m :=
  h.mono fun _ _ ⟨he, m, hm⟩ => ⟨he, n + m, by rw [hm, World.drewN_drewN]⟩
theorem quiet_add_drew {P : Program} {f : FuncId} {args : Array Value} {w : World} {a n : Nat} {v : Value}
    (h : Calls P f args (w.drewN (a + n)) fun e w' => e = .returned v ∧ ∃ m, w' = (w.drewN (a + n)).drewN m) :
    Calls P f args (w.drewN (a + n)) fun e w'' => e = .returned v ∧ ∃ m, w'' = w.drewN (a + m) :=
  h.mono fun _ _ ⟨he, m, hm⟩ => ⟨he, n + m, by rw [hm, World.drewN_drewN, Nat.add_assoc]⟩
theorem bkeep {w W w1 : World} (hb : Below W.heap.size W w1) (h : w.heap.size ≤ W.heap.size) :
    (∀ b o, b < w.heap.size → w1.cell? ⟨b, o, none⟩ = W.cell? ⟨b, o, none⟩) ∧ (∀ b o, b < w.heap.size → w1.frozen? ⟨b, o, none⟩ = W.frozen? ⟨b, o, none⟩) :=
  ⟨fun b o h' => hb.cell (p := ⟨b, o, none⟩) (Nat.lt_of_lt_of_le h' h), fun b o h' => hb.frozen (p := ⟨b, o, none⟩) (Nat.lt_of_lt_of_le h' h)⟩
theorem bkeepb {W w1 : World} (b : Nat) (hb : Below W.heap.size W w1) (h : b < W.heap.size) :
    (∀ o, w1.cell? ⟨b, o, none⟩ = W.cell? ⟨b, o, none⟩) ∧ (∀ o, w1.frozen? ⟨b, o, none⟩ = W.frozen? ⟨b, o, none⟩) ∧ b < w1.heap.size :=
  ⟨fun o => hb.cell (p := ⟨b, o, none⟩) h, fun o => hb.frozen (p := ⟨b, o, none⟩) h, Nat.lt_of_lt_of_le h hb.size⟩
/-- The call returned v; the world is as it was. -/
def EV (v : Value) (w : World) (e : Ending) (w' : World) : Prop := e = .returned v ∧ w = w'
theorem EV.mk {v v' : Value} {w : World} (h : v = v') : EV v' w (.returned v) w := by subst h; exact ⟨rfl, rfl⟩
/-- The call returned v; the world has but drawn. -/
def DV (v : Value) (w : World) (e : Ending) (w' : World) : Prop := e = .returned v ∧ ∃ n, w' = w.drewN n
theorem DV.mk {v v' : Value} {w : World} (n : Nat) (h : v = v') : DV v' w (.returned v) (w.drewN n) := by subst h; exact ⟨rfl, n, rfl⟩
theorem DV.mk0 {v v' : Value} {w : World} (h : v = v') : DV v' w (.returned v) w := by subst h; exact ⟨rfl, 0, rfl⟩
theorem vbool {a b : Bool} (h : a = b) : Value.bool a = .bool b := by rw [h]
theorem vint {k : IntKind} {a b : Int} (h : a = b) : Value.int k a = .int k b := by rw [h]
theorem vib {k : IntKind} {a b : Int} {p q : Bool} (h : a = b) (h' : p = q) : Value.tuple #[.int k a, .bool p] = .tuple #[.int k b, .bool q] := by rw [h, h']
/-- Block g of the world is just these cells of element type t, none of them frozen. -/
def Blk (w : World) (g : Nat) (t : TypeId) (cs : Array Value) : Prop := w.heap[g]? = some (.cells cs t (0, 0))
section
variable {w w' : World} {g : Nat} {t : TypeId} {cs : Array Value}
theorem Blk.lt (h : Blk w g t cs) : g < w.heap.size := by
  rcases Nat.lt_or_ge g w.heap.size with hlt | hge
  · exact hlt
  · unfold Blk at h; rw [Array.getElem?_eq_none hge] at h; cases h
theorem Blk.cell (h : Blk w g t cs) (i : Nat) : w.cell? ⟨g, i, none⟩ = cs[i]? := cell_of_row w g i cs t (0, 0) h
theorem Blk.frozen (h : Blk w g t cs) (i : Nat) : w.frozen? ⟨g, i, none⟩ = false := by
  unfold Blk at h
  simp [World.frozen?, h]
theorem Blk.new (w : World) (t : TypeId) (cs : Array Value) : Blk (w.alloc (.cells cs t)) w.heap.size t cs := heap_alloc_new w _
theorem Blk.drew (h : Blk w g t cs) : Blk w.drew g t cs := h
theorem Blk.drewN (h : Blk w g t cs) (n : Nat) : Blk (w.drewN n) g t cs := h
theorem Blk.alloc (h : Blk w g t cs) (o : Obj) : Blk (w.alloc o) g t cs := (Below.heap_alloc w o g h.lt).trans h
theorem Blk.set_ (h : Blk w g t cs) (i : Nat) (u : Value) : Blk (w.setCell ⟨g, i, none⟩ u) g t (cs.setIfInBounds i u) := by
  unfold Blk at h ⊢
  simp [World.setCell, Array.getElem?_modify, h]
theorem Blk.far (h : Blk w g t cs) {p : Addr} (hp : g ≠ p.block) (u : Value) : Blk (w.setCell p u) g t cs := (Below.heap_setCell w p u g hp).trans h
theorem Blk.as {cs' : Array Value} (h : Blk w g t cs) (e : cs = cs') : Blk w g t cs' := e ▸ h
theorem Blk.below {B : Nat} (h : Blk w g t cs) (hb : Below B w w') (hg : g < B) : Blk w' g t cs := (hb.block g hg).trans h
theorem Blk.grown {row : Option Nat} (h : Blk w g t cs) (hb : w.grownBy w' row) (hg : some g ≠ row) : Blk w' g t cs := (hb.block g h.lt hg).trans h
end
end Go.Proofs.YtlggfmfelakadaaGreatDoor

/-
  DERIVED. A ratio with small parts from its residue: the search over all denominators and Euclid's algorithm find the same. No program in sight.
-/
namespace Go.Proofs.YtlggfmfelakadaaGreatDoor
set_option linter.unusedVariables false
/-- A ratio with small parts that has the residue a. -/
structure Good (a m b n d : Int) : Prop where
  d1 : 1 ≤ d
  d2 : d ≤ b
  n1 : -b ≤ n
  n2 : n ≤ b
  co : Int.gcd n d = 1
  cm : Int.gcd d m = 1
  im : m ∣ a * d - n
theorem small_of_dvd {m x : Int} (h : m ∣ x) (h1 : -m < x) (h2 : x < m) : x = 0 := by
  obtain ⟨k, rfl⟩ := h
  have hm : 0 < m := by omega
  rcases Int.lt_trichotomy k 0 with hk | hk | hk
  · have := Int.mul_le_mul_of_nonneg_left (show k ≤ -1 by omega) (show 0 ≤ m by omega)
    omega
  · simp [hk]
  · have := Int.mul_le_mul_of_nonneg_left (show 1 ≤ k by omega) (show 0 ≤ m by omega)
    omega
theorem dvd_of_gcd_one {k m n : Int} (h : k ∣ m * n) (hg : Int.gcd k m = 1) : k ∣ n := by
  rw [← Int.natAbs_dvd_natAbs] at h ⊢
  rw [Int.natAbs_mul] at h
  exact Nat.Coprime.dvd_of_dvd_mul_left hg h
theorem Good.uniq {a m b n d n' d' : Int} (hb : 2 * b * b < m) (h : Good a m b n d) (h' : Good a m b n' d') : n = n' ∧ d = d' := by
  have p1 := mul_bd2 n d' b b h.n1 h.n2 (by have := h'.d1; omega) h'.d2
  have p2 := mul_bd2 n' d b b h'.n1 h'.n2 (by have := h.d1; omega) h.d2
  have hd : m ∣ n * d' - n' * d := by
    have e : n * d' - n' * d = (a * d' - n') * d - (a * d - n) * d' := by grind
    rw [e]
    exact Int.dvd_sub (Int.dvd_trans h'.im ⟨d, rfl⟩) (Int.dvd_trans h.im ⟨d', rfl⟩)
  have hbb : 2 * b * b = 2 * (b * b) := by rw [Int.mul_assoc]
  have h0 := small_of_dvd hd (by omega) (by omega)
  have e1 : n * d' = n' * d := by omega
  have g1 : d ∣ d' := by
    have : d ∣ n * d' := ⟨n', by rw [e1, Int.mul_comm]⟩
    exact dvd_of_gcd_one this (by rw [Int.gcd_comm]; exact h.co)
  have g2 : d' ∣ d := by
    have : d' ∣ n' * d := ⟨n, by rw [← e1, Int.mul_comm]⟩
    exact dvd_of_gcd_one this (by rw [Int.gcd_comm]; exact h'.co)
  have e2 : d = d' := Int.dvd_antisymm (by have := h.d1; omega) (by have := h'.d1; omega) g1 g2
  subst e2
  refine ⟨?_, rfl⟩
  exact Int.eq_of_mul_eq_mul_right (by have := h.d1; omega) e1

/-- Euclid's algorithm on the modulus and the residue, till the remainder is small. -/
def rfS (b g x h u : Int) : Int × Int :=
  if hh : b < h ∧ 0 < h then rfS b h u (g - g / h * h) (x - g / h * u) else (h, u)
termination_by h.natAbs
decreasing_by
  have h1 := Int.emod_lt_of_pos g hh.2
  have h2 := Int.emod_nonneg g (show h ≠ 0 by omega)
  have h3 := Int.mul_ediv_add_emod g h
  rw [Int.mul_comm] at h3
  omega
/-- What stays in the rounds; s is the sign of u. -/
structure RfInv (a m b g x h u s : Int) : Prop where
  sg : s = 1 ∨ s = -1
  u0 : 0 ≤ s * u
  x0 : s * x ≤ 0
  e : g * (s * u) - h * (s * x) = m
  h0 : 0 ≤ h
  hg : h < g
  bg : b < g
  gm : g ≤ m
  cg : m ∣ g - x * a
  ch : m ∣ h - u * a
theorem RfInv.start {a m b : Int} (hm : 1 ≤ m) (hb : b < m) : RfInv a m b m 0 (a % m) 1 1 := by
  refine ⟨.inl rfl, by omega, by omega, by omega, Int.emod_nonneg a (by omega), Int.emod_lt_of_pos a (by omega), hb, Int.le_refl _, by simp, ?_⟩
  refine ⟨-(a / m), ?_⟩
  have := Int.mul_ediv_add_emod a m
  rw [Int.mul_neg]; omega
theorem RfInv.bounds {a m b g x h u s : Int} (i : RfInv a m b g x h u s) (hb : 0 ≤ b) : -m ≤ u ∧ u ≤ m ∧ (s * u) * g ≤ m := by
  have hu := i.u0
  have hx := i.x0
  have h1 : 0 ≤ h * -(s * x) := Int.mul_nonneg i.h0 (by omega)
  rw [Int.mul_neg] at h1
  have e := i.e
  have h2 : (s * u) * g ≤ m := by rw [Int.mul_comm]; omega
  have hg : 1 ≤ g := by have := i.bg; omega
  have h3 := Int.mul_le_mul_of_nonneg_left hg hu
  rcases i.sg with rfl | rfl
  · exact ⟨by omega, by omega, h2⟩
  · exact ⟨by omega, by omega, h2⟩
theorem RfInv.step {a m b g x h u s : Int} (i : RfInv a m b g x h u s) (hb : 0 ≤ b) (hh : b < h) : RfInv a m b h u (g - g / h * h) (x - g / h * u) (-s) := by
  have hp : 0 < h := by omega
  have q0 : 0 ≤ g / h := Int.ediv_nonneg (by have := i.bg; omega) (by omega)
  have r0 := Int.emod_nonneg g (show h ≠ 0 by omega)
  have r1 := Int.emod_lt_of_pos g hp
  have r2 := Int.mul_ediv_add_emod g h
  rw [Int.mul_comm] at r2
  have hu := i.u0
  have hx := i.x0
  have qu : 0 ≤ g / h * (s * u) := Int.mul_nonneg q0 hu
  have e := i.e
  refine ⟨by rcases i.sg with h | h <;> omega, ?_, ?_, ?_, by omega, by omega, hh, by have := i.hg; have := i.gm; omega, i.ch, ?_⟩
  · have : -s * (x - g / h * u) = -(s * x) + g / h * (s * u) := by grind
    omega
  · have : -s * u = -(s * u) := by grind
    omega
  · rw [← e]; grind
  · have e1 : g - g / h * h - (x - g / h * u) * a = (g - x * a) - g / h * (h - u * a) := by grind
    rw [e1]
    exact Int.dvd_sub i.cg (Int.dvd_trans i.ch ⟨g / h, by rw [Int.mul_comm]⟩)
theorem rfS_step (b g x h u : Int) (hh : b < h ∧ 0 < h) : rfS b g x h u = rfS b h u (g - g / h * h) (x - g / h * u) := by
  conv => lhs; rw [rfS]
  simp [hh]
theorem rfS_stop (b g x h u : Int) (hh : ¬ (b < h ∧ 0 < h)) : rfS b g x h u = (h, u) := by
  rw [rfS]; simp only [hh, dite_false]
theorem rfS_spec {a m b : Int} (hb : 0 ≤ b) : ∀ (n : Nat) (g x h u s : Int), h.natAbs ≤ n → RfInv a m b g x h u s → ∃ G X H U S : Int, rfS b g x h u = (H, U) ∧ RfInv a m b G X H U S ∧ H ≤ b
  | n, g, x, h, u, s, hn, i => by
    by_cases hh : b < h
    · match n, hn with
      | 0, hn => omega
      | n + 1, hn =>
        rw [rfS_step _ _ _ _ _ ⟨hh, by omega⟩]
        have j := i.step hb hh
        have k1 := j.hg
        have k2 := j.h0
        exact rfS_spec hb n _ _ _ _ _ (by omega) j
    · exact ⟨g, x, h, u, s, rfS_stop _ _ _ _ _ (by omega), i, by omega⟩

/-- A good ratio is what Euclid's algorithm stops at, but for the sign. -/
theorem Good.found {a m b n d g x h u s : Int} (hm : 1 ≤ m) (hb1 : 1 ≤ b) (hb : 2 * b * b < m) (r : Good a m b n d) (i : RfInv a m b g x h u s) (hh : h ≤ b) : n = s * h ∧ d = s * u := by
  have A1 : m ∣ g * d - x * n := by
    have e1 : g * d - x * n = (g - x * a) * d + x * (a * d - n) := by grind
    rw [e1]
    exact Int.dvd_add (Int.dvd_trans i.cg ⟨d, rfl⟩) (Int.dvd_trans r.im ⟨x, by rw [Int.mul_comm]⟩)
  have B1 : m ∣ u * n - h * d := by
    have e1 : u * n - h * d = -(u * (a * d - n)) - (h - u * a) * d := by grind
    rw [e1]
    exact Int.dvd_sub (Int.dvd_neg.2 (Int.dvd_trans r.im ⟨u, by rw [Int.mul_comm]⟩)) (Int.dvd_trans i.ch ⟨d, rfl⟩)
  obtain ⟨al, ha⟩ := A1
  obtain ⟨be, hbe⟩ := B1
  have ss : s * s = 1 := by rcases i.sg with rfl | rfl <;> rfl
  have e := i.e
  have en : n = s * (g * be + h * al) := by
    have k1 : m * (s * (g * be + h * al)) = m * n := by
      have k2 : g * (u * n - h * d) + h * (g * d - x * n) = n * (g * u - h * x) := by grind
      rw [ha, hbe] at k2
      have k3 : g * u - h * x = s * m := by rw [← e]; grind
      rw [k3] at k2
      grind
    exact (Int.eq_of_mul_eq_mul_left (by omega) k1).symm
  have ed : d = s * (x * be + u * al) := by
    have k1 : m * (s * (x * be + u * al)) = m * d := by
      have k2 : x * (u * n - h * d) + u * (g * d - x * n) = d * (g * u - h * x) := by grind
      rw [ha, hbe] at k2
      have k3 : g * u - h * x = s * m := by rw [← e]; grind
      rw [k3] at k2
      grind
    exact (Int.eq_of_mul_eq_mul_left (by omega) k1).symm
  have hS := i.u0
  have hX := i.x0
  have hg1 := i.bg
  have hh0 := i.h0
  have d1 := r.d1
  have d2 := r.d2
  have n1 := r.n1
  have n2 := r.n2
  -- d = S p + X q with S = s u, X = -(s x), p = al, q = -be; n = s (h p - g q)
  have ed2 : d = (s * u) * al + -(s * x) * -be := by rw [ed]; grind
  have en2 : s * n = h * al - g * -be := by rw [en]; grind
  have em : g * (s * u) + h * -(s * x) = m := by rw [← e]; grind
  have sn : -b ≤ s * n ∧ s * n ≤ b := by rcases i.sg with rfl | rfl <;> omega
  generalize s * u = S at *
  have hX' : 0 ≤ -(s * x) := by omega
  generalize -(s * x) = X at *
  generalize -be = q at *
  have hq : q = 0 := by
    rcases Int.lt_trichotomy q 0 with hq | hq | hq
    · exfalso
      have gq : g * 1 ≤ g * -q := Int.mul_le_mul_of_nonneg_left (by omega) (by omega)
      rw [Int.mul_neg] at gq
      rcases Int.lt_or_le al 0 with hp | hp
      · have k1 : 0 ≤ S * -al := Int.mul_nonneg hS (by omega)
        have k2 : 0 ≤ X * -q := Int.mul_nonneg hX' (by omega)
        rw [Int.mul_neg] at k1 k2
        omega
      · have k1 : 0 ≤ h * al := Int.mul_nonneg hh0 hp
        omega
    · exact hq
    · exfalso
      have gq : g * 1 ≤ g * q := Int.mul_le_mul_of_nonneg_left (by omega) (by omega)
      rcases Int.lt_or_le 0 al with hp | hp
      · have k1 : S * 1 ≤ S * al := Int.mul_le_mul_of_nonneg_left (by omega) hS
        have k2 : 0 ≤ X * q := Int.mul_nonneg hX' (by omega)
        have k3 : S ≤ b := by omega
        have k4 : S * (g * q - h * al) + h * d = q * m := by rw [ed2, ← em]; grind
        have k5 : S * (g * q - h * al) ≤ S * b := Int.mul_le_mul_of_nonneg_left (by omega) hS
        have k6 : S * b ≤ b * b := Int.mul_le_mul_of_nonneg_right k3 (by omega)
        have k7 : h * d ≤ b * b := Int.mul_le_mul hh d2 (by omega) (by omega)
        have k8 : 1 * m ≤ q * m := Int.mul_le_mul_of_nonneg_right (by omega) (by omega)
        have k9 : 2 * b * b = 2 * (b * b) := by rw [Int.mul_assoc]
        omega
      · have k1 : 0 ≤ h * -al := Int.mul_nonneg hh0 (by omega)
        rw [Int.mul_neg] at k1
        omega
  subst hq
  have ed3 : d = S * al := by omega
  have en3 : s * n = h * al := by omega
  have hal : al ∣ 1 := by
    have k1 : al ∣ d := ⟨S, by rw [ed3, Int.mul_comm]⟩
    have k2 : al ∣ n := by
      have : n = s * (s * n) := by rw [← Int.mul_assoc, ss, Int.one_mul]
      rw [this, en3]
      exact ⟨s * h, by grind⟩
    have := Int.dvd_coe_gcd k2 k1
    rw [r.co] at this
    exact this
  have hpos : 0 < al := by
    rcases Int.lt_or_le 0 al with hp | hp
    · exact hp
    · have k1 : 0 ≤ S * -al := Int.mul_nonneg hS (by omega)
      rw [Int.mul_neg] at k1
      omega
  have hal1 : al = 1 := by
    have := Int.le_of_dvd (by omega) hal
    omega
  subst hal1
  refine ⟨?_, by omega⟩
  have : n = s * (s * n) := by rw [← Int.mul_assoc, ss, Int.one_mul]
  rw [this, en3, Int.mul_one]
end Go.Proofs.YtlggfmfelakadaaGreatDoor

/-
  DERIVED. What a slice of ints reads as, and how that is kept from world to world.
-/
namespace Go.Proofs.YtlggfmfelakadaaGreatDoor
open Go.RowKit
set_option linter.unusedVariables false

/-- In world w the slice value '.slice A n _' reads as the list xs; its memory lies below block B. -/
def RI (w : World) (B : Nat) (A : Option Addr) (n : Nat) (xs : List Int) : Prop :=
  xs.length = n ∧ (0 < n → ∃ b o, A = some ⟨b, o, none⟩ ∧ b < B ∧ ∀ k, k < n → w.cell? ⟨b, o + k, none⟩ = some (.int .i64 (xs.getD k 0)))

section
variable {w w' : World} {B B' n : Nat} {A : Option Addr} {xs : List Int}
theorem RI.len (h : RI w B A n xs) : xs.length = n := h.1
theorem RI.nil_ (w : World) (B : Nat) (A : Option Addr) : RI w B A 0 [] := ⟨rfl, fun h => absurd h (by omega)⟩
theorem RI.keep (h : RI w B A n xs) (hk : ∀ p : Addr, p.block < B → w'.cell? p = w.cell? p) : RI w' B A n xs :=
  ⟨h.1, fun hn => by
    obtain ⟨b, o, e, hb, hc⟩ := h.2 hn
    exact ⟨b, o, e, hb, fun k hkn => (hk ⟨b, o + k, none⟩ hb).trans (hc k hkn)⟩⟩
theorem RI.more (h : RI w B A n xs) (hB : B ≤ B') : RI w B' A n xs :=
  ⟨h.1, fun hn => by
    obtain ⟨b, o, e, hb, hc⟩ := h.2 hn
    exact ⟨b, o, e, by omega, hc⟩⟩
theorem RI.below {C : Nat} (h : RI w B A n xs) (hb : Below C w w') (hC : B ≤ C) : RI w' B A n xs := h.keep fun _ hp => hb.cell (by omega)
theorem RI.drew (h : RI w B A n xs) : RI w.drew B A n xs := h
theorem RI.drewN (h : RI w B A n xs) (k : Nat) : RI (w.drewN k) B A n xs := h
theorem RI.alloc (h : RI w B A n xs) (hB : B ≤ w.heap.size) (o : Obj) : RI (w.alloc o) B A n xs := h.keep fun p hp => World.cell?_alloc_lt w o p (by omega)
theorem RI.setCell (h : RI w B A n xs) {p : Addr} (hB : B ≤ p.block) (u : Value) : RI (w.setCell p u) B A n xs :=
  h.keep fun q hq => World.cell?_setCell_other w p q u (fun e => by subst e; omega)
theorem RI.grown (h : RI w B A n xs) {row : Option Nat} (hg : w.grownBy w' row) (hB : B ≤ w.heap.size) (hr : ∀ g, row = some g → B ≤ g) : RI w' B A n xs :=
  h.keep fun p hp => World.cell?_of_block (hg.block p.block (by omega) (fun e => by have := hr _ e.symm; omega))
end
theorem getD_nat (xs : List Int) (k : Nat) : xs.getD k 0 = xs[k]?.getD 0 := by simp [List.getD]


/-- The int's row of the table. -/
theorem int_info : (Tryz.prog.info? 3).map (fun i => (i.zero, i.size, i.bytes)) = some (some (.int .i64 0), 1, 8) := by kernel_rfl
/-- From block B on, the slice value v owns just the numbers xs. -/
def OR (w : World) (B : Nat) (v : Value) (xs : List Int) : Prop := w.ownsRow B 3 1 v xs.length (xs.map (Value.int .i64))
/-- The slice value is nil (and there is nothing) or begins a block of its own. -/
theorem OR.form {w : World} {B : Nat} {v : Value} {xs : List Int} (h : OR w B v xs) : (v = .slice none 0 0 ∧ xs = []) ∨ ∃ g cap, v = .slice (some ⟨g, 0, none⟩) xs.length cap ∧ B ≤ g ∧ g < w.heap.size ∧ xs.length ≤ cap ∧ cap ≤ maxLen := by
  rcases h.2 with ⟨h1, h2⟩ | ⟨g, cap, cur, h1, h2, h3, h4, h5, _⟩
  · exact .inl ⟨h1, List.eq_nil_of_length_eq_zero h2⟩
  · refine .inr ⟨g, cap, h1, h2, ?_, h4, h5⟩
    rcases Nat.lt_or_ge g w.heap.size with hlt | hge
    · exact hlt
    · rw [Array.getElem?_eq_none hge] at h3; cases h3
theorem OR.cell {w : World} {B g n cap : Nat} {xs : List Int} (h : OR w B (.slice (some ⟨g, 0, none⟩) n cap) xs) (k : Nat) (hk : k < xs.length) : w.cell? ⟨g, k, none⟩ = some (.int .i64 (xs.getD k 0)) := by
  have hn : n = xs.length := by
    rcases h.2 with ⟨h1, _⟩ | ⟨g', cap', cur, h1, _⟩
    · cases h1
    · injection h1
  subst hn
  have := World.ownsRow.cellAt h k (by omega)
  rw [this]
  simp [hk]
theorem OR.frozen {w : World} {B g n cap : Nat} {xs : List Int} (h : OR w B (.slice (some ⟨g, 0, none⟩) n cap) xs) (k : Nat) : w.frozen? ⟨g, k, none⟩ = false := by
  have hn : n = xs.length := by
    rcases h.2 with ⟨h1, _⟩ | ⟨g', cap', cur, h1, _⟩
    · cases h1
    · injection h1
  subst hn
  exact World.ownsRow.frozenAt h k
theorem OR.set_ {w : World} {B g n cap : Nat} {xs : List Int} (h : OR w B (.slice (some ⟨g, 0, none⟩) n cap) xs) (k : Nat) (u : Int) :
    OR (w.setCell ⟨g, k, none⟩ (.int .i64 u)) B (.slice (some ⟨g, 0, none⟩) n cap) (xs.set k u) := by
  have hn : n = xs.length := by
    rcases h.2 with ⟨h1, _⟩ | ⟨g', cap', cur, h1, _⟩
    · cases h1
    · injection h1
  subst hn
  have := (World.ownsRow.stored h k (.int .i64 u)).1
  unfold OR
  rw [List.length_set, List.map_set]
  exact this
theorem OR.kept {w w' : World} {B : Nat} {v : Value} {xs : List Int} {row : Option Nat} (h : OR w B v xs) (hg : w.grownBy w' row) (hne : v.ownBlock = none ∨ v.ownBlock ≠ row) : OR w' B v xs :=
  World.ownsRow.kept h hg hne
theorem OR.alloc {w : World} {B : Nat} {v : Value} {xs : List Int} (h : OR w B v xs) (o : Obj) : OR (w.alloc o) B v xs := World.ownsRow.alloc h o
theorem OR.drew {w : World} {B : Nat} {v : Value} {xs : List Int} (h : OR w B v xs) : OR w.drew B v xs := h
theorem OR.drewN {w : World} {B : Nat} {v : Value} {xs : List Int} (h : OR w B v xs) (n : Nat) : OR (w.drewN n) B v xs := h
theorem OR.below {w w' : World} {B C : Nat} {v : Value} {xs : List Int} (h : OR w B v xs) (hb : Below C w w') (hC : w.heap.size ≤ C) : OR w' B v xs :=
  h.kept (row := none) ⟨hb.os, hb.tape, hb.output, hb.size, fun k hk _ => hb.block k (by omega)⟩ (by cases v.ownBlock <;> simp)
/-- A store below the base, or into another block. -/
theorem OR.far {w : World} {B : Nat} {v : Value} {xs : List Int} (h : OR w B v xs) {p : Addr} (hp : v.ownBlock ≠ some p.block) (u : Value) : OR (w.setCell p u) B v xs :=
  h.kept (row := some p.block) ⟨rfl, rfl, rfl, by simp [World.setCell], fun k hk hne => Below.heap_setCell w p u k (fun e => hne (by rw [e]))⟩ (.inr hp)
theorem OR.mono {w : World} {B B' : Nat} {v : Value} {xs : List Int} (h : OR w B v xs) (hB : B' ≤ B) : OR w B' v xs := by
  refine ⟨h.1, ?_⟩
  rcases h.2 with h1 | ⟨g, cap, cur, h1, h2, h3⟩
  · exact .inl h1
  · exact .inr ⟨g, cap, cur, h1, by omega, h3⟩
theorem OR.low {w : World} {B : Nat} {v : Value} {xs : List Int} (h : OR w B v xs) {p : Addr} (hp : p.block < B) (u : Value) : OR (w.setCell p u) B v xs :=
  ownsRow_setCell_below h hp u
/-- What is owned reads as it is. -/
theorem OR.reads {w : World} {B n cap : Nat} {A : Option Addr} {xs : List Int} (h : OR w B (.slice A n cap) xs) : RI w w.heap.size A n xs := by
  rcases h.form with ⟨h1, h2⟩ | ⟨g, cap', h1, h2, h3, _⟩
  · injection h1 with e1 e2 e3
    subst e1; subst e2; subst h2
    exact RI.nil_ _ _ _
  · injection h1 with e1 e2 e3
    subst e1; subst e2
    exact ⟨rfl, fun hn => ⟨g, 0, rfl, h3, fun k hk => by rw [Nat.zero_add]; exact h.cell k hk⟩⟩
theorem OR.b_ {w w' : World} {B C : Nat} {v : Value} {xs : List Int} (h : OR w B v xs) (hb : Below C w w' := by assumption) (hC : w.heap.size ≤ C := by first | omega | (simp; done) | (simp; omega)) : OR w' B v xs := OR.below h hb hC
theorem OR.l_ {w : World} {B : Nat} {v u : Value} {xs : List Int} {p : Addr} (h : OR w B v xs) (hp : p.block < B := by first | omega | (simp only []; omega) | (simp; omega)) : OR (w.setCell p u) B v xs := OR.low h hp u
theorem RI.a_ {w : World} {B n : Nat} {A : Option Addr} {xs : List Int} {o : Obj} (h : RI w B A n xs) (hB : B ≤ w.heap.size := by first | omega | (simp; done) | (simp; omega)) : RI (w.alloc o) B A n xs := RI.alloc h hB o
theorem RI.s_ {w : World} {B n : Nat} {A : Option Addr} {xs : List Int} {p : Addr} {u : Value} (h : RI w B A n xs) (hB : B ≤ p.block := by first | omega | (simp; done) | (simp; omega)) : RI (w.setCell p u) B A n xs := RI.setCell h hB u
theorem RI.b_ {w w' : World} {B C n : Nat} {A : Option Addr} {xs : List Int} (h : RI w B A n xs) (hb : Below C w w' := by assumption) (hC : B ≤ C := by first | omega | (simp; done) | (simp; omega)) : RI w' B A n xs := RI.below h hb hC
theorem Ko {P Q : Prop} (h : Q) (k : Q → P := by intro h; (with_reducible (repeat (first | exact h | refine OR.drew ?_ | refine OR.drewN ?_ _ | refine OR.alloc ?_ _ | refine OR.b_ ?_ | refine OR.l_ ?_)))) : P := k h
theorem Kr {P Q : Prop} (h : Q) (k : Q → P := by intro h; (with_reducible (repeat (first | exact h | refine RI.drew ?_ | refine RI.drewN ?_ _ | refine RI.a_ ?_ | refine RI.s_ ?_ | refine RI.b_ ?_)))) : P := k h
theorem made_ints (n : Nat) : (madeCells #[Value.int .i64 0] n).toList = (List.replicate n (0 : Int)).map (Value.int .i64) := by
  rw [List.map_replicate]
  apply List.ext_getElem?
  intro i
  simp only [madeCells]
  by_cases hi : i < n
  · simp [hi, Nat.mod_one]
  · simp [hi]
theorem OR.of_made {w : World} {B g n : Nat} (h : w.ownsRow B 3 1 (.slice (some ⟨g, 0, none⟩) n n) n (madeCells #[Value.int .i64 0] n).toList) :
    OR w B (.slice (some ⟨g, 0, none⟩) n n) (List.replicate n 0) := by
  unfold OR
  rw [← made_ints, List.length_replicate]
  exact h
theorem only_set {a w : World} {g : Nat} (h : a.grownBy w (some g)) (k : Nat) (u : Value) : a.grownBy (w.setCell ⟨g, k, none⟩ u) (some g) :=
  ⟨h.os, h.tape, h.output, by simpa [World.setCell] using h.size, fun i hi hne => (Below.heap_setCell w _ u i (by
    rintro rfl
    exact hne rfl)).trans (h.block i hi hne)⟩
theorem only_alloc {a w : World} {row : Option Nat} (h : a.grownBy w row) (o : Obj) : a.grownBy (w.alloc o) row :=
  ⟨h.os, h.tape, h.output, Nat.le_trans h.size (by simp), fun i hi hne => (Below.heap_alloc w o i (Nat.lt_of_lt_of_le hi h.size)).trans (h.block i hi hne)⟩
theorem only_drew {a w : World} {row : Option Nat} (h : a.grownBy w row) : a.grownBy w.drew row := ⟨h.os, h.tape, h.output, h.size, h.block⟩
theorem only_drewN {a w : World} {row : Option Nat} (h : a.grownBy w row) (n : Nat) : a.grownBy (w.drewN n) row := ⟨h.os, h.tape, h.output, h.size, h.block⟩
theorem only_of_below {a w : World} (h : Below a.heap.size a w) (row : Option Nat) : a.grownBy w row := ⟨h.os, h.tape, h.output, h.size, fun i hi _ => h.block i hi⟩
theorem only_trans {a b c : World} {row : Option Nat} (h : a.grownBy b row) (k : b.grownBy c row) : a.grownBy c row :=
  ⟨k.os.trans h.os, k.tape.trans h.tape, k.output.trans h.output, Nat.le_trans h.size k.size, fun i hi hn => (k.block i (Nat.lt_of_lt_of_le hi h.size) hn).trans (h.block i hi hn)⟩
theorem only_below {a w : World} {row : Option Nat} {B : Nat} (h : a.grownBy w row) (hB : B ≤ a.heap.size) (hr : ∀ g, row = some g → B ≤ g) : Below B a w :=
  (Below.refl B a).grown h hB hr
theorem OR.caps {w : World} {B n cap : Nat} {A : Option Addr} {xs : List Int} (h : OR w B (.slice A n cap) xs) : n ≤ cap ∧ cap ≤ 9223372036854775807 := by
  rcases h.form with ⟨h1, h2⟩ | ⟨g, cap', h1, h2, h3, h4, h5⟩
  · injection h1 with e1 e2 e3
    omega
  · injection h1 with e1 e2 e3
    unfold maxLen at h5
    omega
theorem bkeepB {W w1 : World} {B : Nat} (b : Nat) (hb : Below B W w1) (h : b < B) (h' : b < W.heap.size) :
    (∀ o, w1.cell? ⟨b, o, none⟩ = W.cell? ⟨b, o, none⟩) ∧ (∀ o, w1.frozen? ⟨b, o, none⟩ = W.frozen? ⟨b, o, none⟩) ∧ b < w1.heap.size :=
  ⟨fun o => hb.cell (p := ⟨b, o, none⟩) h, fun o => hb.frozen (p := ⟨b, o, none⟩) h, Nat.lt_of_lt_of_le h' hb.size⟩
/-- An owned slice whose block is known to be there is no nil. -/
theorem OR.notNil {w : World} {B g k : Nat} {v : Value} {xs : List Int} (h : OR w B v xs) (hv : v.ownBlock = some g ∨ v.ownBlock = some k) : ∃ g cap, v = .slice (some ⟨g, 0, none⟩) xs.length cap ∧ B ≤ g ∧ g < w.heap.size := by
  rcases h.form with ⟨h1, h2⟩ | ⟨g, cap', h1, h2, h3, h4, h5⟩
  · rw [h1] at hv; rcases hv with hv | hv <;> cases hv
  · exact ⟨g, cap', h1, h2, h3⟩
end Go.Proofs.YtlggfmfelakadaaGreatDoor

/-
  DERIVED. Texts of numbers: a numeral reads back, a cut parts at the first sign, fields come back. No program in sight.
-/
namespace Go.Proofs.YtlggfmfelakadaaGreatDoor
set_option linter.unusedVariables false
abbrev Bs := List UInt8
/-- A decimal digit. -/
def Dg (b : UInt8) : Prop := 48 ≤ b.toNat ∧ b.toNat ≤ 57
theorem ofNat_dg {d : Nat} (h : d < 10) : (UInt8.ofNat (48 + d)).toNat = 48 + d := by
  rw [UInt8.toNat_ofNat']
  omega
theorem dec_dg : ∀ (u : Nat), ∀ b ∈ Lib.decDigits u, Dg b := by
  intro u
  induction u using Nat.strongRecOn with
  | _ u ih =>
    intro b hb
    rw [Lib.decDigits] at hb
    split at hb
    · rename_i h
      rw [List.mem_singleton] at hb
      subst hb
      unfold Dg
      rw [ofNat_dg h]; omega
    · rename_i h
      rcases List.mem_append.1 hb with hb | hb
      · exact ih (u / 10) (by omega) b hb
      · rw [List.mem_singleton] at hb
        subst hb
        unfold Dg
        rw [ofNat_dg (Nat.mod_lt _ (by decide))]
        have := Nat.mod_lt u (show 0 < 10 by decide)
        omega
theorem dec_ne (u : Nat) : Lib.decDigits u ≠ [] := by
  rw [Lib.decDigits]
  split
  · simp
  · simp
theorem dec_len : ∀ (k u : Nat), u < 10 ^ (k + 1) → (Lib.decDigits u).length ≤ k + 1
  | 0, u, h => by
    rw [Lib.decDigits, dif_pos (by simpa using h)]
    simp
  | k + 1, u, h => by
    rw [Lib.decDigits]
    split
    · simp
    · rw [List.length_append]
      have := dec_len k (u / 10) (by rw [Nat.div_lt_iff_lt_mul (by decide)]; rw [Nat.pow_succ] at h; exact h)
      simp; omega
theorem decFrom_app : ∀ (l m : Bs) (acc : Nat), Lib.decFrom acc (l ++ m) = (Lib.decFrom acc l).bind fun a => Lib.decFrom a m
  | [], m, acc => rfl
  | b :: l, m, acc => by
    show (match Lib.digitVal b with | some d => Lib.decFrom (acc * 10 + d) (l ++ m) | none => none) = _
    rw [show Lib.decFrom acc (b :: l) = (match Lib.digitVal b with | some d => Lib.decFrom (acc * 10 + d) l | none => none) from rfl]
    cases Lib.digitVal b with
    | none => rfl
    | some d => exact decFrom_app l m _
theorem digitVal_of {d : Nat} (h : d < 10) : Lib.digitVal (UInt8.ofNat (48 + d)) = some d := by
  unfold Lib.digitVal
  rw [ofNat_dg h, if_pos ⟨by omega, by omega⟩]
  congr 1; omega
theorem dec_back : ∀ (u : Nat), Lib.decFrom 0 (Lib.decDigits u) = some u := by
  intro u
  induction u using Nat.strongRecOn with
  | _ u ih =>
    rw [Lib.decDigits]
    split
    · rename_i h
      show (match Lib.digitVal (UInt8.ofNat (48 + u)) with | some d => Lib.decFrom (0 * 10 + d) [] | none => none) = _
      rw [digitVal_of h]
      show some (0 * 10 + u) = some u
      congr 1; omega
    · rename_i h
      rw [decFrom_app, ih (u / 10) (by omega)]
      show (match Lib.digitVal (UInt8.ofNat (48 + u % 10)) with | some d => Lib.decFrom (u / 10 * 10 + d) [] | none => none) = _
      rw [digitVal_of (Nat.mod_lt _ (by decide))]
      show some (u / 10 * 10 + u % 10) = some u
      congr 1; omega
theorem decNat_back (u : Nat) : Lib.decNat (Lib.decDigits u) = some u := by
  unfold Lib.decNat
  rw [if_neg, dec_back]
  rw [List.isEmpty_iff]; exact dec_ne u
theorem atoi_itoa (n : Int) : Lib.atoi (Lib.itoa n) = some n := by
  unfold Lib.itoa
  split
  · rename_i h
    unfold Lib.atoi
    dsimp only
    rw [if_pos (show ((45 : UInt8) == 45) = true from rfl), decNat_back]
    show some (-(n.natAbs : Int)) = some n
    congr 1; omega
  · rename_i h
    have hb := decNat_back n.toNat
    have hd := dec_dg n.toNat
    have hne := dec_ne n.toNat
    rcases hl : Lib.decDigits n.toNat with _ | ⟨b, r⟩
    · exact absurd hl hne
    · rw [hl] at hb hd
      have hb1 := hd b (List.mem_cons_self ..)
      unfold Dg at hb1
      unfold Lib.atoi
      dsimp only
      rw [if_neg (by rw [beq_iff_eq]; intro e; rw [e] at hb1; revert hb1; decide), if_neg (by rw [beq_iff_eq]; intro e; rw [e] at hb1; revert hb1; decide), hb]
      show some ((n.toNat : Nat) : Int) = some n
      congr 1; omega
/-- A sign of a numeral. -/
def Ng (b : UInt8) : Prop := b.toNat = 45 ∨ Dg b
theorem itoa_ng (n : Int) : ∀ b ∈ Lib.itoa n, Ng b := fun b hb => by
  unfold Lib.itoa at hb
  split at hb
  · rcases List.mem_cons.1 hb with rfl | hb
    · exact .inl rfl
    · exact .inr (dec_dg _ b hb)
  · exact .inr (dec_dg _ b hb)
theorem itoa_ne (n : Int) : Lib.itoa n ≠ [] := by
  unfold Lib.itoa
  split
  · simp
  · exact dec_ne _
theorem itoa_len {n : Int} (h : -400000000 ≤ n ∧ n ≤ 400000000) : (Lib.itoa n).length ≤ 10 := by
  unfold Lib.itoa
  split
  · have := dec_len 8 n.natAbs (by omega)
    simp; omega
  · have := dec_len 8 n.toNat (by omega)
    omega
/-- A cut at the first of one sign. -/
theorem index_at (c : UInt8) : ∀ (a b : Bs), (∀ x ∈ a, x ≠ c) → Lib.index (a ++ c :: b) [c] = a.length
  | [], b, _ => by
    show Lib.index (c :: b) [c] = 0
    unfold Lib.index
    rw [if_pos (by simp)]
  | x :: a, b, h => by
    show Lib.index (x :: (a ++ c :: b)) [c] = ((a.length + 1 : Nat) : Int)
    have ih := index_at c a b fun y hy => h y (List.mem_cons_of_mem _ hy)
    have hx := h x (List.mem_cons_self ..)
    unfold Lib.index
    rw [if_neg (by simp [Ne.symm hx]), ih]
    have : ((a.length : Int) == -1) = false := by rw [beq_eq_false_iff_ne]; omega
    simp [this]
theorem index_no (c : UInt8) : ∀ (a : Bs), (∀ x ∈ a, x ≠ c) → Lib.index a [c] = -1
  | [], _ => by unfold Lib.index; rfl
  | x :: a, h => by
    have ih := index_no c a fun y hy => h y (List.mem_cons_of_mem _ hy)
    have hx := h x (List.mem_cons_self ..)
    unfold Lib.index
    rw [if_neg (by simp [Ne.symm hx]), ih]
    simp
theorem cut_at (c : UInt8) (a b : Bs) (h : ∀ x ∈ a, x ≠ c) : Lib.cut (a ++ c :: b) [c] = (a, b, true) := by
  unfold Lib.cut
  rw [index_at c a b h, if_pos (by omega)]
  simp
theorem cut_no (c : UInt8) (a : Bs) (h : ∀ x ∈ a, x ≠ c) : Lib.cut a [c] = (a, [], false) := by
  unfold Lib.cut
  rw [index_no c a h, if_neg (by omega)]
/-! ### Fields -/
/-- One byte of ASCII at a place of a string. -/
theorem dec_at {s : ByteArray} {pos : Nat} {b : UInt8} (h : s.data.toList[pos]? = some b) (ha : b.toNat < 128) : pos < s.size ∧ Utf8.decode s pos = (b.toNat, 1) := by
  have hp : pos < s.size := by
    have := (List.getElem?_eq_some_iff.1 h).1
    simpa using this
  have hb : s[pos]'hp = b := by
    obtain ⟨h1, h2⟩ := List.getElem?_eq_some_iff.1 h
    rw [← h2]
    rfl
  refine ⟨hp, ?_⟩
  rw [decode_ascii s pos hp (by rw [hb]; exact ha), hb]
/-- The rest of a text, parted: signs that part, and what follows each. -/
def parted : List (UInt8 × Bs) → Bs
  | [] => []
  | (c, t) :: r => c :: (t ++ parted r)
def tokOk (p : Nat → Bool) (t : Bs) : Prop := t ≠ [] ∧ ∀ b ∈ t, b.toNat < 128 ∧ p b.toNat = false
def sepOk (p : Nat → Bool) (c : UInt8) : Prop := c.toNat < 128 ∧ p c.toNat = true
theorem drop_getE {l r : Bs} {pos : Nat} {b : UInt8} (h : l.drop pos = b :: r) : l[pos]? = some b ∧ l.drop (pos + 1) = r := by
  have h1 : (l.drop pos)[0]? = some b := by rw [h]; rfl
  rw [List.getElem?_drop] at h1
  refine ⟨by simpa using h1, ?_⟩
  have : (l.drop pos).drop 1 = r := by rw [h]; rfl
  rw [List.drop_drop] at this
  exact this
theorem span_in {p : Nat → Bool} {s : ByteArray} {f pos a c : Nat} {acc : List (Nat × Nat)} (h : pos < s.size) (h2 : Utf8.decode s pos = (c, 1)) (hb : p c = false) : Lib.spansFromP p s (f + 1) pos (some a) acc = Lib.spansFromP p s f (pos + 1) (some a) acc := by
  conv => lhs; unfold Lib.spansFromP
  rw [if_pos h, h2]
  dsimp only
  rw [if_neg (by rw [hb]; exact Bool.false_ne_true)]
theorem span_new {p : Nat → Bool} {s : ByteArray} {f pos c : Nat} {acc : List (Nat × Nat)} (h : pos < s.size) (h2 : Utf8.decode s pos = (c, 1)) (hb : p c = false) : Lib.spansFromP p s (f + 1) pos none acc = Lib.spansFromP p s f (pos + 1) (some pos) acc := by
  conv => lhs; unfold Lib.spansFromP
  rw [if_pos h, h2]
  dsimp only
  rw [if_neg (by rw [hb]; exact Bool.false_ne_true)]
theorem span_out {p : Nat → Bool} {s : ByteArray} {f pos a c : Nat} {acc : List (Nat × Nat)} (h : pos < s.size) (h2 : Utf8.decode s pos = (c, 1)) (hb : p c = true) : Lib.spansFromP p s (f + 1) pos (some a) acc = Lib.spansFromP p s f (pos + 1) none (acc ++ [(a, pos)]) := by
  conv => lhs; unfold Lib.spansFromP
  rw [if_pos h, h2]
  dsimp only
  rw [if_pos hb]
theorem span_tok {p : Nat → Bool} {s : ByteArray} : ∀ (t r : Bs) (f pos a : Nat) (acc : List (Nat × Nat)), (∀ b ∈ t, b.toNat < 128 ∧ p b.toNat = false) → s.data.toList.drop pos = t ++ r → Lib.spansFromP p s (f + t.length) pos (some a) acc = Lib.spansFromP p s f (pos + t.length) (some a) acc
  | [], r, f, pos, a, acc, _, _ => rfl
  | b :: t, r, f, pos, a, acc, ht, hd => by
    obtain ⟨h1, h2⟩ := drop_getE (show s.data.toList.drop pos = b :: (t ++ r) from hd)
    obtain ⟨hb1, hb2⟩ := ht b (List.mem_cons_self ..)
    obtain ⟨h3, h4⟩ := dec_at h1 hb1
    rw [show f + (b :: t).length = (f + t.length) + 1 by simp; omega]
    rw [span_in h3 h4 hb2]
    rw [span_tok t r f (pos + 1) a acc (fun x hx => ht x (List.mem_cons_of_mem _ hx)) h2]
    rw [show pos + 1 + t.length = pos + (b :: t).length by simp; omega]
def spans : Nat → Nat → List (UInt8 × Bs) → List (Nat × Nat)
  | a, pos, [] => [(a, pos)]
  | a, pos, (c, t) :: r => (a, pos) :: spans (pos + 1) (pos + 1 + t.length) r
theorem span_all {p : Nat → Bool} {s : ByteArray} : ∀ (r : List (UInt8 × Bs)) (f pos a : Nat) (acc : List (Nat × Nat)), (∀ x ∈ r, sepOk p x.1 ∧ tokOk p x.2) → s.data.toList.drop pos = parted r → pos ≤ s.size → (parted r).length ≤ f → Lib.closeSpans s (Lib.spansFromP p s f pos (some a) acc) = acc ++ spans a pos r
  | [], f, pos, a, acc, _, hd, hp, _ => by
    have hl : s.size ≤ pos := by
      have := List.drop_eq_nil_iff.1 (show s.data.toList.drop pos = [] from hd)
      simpa using this
    rw [Lib.spansFromP_end p s f pos _ _ (by omega)]
    show acc ++ [(a, s.size)] = acc ++ [(a, pos)]
    rw [show s.size = pos by omega]
  | (c, t) :: r, f, pos, a, acc, hok, hd, hp, hf => by
    obtain ⟨⟨hc1, hc2⟩, ht1, ht2⟩ := hok (c, t) (List.mem_cons_self ..)
    obtain ⟨h1, h2⟩ := drop_getE (show s.data.toList.drop pos = c :: (t ++ parted r) from hd)
    obtain ⟨h3, h4⟩ := dec_at h1 hc1
    have hlen : (parted ((c, t) :: r)).length = (t.length + (parted r).length) + 1 := by
      show (c :: (t ++ parted r)).length = _
      simp
    rw [hlen] at hf
    obtain ⟨g, hg⟩ : ∃ g, f = (g + 1) := ⟨f - 1, by omega⟩
    subst hg
    rw [span_out h3 h4 hc2]
    rcases t with _ | ⟨b, t⟩
    · exact absurd rfl ht1
    · obtain ⟨k1, k2⟩ := drop_getE (show s.data.toList.drop (pos + 1) = b :: (t ++ parted r) from h2)
      obtain ⟨hb1, hb2⟩ := ht2 b (List.mem_cons_self ..)
      obtain ⟨k3, k4⟩ := dec_at k1 hb1
      have hf2 : t.length + 1 + (parted r).length ≤ g := by simpa using hf
      obtain ⟨q, hq⟩ : ∃ q, g = (q + t.length) + 1 := ⟨g - 1 - t.length, by omega⟩
      subst hq
      rw [span_new k3 k4 hb2]
      rw [span_tok t (parted r) q (pos + 1 + 1) (pos + 1) _ (fun x hx => ht2 x (List.mem_cons_of_mem _ hx)) k2]
      have hd3 : s.data.toList.drop (pos + 1 + 1 + t.length) = parted r := by
        rw [← List.drop_drop, k2]; simp
      have hsz : pos + 1 + 1 + t.length ≤ s.size := by
        have h5 := congrArg List.length k2
        rw [List.length_drop, List.length_append, show s.data.toList.length = s.size from rfl] at h5
        omega
      rw [span_all r q (pos + 1 + 1 + t.length) (pos + 1) _ (fun x hx => hok x (List.mem_cons_of_mem _ hx)) hd3 hsz (by omega)]
      show (acc ++ [(a, pos)]) ++ spans (pos + 1) (pos + 1 + 1 + t.length) r = acc ++ ((a, pos) :: spans (pos + 1) (pos + 1 + (b :: t).length) r)
      rw [List.append_assoc, show pos + 1 + (b :: t).length = pos + 1 + 1 + t.length by simp; omega]
      rfl
theorem extract_toList (s : ByteArray) (a b : Nat) : (s.extract a b).data.toList = (s.data.toList.drop a).take (b - a) := by
  rw [ByteArray.data_extract, Array.toList_extract]
theorem spans_map {s : ByteArray} : ∀ (r : List (UInt8 × Bs)) (a pos : Nat) (t : Bs), s.data.toList.drop a = t ++ parted r → pos = a + t.length → (spans a pos r).map (fun x => (s.extract x.1 x.2).data.toList) = t :: r.map (·.2)
  | [], a, pos, t, hd, hp => by
    subst hp
    show [(s.extract a (a + t.length)).data.toList] = [t]
    rw [extract_toList, hd, show a + t.length - a = t.length by omega]
    simp [parted]
  | (c, u) :: r, a, pos, t, hd, hp => by
    subst hp
    show (s.extract a (a + t.length)).data.toList :: (spans (a + t.length + 1) (a + t.length + 1 + u.length) r).map _ = t :: u :: r.map (·.2)
    rw [extract_toList, hd, show a + t.length - a = t.length by omega, List.take_left']
    · congr 1
      refine spans_map r (a + t.length + 1) _ u ?_ rfl
      have : s.data.toList.drop (a + (t.length + 1)) = u ++ parted r := by
        rw [← List.drop_drop, hd]
        show (t ++ (c :: (u ++ parted r))).drop (t.length + 1) = _
        rw [← List.drop_drop, List.drop_left']
        · rfl
        · rfl
      rw [Nat.add_assoc]; exact this
    · rfl
/-- The fields of a text of tokens. -/
theorem fields_of {p : Nat → Bool} {s : ByteArray} {t : Bs} {r : List (UInt8 × Bs)} (hs : s.data.toList = t ++ parted r) (ht : tokOk p t) (hr : ∀ x ∈ r, sepOk p x.1 ∧ tokOk p x.2) : (Lib.goFieldsP p s).map (fun x => x.data.toList) = t :: r.map (·.2) := by
  obtain ⟨ht1, ht2⟩ := ht
  rcases t with _ | ⟨b, t⟩
  · exact absurd rfl ht1
  · have hd0 : s.data.toList.drop 0 = b :: (t ++ parted r) := hs
    obtain ⟨k1, k2⟩ := drop_getE hd0
    obtain ⟨hb1, hb2⟩ := ht2 b (List.mem_cons_self ..)
    obtain ⟨k3, k4⟩ := dec_at k1 hb1
    have hlen : s.size = (b :: t).length + (parted r).length := by
      have := congrArg List.length hs
      rw [List.length_append] at this
      exact this
    have hl2 : s.size = ((parted r).length + t.length) + 1 := by rw [hlen]; simp; omega
    have hsp : Lib.spansOfP p s = spans 0 (0 + (b :: t).length) r := by
      unfold Lib.spansOfP
      rw [show Lib.spansFromP p s s.size 0 none [] = Lib.spansFromP p s ((parted r).length + t.length) 1 (some 0) [] by
        rw [hl2, span_new k3 k4 hb2]]
      rw [span_tok t (parted r) _ 1 0 [] (fun x hx => ht2 x (List.mem_cons_of_mem _ hx)) k2]
      have hd3 : s.data.toList.drop (1 + t.length) = parted r := by
        rw [← List.drop_drop, show (1 : Nat) = 0 + 1 from rfl, k2]; simp
      rw [span_all r _ (1 + t.length) 0 [] hr hd3 (by omega) (Nat.le_refl _)]
      rw [show 0 + (b :: t).length = 1 + t.length by simp; omega]
      rfl
    unfold Lib.goFieldsP
    rw [hsp, List.map_map]
    exact spans_map r 0 _ (b :: t) hs rfl
end Go.Proofs.YtlggfmfelakadaaGreatDoor

/-
  DERIVED. Contracts of the library that the shelf holds, at this program (written by the kit's lay-shelf.mjs and lay-plain.mjs; pruned by mkshelf.py).
-/
namespace Go.Proofs.YtlggfmfelakadaaGreatDoor
open Go.RowKit
open Go.Shelf
set_option linter.unusedVariables false
def Tryz.lays156_ren : Go.Shelf.Ren := ⟨fun | 156 => 22 | 165 => 54 | 166 => 55 | 169 => 56 | 240 => 79 | 241 => 80 | 276 => 91 | 277 => 92 | n => n, fun | 31 => 46 | 9 => 9 | 3 => 3 | 4 => 4 | 0 => 0 | 20 => 20 | 72 => 81 | 76 => 85 | 70 => 79 | 37 => 22 | 75 => 84 | 127 => 103 | 164 => 114 | 5 => 5 | 80 => 87 | n => n, fun | n => n⟩
theorem Tryz.lays156 : Go.Proofs.Lays.n156 Tryz.prog Tryz.lays156_ren := {
  mixed := by kernel_rfl
  f156 := Tryz.func22.trans (congrArg some (by kernel_rfl))
  f165 := Tryz.func54.trans (congrArg some (by kernel_rfl))
  f166 := Tryz.func55.trans (congrArg some (by kernel_rfl))
  f169 := Tryz.func56.trans (congrArg some (by kernel_rfl))
  f240 := Tryz.func79.trans (congrArg some (by kernel_rfl))
  f241 := Tryz.func80.trans (congrArg some (by kernel_rfl))
  f276 := Tryz.func91.trans (congrArg some (by kernel_rfl))
  f277 := Tryz.func92.trans (congrArg some (by kernel_rfl))
  t0 := Tryz.underlying0
  a0 := Tryz.isAgg0
  z0 := Tryz.sizeOf0
  v0 := Tryz.zeroValue0
  t3 := Tryz.underlying3
  a3 := Tryz.isAgg3
  z3 := Tryz.sizeOf3
  v3 := Tryz.zeroValue3
  t4 := Tryz.underlying4
  a4 := Tryz.isAgg4
  z4 := Tryz.sizeOf4
  v4 := Tryz.zeroValue4
  t9 := Tryz.underlying9
  a9 := Tryz.isAgg9
  z9 := Tryz.sizeOf9
  v9 := Tryz.zeroValue9
  t20 := Tryz.underlying20
  a20 := Tryz.isAgg20
  z20 := Tryz.sizeOf20
  v20 := Tryz.zeroValue20
  t31 := Tryz.underlying46
  a31 := Tryz.isAgg46
  z31 := Tryz.sizeOf46
  v31 := Tryz.zeroValue46
  t37 := Tryz.underlying22
  a37 := Tryz.isAgg22
  z37 := Tryz.sizeOf22
  v37 := Tryz.zeroValue22
  t70 := Tryz.underlying79
  a70 := Tryz.isAgg79
  z70 := Tryz.sizeOf79
  v70 := Tryz.zeroValue79
  t72 := Tryz.underlying81
  a72 := Tryz.isAgg81
  z72 := Tryz.sizeOf81
  v72 := Tryz.zeroValue81
  t75 := Tryz.underlying84
  a75 := Tryz.isAgg84
  z75 := Tryz.sizeOf84
  v75 := Tryz.zeroValue84
  t76 := Tryz.underlying85
  a76 := Tryz.isAgg85
  z76 := Tryz.sizeOf85
  v76 := Tryz.zeroValue85
  t127 := Tryz.underlying103
  a127 := Tryz.isAgg103
  z127 := Tryz.sizeOf103
  v127 := Tryz.zeroValue103
  t164 := Tryz.underlying114
  a164 := Tryz.isAgg114
  z164 := Tryz.sizeOf114
  v164 := Tryz.zeroValue114 }
theorem Tryz.Builder_Extra_156 : Builder.Extra Tryz.prog Tryz.lays156_ren := {
  sizeBuilder := by kernel_rfl
  liesBuilder := by kernel_rfl
  t5 := Tryz.underlying5
  a5 := Tryz.isAgg5
  z5 := Tryz.sizeOf5
  v5 := Tryz.zeroValue5
  infoByte := by kernel_rfl
  cellsByte := by kernel_rfl
  sizeByte := by kernel_rfl
  neB5 := by decide }
open Go.RowKit in
theorem Tryz.strings_Join_none (a : Option Addr) (c : Nat) (sep : ByteArray) (w : World) :
    Calls Tryz.prog 22 #[.slice a 0 c, .string sep] w fun e w' => e = .returned (.string ⟨#[]⟩) ∧ w' = w := Any.strings_Join_none Tryz.lays156 Tryz.Builder_Extra_156 a c sep w
open Go.RowKit in
theorem Tryz.strings_Join (bk o c : Nat) (xs : List ByteArray) (sep : ByteArray) (w : World) (hcells : ∀ (j : Nat) x, xs[j]? = some x → w.cell? ⟨bk, o + j, none⟩ = some (.string x)) (hbk : bk < w.heap.size) (hN : xs.length ≤ 140737488355328) (hcap : xs.length ≤ c) (hlen : (Lib.join (xs.map (·.data.toList)) sep.data.toList).length ≤ 140737488355328) :
    Calls Tryz.prog 22 #[.slice (some ⟨bk, o, none⟩) xs.length c, .string sep] w fun e w' => e = .returned (.string ⟨(Lib.join (xs.map (·.data.toList)) sep.data.toList).toArray⟩) ∧ Below w.heap.size w w' := Any.strings_Join Tryz.lays156 Tryz.Builder_Extra_156 bk o c xs sep w hcells hbk hN hcap hlen
def Tryz.lays172_ren : Go.Shelf.Ren := ⟨fun | 172 => 58 | 244 => 82 | 245 => 83 | 247 => 97 | 279 => 98 | 280 => 99 | 281 => 100 | 282 => 101 | 287 => 108 | 316 => 109 | 171 => 53 | 205 => 110 | 321 => 116 | 322 => 117 | 243 => 78 | 246 => 90 | 283 => 102 | 284 => 103 | 285 => 104 | 286 => 105 | 129 => 112 | 317 => 111 | 318 => 113 | 319 => 114 | 320 => 115 | 337 => 118 | 338 => 119 | n => n, fun | 9 => 9 | 3 => 3 | 75 => 84 | 76 => 85 | 4 => 4 | 5 => 5 | 167 => 119 | 37 => 22 | 0 => 0 | 85 => 120 | 2 => 2 | 168 => 122 | 53 => 127 | 175 => 135 | 46 => 118 | 210 => 139 | 127 => 103 | 145 => 149 | 143 => 147 | 21 => 21 | 171 => 126 | 173 => 130 | 212 => 142 | 51 => 132 | 20 => 20 | 213 => 143 | 232 => 151 | 233 => 152 | 80 => 87 | n => n, fun | 15 => 1 | 16 => 2 | 17 => 3 | 18 => 4 | 19 => 5 | n => n⟩
theorem Tryz.lays172 : Go.Proofs.Lays.n172 Tryz.prog Tryz.lays172_ren := {
  mixed := by kernel_rfl
  f129 := Tryz.func112.trans (congrArg some (by kernel_rfl))
  f171 := Tryz.func53.trans (congrArg some (by kernel_rfl))
  f172 := Tryz.func58.trans (congrArg some (by kernel_rfl))
  f205 := Tryz.func110.trans (congrArg some (by kernel_rfl))
  f243 := Tryz.func78.trans (congrArg some (by kernel_rfl))
  f244 := Tryz.func82.trans (congrArg some (by kernel_rfl))
  f245 := Tryz.func83.trans (congrArg some (by kernel_rfl))
  f246 := Tryz.func90.trans (congrArg some (by kernel_rfl))
  f247 := Tryz.func97.trans (congrArg some (by kernel_rfl))
  f279 := Tryz.func98.trans (congrArg some (by kernel_rfl))
  f280 := Tryz.func99.trans (congrArg some (by kernel_rfl))
  f281 := Tryz.func100.trans (congrArg some (by kernel_rfl))
  f282 := Tryz.func101.trans (congrArg some (by kernel_rfl))
  f283 := Tryz.func102.trans (congrArg some (by kernel_rfl))
  f284 := Tryz.func103.trans (congrArg some (by kernel_rfl))
  f285 := Tryz.func104.trans (congrArg some (by kernel_rfl))
  f286 := Tryz.func105.trans (congrArg some (by kernel_rfl))
  f287 := Tryz.func108.trans (congrArg some (by kernel_rfl))
  f316 := Tryz.func109.trans (congrArg some (by kernel_rfl))
  f317 := Tryz.func111.trans (congrArg some (by kernel_rfl))
  f318 := Tryz.func113.trans (congrArg some (by kernel_rfl))
  f319 := Tryz.func114.trans (congrArg some (by kernel_rfl))
  f320 := Tryz.func115.trans (congrArg some (by kernel_rfl))
  f321 := Tryz.func116.trans (congrArg some (by kernel_rfl))
  f322 := Tryz.func117.trans (congrArg some (by kernel_rfl))
  f337 := Tryz.func118.trans (congrArg some (by kernel_rfl))
  f338 := Tryz.func119.trans (congrArg some (by kernel_rfl))
  t0 := Tryz.underlying0
  a0 := Tryz.isAgg0
  z0 := Tryz.sizeOf0
  v0 := Tryz.zeroValue0
  t2 := Tryz.underlying2
  a2 := Tryz.isAgg2
  z2 := Tryz.sizeOf2
  v2 := Tryz.zeroValue2
  t3 := Tryz.underlying3
  a3 := Tryz.isAgg3
  z3 := Tryz.sizeOf3
  v3 := Tryz.zeroValue3
  t4 := Tryz.underlying4
  a4 := Tryz.isAgg4
  z4 := Tryz.sizeOf4
  v4 := Tryz.zeroValue4
  t5 := Tryz.underlying5
  a5 := Tryz.isAgg5
  z5 := Tryz.sizeOf5
  v5 := Tryz.zeroValue5
  t9 := Tryz.underlying9
  a9 := Tryz.isAgg9
  z9 := Tryz.sizeOf9
  v9 := Tryz.zeroValue9
  t20 := Tryz.underlying20
  a20 := Tryz.isAgg20
  z20 := Tryz.sizeOf20
  v20 := Tryz.zeroValue20
  t21 := Tryz.underlying21
  a21 := Tryz.isAgg21
  z21 := Tryz.sizeOf21
  v21 := Tryz.zeroValue21
  t37 := Tryz.underlying22
  a37 := Tryz.isAgg22
  z37 := Tryz.sizeOf22
  v37 := Tryz.zeroValue22
  t46 := Tryz.underlying118
  a46 := Tryz.isAgg118
  z46 := Tryz.sizeOf118
  v46 := Tryz.zeroValue118
  t51 := Tryz.underlying132
  a51 := Tryz.isAgg132
  z51 := Tryz.sizeOf132
  v51 := Tryz.zeroValue132
  t53 := Tryz.underlying127
  a53 := Tryz.isAgg127
  z53 := Tryz.sizeOf127
  v53 := Tryz.zeroValue127
  t75 := Tryz.underlying84
  a75 := Tryz.isAgg84
  z75 := Tryz.sizeOf84
  v75 := Tryz.zeroValue84
  t76 := Tryz.underlying85
  a76 := Tryz.isAgg85
  z76 := Tryz.sizeOf85
  v76 := Tryz.zeroValue85
  t85 := Tryz.underlying120
  a85 := Tryz.isAgg120
  z85 := Tryz.sizeOf120
  v85 := Tryz.zeroValue120
  t127 := Tryz.underlying103
  a127 := Tryz.isAgg103
  z127 := Tryz.sizeOf103
  v127 := Tryz.zeroValue103
  t143 := Tryz.underlying147
  a143 := Tryz.isAgg147
  z143 := Tryz.sizeOf147
  v143 := Tryz.zeroValue147
  t145 := Tryz.underlying149
  a145 := Tryz.isAgg149
  z145 := Tryz.sizeOf149
  v145 := Tryz.zeroValue149
  t167 := Tryz.underlying119
  a167 := Tryz.isAgg119
  z167 := Tryz.sizeOf119
  v167 := Tryz.zeroValue119
  t168 := Tryz.underlying122
  a168 := Tryz.isAgg122
  z168 := Tryz.sizeOf122
  v168 := Tryz.zeroValue122
  t171 := Tryz.underlying126
  a171 := Tryz.isAgg126
  z171 := Tryz.sizeOf126
  v171 := Tryz.zeroValue126
  t173 := Tryz.underlying130
  a173 := Tryz.isAgg130
  z173 := Tryz.sizeOf130
  v173 := Tryz.zeroValue130
  t175 := Tryz.underlying135
  a175 := Tryz.isAgg135
  z175 := Tryz.sizeOf135
  v175 := Tryz.zeroValue135
  t210 := Tryz.underlying139
  a210 := Tryz.isAgg139
  z210 := Tryz.sizeOf139
  v210 := Tryz.zeroValue139
  t212 := Tryz.underlying142
  a212 := Tryz.isAgg142
  z212 := Tryz.sizeOf142
  v212 := Tryz.zeroValue142
  t213 := Tryz.underlying143
  a213 := Tryz.isAgg143
  z213 := Tryz.sizeOf143
  t232 := Tryz.underlying151
  a232 := Tryz.isAgg151
  z232 := Tryz.sizeOf151
  v232 := Tryz.zeroValue151
  t233 := Tryz.underlying152
  a233 := Tryz.isAgg152
  z233 := Tryz.sizeOf152
  v233 := Tryz.zeroValue152
  g15 := by kernel_rfl
  g16 := by kernel_rfl
  g17 := by kernel_rfl
  g18 := by kernel_rfl
  g19 := by kernel_rfl }
open Go.RowKit in
theorem Tryz.strconv_Atoi (s : ByteArray) (n : Int) (hl : s.size ≤ 18) (h : Lib.atoi s.data.toList = some n) (w : World) :
    Calls Tryz.prog 58 #[.string s] w fun e w' => e = .returned (.tuple #[.int .i64 n, .nilIface]) ∧ ∃ t, w' = Lib.bytesWorld w 5 t := Any.strconv_Atoi Tryz.lays172 s n hl h w
def Tryz.laysM171_ren : Go.Shelf.Ren := ⟨fun | 171 => 53 | 243 => 78 | 246 => 90 | 283 => 102 | 284 => 103 | 285 => 104 | 286 => 105 | 129 => 112 | 317 => 111 | 318 => 113 | 319 => 114 | 320 => 115 | 337 => 118 | 338 => 119 | n => n, fun | 3 => 3 | 9 => 9 | 2 => 2 | 4 => 4 | 171 => 126 | 0 => 0 | 53 => 127 | 37 => 22 | 5 => 5 | 173 => 130 | 212 => 142 | 51 => 132 | 20 => 20 | 213 => 143 | 46 => 118 | 232 => 151 | 233 => 152 | n => n, fun | 17 => 3 | 18 => 4 | 19 => 5 | n => n⟩
theorem Tryz.laysM171 : Go.Proofs.LaysM.n171 Tryz.prog Tryz.laysM171_ren := {
  mixed := by kernel_rfl
  f129 := Tryz.func112.trans (congrArg some (by kernel_rfl))
  f171 := Tryz.func53.trans (congrArg some (by kernel_rfl))
  f243 := Tryz.func78.trans (congrArg some (by kernel_rfl))
  f246 := Tryz.func90.trans (congrArg some (by kernel_rfl))
  f283 := Tryz.func102.trans (congrArg some (by kernel_rfl))
  f284 := Tryz.func103.trans (congrArg some (by kernel_rfl))
  f285 := Tryz.func104.trans (congrArg some (by kernel_rfl))
  f286 := Tryz.func105.trans (congrArg some (by kernel_rfl))
  f317 := Tryz.func111.trans (congrArg some (by kernel_rfl))
  f318 := Tryz.func113.trans (congrArg some (by kernel_rfl))
  f319 := Tryz.func114.trans (congrArg some (by kernel_rfl))
  f320 := Tryz.func115.trans (congrArg some (by kernel_rfl))
  f337 := Tryz.func118.trans (congrArg some (by kernel_rfl))
  f338 := Tryz.func119.trans (congrArg some (by kernel_rfl))
  t0 := Tryz.underlying0
  a0 := Tryz.isAgg0
  z0 := Tryz.sizeOf0
  v0 := Tryz.zeroValue0
  t2 := Tryz.underlying2
  a2 := Tryz.isAgg2
  z2 := Tryz.sizeOf2
  v2 := Tryz.zeroValue2
  t3 := Tryz.underlying3
  a3 := Tryz.isAgg3
  z3 := Tryz.sizeOf3
  v3 := Tryz.zeroValue3
  t4 := Tryz.underlying4
  a4 := Tryz.isAgg4
  z4 := Tryz.sizeOf4
  v4 := Tryz.zeroValue4
  t5 := Tryz.underlying5
  a5 := Tryz.isAgg5
  z5 := Tryz.sizeOf5
  v5 := Tryz.zeroValue5
  t9 := Tryz.underlying9
  a9 := Tryz.isAgg9
  z9 := Tryz.sizeOf9
  v9 := Tryz.zeroValue9
  t20 := Tryz.underlying20
  a20 := Tryz.isAgg20
  z20 := Tryz.sizeOf20
  v20 := Tryz.zeroValue20
  t37 := Tryz.underlying22
  a37 := Tryz.isAgg22
  z37 := Tryz.sizeOf22
  v37 := Tryz.zeroValue22
  t46 := Tryz.underlying118
  a46 := Tryz.isAgg118
  z46 := Tryz.sizeOf118
  v46 := Tryz.zeroValue118
  t51 := Tryz.underlying132
  a51 := Tryz.isAgg132
  z51 := Tryz.sizeOf132
  v51 := Tryz.zeroValue132
  t53 := Tryz.underlying127
  a53 := Tryz.isAgg127
  z53 := Tryz.sizeOf127
  v53 := Tryz.zeroValue127
  t171 := Tryz.underlying126
  a171 := Tryz.isAgg126
  z171 := Tryz.sizeOf126
  v171 := Tryz.zeroValue126
  t173 := Tryz.underlying130
  a173 := Tryz.isAgg130
  z173 := Tryz.sizeOf130
  v173 := Tryz.zeroValue130
  t212 := Tryz.underlying142
  a212 := Tryz.isAgg142
  z212 := Tryz.sizeOf142
  v212 := Tryz.zeroValue142
  t213 := Tryz.underlying143
  a213 := Tryz.isAgg143
  z213 := Tryz.sizeOf143
  t232 := Tryz.underlying151
  a232 := Tryz.isAgg151
  z232 := Tryz.sizeOf151
  v232 := Tryz.zeroValue151
  t233 := Tryz.underlying152
  a233 := Tryz.isAgg152
  z233 := Tryz.sizeOf152
  v233 := Tryz.zeroValue152
  g17 := by kernel_rfl
  g18 := by kernel_rfl
  g19 := by kernel_rfl
  i0 := by kernel_rfl
  i2 := by kernel_rfl
  i3 := by kernel_rfl
  i4 := by kernel_rfl
  i5 := by kernel_rfl
  i9 := by kernel_rfl
  i20 := by kernel_rfl
  i37 := by kernel_rfl
  i46 := by kernel_rfl
  i51 := by kernel_rfl
  i53 := by kernel_rfl
  i171 := by kernel_rfl
  i173 := by kernel_rfl
  i212 := by kernel_rfl
  i232 := by kernel_rfl
  i233 := by kernel_rfl
  m17 := by kernel_rfl
  m18 := by kernel_rfl
  m19 := by kernel_rfl }
open Go.RowKit Go.Sort Go.Lib in
theorem Tryz.strconv_Itoa (n : Int) (h0 : -9223372036854775808 ≤ n) (h1 : n ≤ 9223372036854775807) (w : World) (htab : Lib.TabIs Tryz.prog w "internal/strconv.uint64pow10" .u64 Lib.pow10Tab) :
    Calls Tryz.prog 53 #[.int .i64 n] w fun e w' => e = .returned (.string ⟨(Lib.itoa n).toArray⟩) ∧ ∃ k os, w' = grow (w.drewN k) os := Any.strconv_Itoa Tryz.laysM171 n h0 h1 w htab
def Tryz.laysC172_ren : Go.Shelf.Ren := ⟨fun | 172 => 58 | 244 => 82 | 245 => 83 | 247 => 97 | 279 => 98 | 280 => 99 | 281 => 100 | 282 => 101 | 287 => 108 | 316 => 109 | 171 => 53 | 205 => 110 | 321 => 116 | 322 => 117 | 243 => 78 | 246 => 90 | 283 => 102 | 284 => 103 | 285 => 104 | 286 => 105 | 129 => 112 | 317 => 111 | 318 => 113 | 319 => 114 | 320 => 115 | 337 => 118 | 338 => 119 | n => n, fun | 9 => 9 | 3 => 3 | 75 => 84 | 76 => 85 | 4 => 4 | 5 => 5 | 167 => 119 | 37 => 22 | 0 => 0 | 85 => 120 | 2 => 2 | 168 => 122 | 53 => 127 | 175 => 135 | 46 => 118 | 210 => 139 | 127 => 103 | 145 => 149 | 143 => 147 | 21 => 21 | 171 => 126 | 173 => 130 | 212 => 142 | 51 => 132 | 20 => 20 | 213 => 143 | 232 => 151 | 233 => 152 | 80 => 87 | n => n, fun | 15 => 1 | 16 => 2 | 17 => 3 | 18 => 4 | 19 => 5 | n => n⟩
theorem Tryz.laysC172 : Go.Proofs.LaysC.n172 Tryz.prog Tryz.laysC172_ren := {
  mixed := by kernel_rfl
  f129 := Tryz.func112.trans (congrArg some (by kernel_rfl))
  f171 := Tryz.func53.trans (congrArg some (by kernel_rfl))
  f172 := Tryz.func58.trans (congrArg some (by kernel_rfl))
  f205 := Tryz.func110.trans (congrArg some (by kernel_rfl))
  f243 := Tryz.func78.trans (congrArg some (by kernel_rfl))
  f244 := Tryz.func82.trans (congrArg some (by kernel_rfl))
  f245 := Tryz.func83.trans (congrArg some (by kernel_rfl))
  f246 := Tryz.func90.trans (congrArg some (by kernel_rfl))
  f247 := Tryz.func97.trans (congrArg some (by kernel_rfl))
  f279 := Tryz.func98.trans (congrArg some (by kernel_rfl))
  f280 := Tryz.func99.trans (congrArg some (by kernel_rfl))
  f281 := Tryz.func100.trans (congrArg some (by kernel_rfl))
  f282 := Tryz.func101.trans (congrArg some (by kernel_rfl))
  f283 := Tryz.func102.trans (congrArg some (by kernel_rfl))
  f284 := Tryz.func103.trans (congrArg some (by kernel_rfl))
  f285 := Tryz.func104.trans (congrArg some (by kernel_rfl))
  f286 := Tryz.func105.trans (congrArg some (by kernel_rfl))
  f287 := Tryz.func108.trans (congrArg some (by kernel_rfl))
  f316 := Tryz.func109.trans (congrArg some (by kernel_rfl))
  f317 := Tryz.func111.trans (congrArg some (by kernel_rfl))
  f318 := Tryz.func113.trans (congrArg some (by kernel_rfl))
  f319 := Tryz.func114.trans (congrArg some (by kernel_rfl))
  f320 := Tryz.func115.trans (congrArg some (by kernel_rfl))
  f321 := Tryz.func116.trans (congrArg some (by kernel_rfl))
  f322 := Tryz.func117.trans (congrArg some (by kernel_rfl))
  f337 := Tryz.func118.trans (congrArg some (by kernel_rfl))
  f338 := Tryz.func119.trans (congrArg some (by kernel_rfl))
  t0 := Tryz.underlying0
  a0 := Tryz.isAgg0
  z0 := Tryz.sizeOf0
  v0 := Tryz.zeroValue0
  t2 := Tryz.underlying2
  a2 := Tryz.isAgg2
  z2 := Tryz.sizeOf2
  v2 := Tryz.zeroValue2
  t3 := Tryz.underlying3
  a3 := Tryz.isAgg3
  z3 := Tryz.sizeOf3
  v3 := Tryz.zeroValue3
  t4 := Tryz.underlying4
  a4 := Tryz.isAgg4
  z4 := Tryz.sizeOf4
  v4 := Tryz.zeroValue4
  t5 := Tryz.underlying5
  a5 := Tryz.isAgg5
  z5 := Tryz.sizeOf5
  v5 := Tryz.zeroValue5
  t9 := Tryz.underlying9
  a9 := Tryz.isAgg9
  z9 := Tryz.sizeOf9
  v9 := Tryz.zeroValue9
  t20 := Tryz.underlying20
  a20 := Tryz.isAgg20
  z20 := Tryz.sizeOf20
  v20 := Tryz.zeroValue20
  t21 := Tryz.underlying21
  a21 := Tryz.isAgg21
  z21 := Tryz.sizeOf21
  v21 := Tryz.zeroValue21
  t37 := Tryz.underlying22
  a37 := Tryz.isAgg22
  z37 := Tryz.sizeOf22
  v37 := Tryz.zeroValue22
  t46 := Tryz.underlying118
  a46 := Tryz.isAgg118
  z46 := Tryz.sizeOf118
  v46 := Tryz.zeroValue118
  t51 := Tryz.underlying132
  a51 := Tryz.isAgg132
  z51 := Tryz.sizeOf132
  v51 := Tryz.zeroValue132
  t53 := Tryz.underlying127
  a53 := Tryz.isAgg127
  z53 := Tryz.sizeOf127
  v53 := Tryz.zeroValue127
  t75 := Tryz.underlying84
  a75 := Tryz.isAgg84
  z75 := Tryz.sizeOf84
  v75 := Tryz.zeroValue84
  t76 := Tryz.underlying85
  a76 := Tryz.isAgg85
  z76 := Tryz.sizeOf85
  v76 := Tryz.zeroValue85
  t85 := Tryz.underlying120
  a85 := Tryz.isAgg120
  z85 := Tryz.sizeOf120
  v85 := Tryz.zeroValue120
  t127 := Tryz.underlying103
  a127 := Tryz.isAgg103
  z127 := Tryz.sizeOf103
  v127 := Tryz.zeroValue103
  t143 := Tryz.underlying147
  a143 := Tryz.isAgg147
  z143 := Tryz.sizeOf147
  v143 := Tryz.zeroValue147
  t145 := Tryz.underlying149
  a145 := Tryz.isAgg149
  z145 := Tryz.sizeOf149
  v145 := Tryz.zeroValue149
  t167 := Tryz.underlying119
  a167 := Tryz.isAgg119
  z167 := Tryz.sizeOf119
  v167 := Tryz.zeroValue119
  t168 := Tryz.underlying122
  a168 := Tryz.isAgg122
  z168 := Tryz.sizeOf122
  v168 := Tryz.zeroValue122
  t171 := Tryz.underlying126
  a171 := Tryz.isAgg126
  z171 := Tryz.sizeOf126
  v171 := Tryz.zeroValue126
  t173 := Tryz.underlying130
  a173 := Tryz.isAgg130
  z173 := Tryz.sizeOf130
  v173 := Tryz.zeroValue130
  t175 := Tryz.underlying135
  a175 := Tryz.isAgg135
  z175 := Tryz.sizeOf135
  v175 := Tryz.zeroValue135
  t210 := Tryz.underlying139
  a210 := Tryz.isAgg139
  z210 := Tryz.sizeOf139
  v210 := Tryz.zeroValue139
  t212 := Tryz.underlying142
  a212 := Tryz.isAgg142
  z212 := Tryz.sizeOf142
  v212 := Tryz.zeroValue142
  t213 := Tryz.underlying143
  a213 := Tryz.isAgg143
  z213 := Tryz.sizeOf143
  t232 := Tryz.underlying151
  a232 := Tryz.isAgg151
  z232 := Tryz.sizeOf151
  v232 := Tryz.zeroValue151
  t233 := Tryz.underlying152
  a233 := Tryz.isAgg152
  z233 := Tryz.sizeOf152
  v233 := Tryz.zeroValue152
  g15 := by kernel_rfl
  g16 := by kernel_rfl
  g17 := by kernel_rfl
  g18 := by kernel_rfl
  g19 := by kernel_rfl
  t80 := Tryz.underlying87
  a80 := Tryz.isAgg87
  z80 := Tryz.sizeOf87
  v80 := Tryz.zeroValue87
  i0 := by kernel_rfl
  i2 := by kernel_rfl
  i3 := by kernel_rfl
  i4 := by kernel_rfl
  i5 := by kernel_rfl
  i9 := by kernel_rfl
  i20 := by kernel_rfl
  i21 := by kernel_rfl
  i37 := by kernel_rfl
  i46 := by kernel_rfl
  i51 := by kernel_rfl
  i53 := by kernel_rfl
  i75 := by kernel_rfl
  i76 := by kernel_rfl
  i80 := by kernel_rfl
  i85 := by kernel_rfl
  i127 := by kernel_rfl
  i143 := by kernel_rfl
  i145 := by kernel_rfl
  i167 := by kernel_rfl
  i168 := by kernel_rfl
  i171 := by kernel_rfl
  i173 := by kernel_rfl
  i175 := by kernel_rfl
  i210 := by kernel_rfl
  i212 := by kernel_rfl
  i232 := by kernel_rfl
  i233 := by kernel_rfl
  m15 := by kernel_rfl
  m16 := by kernel_rfl
  m17 := by kernel_rfl
  m18 := by kernel_rfl
  m19 := by kernel_rfl
  c0 := by kernel_rfl
  c2 := by kernel_rfl
  c3 := by kernel_rfl
  c4 := by kernel_rfl
  c5 := by kernel_rfl
  c9 := by kernel_rfl
  c20 := by kernel_rfl
  c21 := by kernel_rfl
  c37 := by kernel_rfl
  c46 := by kernel_rfl
  c51 := by kernel_rfl
  c53 := by kernel_rfl
  c75 := by kernel_rfl
  c76 := by kernel_rfl
  c80 := by kernel_rfl
  c85 := by kernel_rfl
  c127 := by kernel_rfl
  c143 := by kernel_rfl
  c145 := by kernel_rfl
  c167 := by kernel_rfl
  c168 := by kernel_rfl
  c171 := by kernel_rfl
  c173 := by kernel_rfl
  c175 := by kernel_rfl
  c210 := by kernel_rfl
  c212 := by kernel_rfl
  c213 := by kernel_rfl
  c232 := by kernel_rfl
  c233 := by kernel_rfl }
open Go.RowKit in
theorem Tryz.strconv_Atoi_err (s : ByteArray) (hl : s.size ≤ 18) (h : Lib.atoi s.data.toList = none) (ev : Value) (w : World) (hv : w.cell? ⟨1, 0, none⟩ = some ev) (hev : ev = .nilIface ∨ ∃ te pe, ev = .iface te pe) :
    Calls Tryz.prog 58 #[.string s] w fun e w' => ∃ N, e = .returned (.tuple #[.int .i64 0, .iface 122 (.pointer (some ⟨N, 0, none⟩))]) ∧ w.heap.size ≤ N ∧ w'.heap[N]? = some (.cells #[.string ⟨#[65, 116, 111, 105]⟩, .string s, ev] 139 (0, 0)) ∧ Below w.heap.size w w' := Any.strconv_Atoi_err Tryz.laysC172 s hl h ev w hv hev
def Tryz.lays145_ren : Go.Shelf.Ren := ⟨fun | 145 => 23 | 220 => 57 | 219 => 81 | 217 => 93 | 225 => 94 | 224 => 95 | 267 => 96 | 266 => 106 | 314 => 107 | n => n, fun | 9 => 9 | 4 => 4 | 59 => 51 | 3 => 3 | 5 => 5 | 46 => 118 | 146 => 133 | 51 => 132 | n => n, fun | 1 => 0 | n => n⟩
theorem Tryz.lays145 : Go.Proofs.Lays.n145 Tryz.prog Tryz.lays145_ren := {
  mixed := by kernel_rfl
  f145 := Tryz.func23.trans (congrArg some (by kernel_rfl))
  f217 := Tryz.func93.trans (congrArg some (by kernel_rfl))
  f219 := Tryz.func81.trans (congrArg some (by kernel_rfl))
  f220 := Tryz.func57.trans (congrArg some (by kernel_rfl))
  f224 := Tryz.func95.trans (congrArg some (by kernel_rfl))
  f225 := Tryz.func94.trans (congrArg some (by kernel_rfl))
  f266 := Tryz.func106.trans (congrArg some (by kernel_rfl))
  f267 := Tryz.func96.trans (congrArg some (by kernel_rfl))
  f314 := Tryz.func107.trans (congrArg some (by kernel_rfl))
  t3 := Tryz.underlying3
  a3 := Tryz.isAgg3
  z3 := Tryz.sizeOf3
  v3 := Tryz.zeroValue3
  t4 := Tryz.underlying4
  a4 := Tryz.isAgg4
  z4 := Tryz.sizeOf4
  v4 := Tryz.zeroValue4
  t5 := Tryz.underlying5
  a5 := Tryz.isAgg5
  z5 := Tryz.sizeOf5
  v5 := Tryz.zeroValue5
  t9 := Tryz.underlying9
  a9 := Tryz.isAgg9
  z9 := Tryz.sizeOf9
  v9 := Tryz.zeroValue9
  t46 := Tryz.underlying118
  a46 := Tryz.isAgg118
  z46 := Tryz.sizeOf118
  v46 := Tryz.zeroValue118
  t51 := Tryz.underlying132
  a51 := Tryz.isAgg132
  z51 := Tryz.sizeOf132
  v51 := Tryz.zeroValue132
  t59 := Tryz.underlying51
  a59 := Tryz.isAgg51
  z59 := Tryz.sizeOf51
  v59 := Tryz.zeroValue51
  t146 := Tryz.underlying133
  a146 := Tryz.isAgg133
  z146 := Tryz.sizeOf133
  v146 := Tryz.zeroValue133
  g1 := by kernel_rfl }
open Go.RowKit Go.Lib in
theorem Tryz.strings_Cut (s sep : ByteArray) (m : Int) (w : World) (hs : s.size < 4294967281) (hm : w.cell? ⟨0, 0, none⟩ = some (.int .i64 m)) :
    Calls Tryz.prog 23 #[.string s, .string sep] w fun e w' => e = .returned (.tuple #[.string ⟨(Lib.cut s.data.toList sep.data.toList).1.toArray⟩, .string ⟨(Lib.cut s.data.toList sep.data.toList).2.1.toArray⟩, .bool (Lib.cut s.data.toList sep.data.toList).2.2]) ∧ ∃ n, w' = w.drewN n := Any.strings_Cut Tryz.lays145 s sep m w hs hm
def Tryz.lays100_ren : Go.Shelf.Ren := ⟨fun | 100 => 25 | 207 => 59 | n => n, fun | 9 => 9 | 4 => 4 | 3 => 3 | n => n, fun | n => n⟩
theorem Tryz.lays100 : Go.Proofs.Lays.n100 Tryz.prog Tryz.lays100_ren := {
  mixed := by kernel_rfl
  f100 := Tryz.func25.trans (congrArg some (by kernel_rfl))
  f207 := Tryz.func59.trans (congrArg some (by kernel_rfl))
  t3 := Tryz.underlying3
  a3 := Tryz.isAgg3
  z3 := Tryz.sizeOf3
  v3 := Tryz.zeroValue3
  t4 := Tryz.underlying4
  a4 := Tryz.isAgg4
  z4 := Tryz.sizeOf4
  v4 := Tryz.zeroValue4
  t9 := Tryz.underlying9
  a9 := Tryz.isAgg9
  z9 := Tryz.sizeOf9
  v9 := Tryz.zeroValue9 }
open Go.RowKit Go.Lib in
theorem Tryz.strings_HasSuffix (s p : ByteArray) (w : World) (hs : s.size ≤ 9223372036854775807) :
    Calls Tryz.prog 25 #[.string s, .string p] w fun e w' => e = .returned (.bool (Lib.hasSuffix s.data.toList p.data.toList)) ∧ w' = w := Any.strings_HasSuffix Tryz.lays100 s p w hs
def Tryz.lays229_ren : Go.Shelf.Ren := ⟨fun | 229 => 26 | n => n, fun | 9 => 9 | 40 => 56 | 31 => 46 | 152 => 88 | 3 => 3 | 0 => 0 | 4 => 4 | 21 => 21 | 154 => 90 | n => n, fun | n => n⟩
theorem Tryz.lays229 : Go.Proofs.Lays.n229 Tryz.prog Tryz.lays229_ren := {
  mixed := by kernel_rfl
  f229 := Tryz.func26.trans (congrArg some (by kernel_rfl))
  t0 := Tryz.underlying0
  a0 := Tryz.isAgg0
  z0 := Tryz.sizeOf0
  v0 := Tryz.zeroValue0
  t3 := Tryz.underlying3
  a3 := Tryz.isAgg3
  z3 := Tryz.sizeOf3
  v3 := Tryz.zeroValue3
  t4 := Tryz.underlying4
  a4 := Tryz.isAgg4
  z4 := Tryz.sizeOf4
  v4 := Tryz.zeroValue4
  t9 := Tryz.underlying9
  a9 := Tryz.isAgg9
  z9 := Tryz.sizeOf9
  v9 := Tryz.zeroValue9
  t21 := Tryz.underlying21
  a21 := Tryz.isAgg21
  z21 := Tryz.sizeOf21
  v21 := Tryz.zeroValue21
  t31 := Tryz.underlying46
  a31 := Tryz.isAgg46
  z31 := Tryz.sizeOf46
  v31 := Tryz.zeroValue46
  t40 := Tryz.underlying56
  a40 := Tryz.isAgg56
  z40 := Tryz.sizeOf56
  v40 := Tryz.zeroValue56
  t152 := Tryz.underlying88
  a152 := Tryz.isAgg88
  z152 := Tryz.sizeOf88
  v152 := Tryz.zeroValue88
  t154 := Tryz.underlying90
  a154 := Tryz.isAgg90
  z154 := Tryz.sizeOf90
  v154 := Tryz.zeroValue90 }
open Go.RowKit Go.Lib in
theorem Tryz.strings_FieldsFunc_runes (g : Nat) (lb : Array Value) (eg : ∀ args w, (callFunc g args).run Tryz.prog w = .ok (.enter g args) w) (p : Nat → Bool) (s : ByteArray) (w : World) (hs : s.size ≤ 4294967296) (hp : PredAtRunes Tryz.prog g lb p w) :
    Calls Tryz.prog 26 #[.string s, .func (.func g) #[] lb] w fun e w' => ∃ A, e = .returned (.slice (some ⟨A, 0, none⟩) (Lib.goFieldsP p s).length (Lib.goFieldsP p s).length) ∧ w.heap.size ≤ A ∧
      w'.ownsRow w.heap.size 9 1 (.slice (some ⟨A, 0, none⟩) (Lib.goFieldsP p s).length (Lib.goFieldsP p s).length) (Lib.goFieldsP p s).length ((Lib.goFieldsP p s).map Value.string) ∧ Below w.heap.size w w' := Any.strings_FieldsFunc_runes Tryz.lays229 g lb eg p s w hs hp (by kernel_rfl) (by kernel_rfl)
end Go.Proofs.YtlggfmfelakadaaGreatDoor

/-
  DERIVED. Small functions of the laws' own package: big, abs.
-/
namespace Go.Proofs.YtlggfmfelakadaaGreatDoor
open Go.RowKit
set_option linter.unusedVariables false
set_option linter.unusedSimpArgs false
theorem laws_big (A : Option Addr) (n cap : Nat) (w : World) : Calls Tryz.prog 4 #[.slice A n cap] w (EV (.bool (decide (1048576 < n))) w) := by
  go_enter Tryz.func4, Tryz.ntmps4
  go_wp2
  go_ret
  exact EV.mk (vbool (by first | rfl | (simp; omega)))
end Go.Proofs.YtlggfmfelakadaaGreatDoor

/-
  DERIVED. A cell of a slice that reads as a list.
-/
namespace Go.Proofs.YtlggfmfelakadaaGreatDoor
open Go.RowKit
set_option linter.unusedVariables false
theorem RI.at_ {w : World} {B n b o k : Nat} {xs : List Int} (h : RI w B (some ⟨b, o, none⟩) n xs) (hk : k < n) : w.cell? ⟨b, o + k, none⟩ = some (.int .i64 (xs.getD k 0)) := by
  obtain ⟨b', o', e, _, hc⟩ := h.2 (by omega)
  injection e with e
  injection e with e1 e2 e3
  subst e1; subst e2
  exact hc k hk
end Go.Proofs.YtlggfmfelakadaaGreatDoor

/-
  DERIVED. Matrices as lists of cells: no program in sight.
-/
namespace Go.Proofs.YtlggfmfelakadaaGreatDoor
set_option linter.unusedVariables false
/-- A valid matrix. -/
def isMat (r c : Int) (xs : List Int) : Bool := decide (0 ≤ r) && decide (r ≤ 24) && decide (0 ≤ c) && decide (c ≤ 24) && decide ((xs.length : Int) = r * c) && xs.all isNum
structure IsM (r c : Int) (xs : List Int) : Prop where
  r0 : 0 ≤ r
  r1 : r ≤ 24
  c0 : 0 ≤ c
  c1 : c ≤ 24
  len : (xs.length : Int) = r * c
  num : xs.all isNum = true
theorem isMat_iff {r c : Int} {xs : List Int} : isMat r c xs = true ↔ IsM r c xs := by
  simp only [isMat, Bool.and_eq_true, decide_eq_true_eq]
  constructor
  · rintro ⟨⟨⟨⟨⟨h1, h2⟩, h3⟩, h4⟩, h5⟩, h6⟩
    exact ⟨h1, h2, h3, h4, h5, h6⟩
  · rintro ⟨h1, h2, h3, h4, h5, h6⟩
    exact ⟨⟨⟨⟨⟨h1, h2⟩, h3⟩, h4⟩, h5⟩, h6⟩
theorem isMat_not {r c : Int} {xs : List Int} (h : ¬ IsM r c xs) : isMat r c xs = false := by
  rw [← Bool.not_eq_true, isMat_iff]; exact h
/-- Cell (i, j) of rows of c cells. -/
def cel (xs : List Int) (c i j : Int) : Int := xs.getD (i * c + j).toNat 0
theorem IsM.nums {r c : Int} {xs : List Int} (h : IsM r c xs) (k : Nat) : -400000000 ≤ xs.getD k 0 ∧ xs.getD k 0 ≤ 400000000 := by
  by_cases hk : k < xs.length
  · have h1 : xs.getD k 0 = xs[k] := by simp [List.getD, hk]
    rw [h1]
    have h2 := List.all_eq_true.1 h.num xs[k] (List.getElem_mem hk)
    exact (isNum_iff _).1 h2
  · have h1 : xs.getD k 0 = 0 := by simp [List.getD, List.getElem?_eq_none (show xs.length ≤ k by omega)]
    rw [h1]; omega
theorem IsM.cel_bd {r c : Int} {xs : List Int} (h : IsM r c xs) (i j : Int) : -400000000 ≤ cel xs c i j ∧ cel xs c i j ≤ 400000000 := h.nums _
/-- An index within the matrix. -/
theorem idx_bd {r c i j : Int} (hr : r ≤ 24) (hc : c ≤ 24) (hi0 : 0 ≤ i) (hi : i < r) (hj0 : 0 ≤ j) (hj : j < c) : 0 ≤ i * c ∧ i * c ≤ 576 ∧ i * c + j < r * c ∧ i * c + c ≤ r * c := by
  obtain ⟨h1, h2⟩ := mul_bd i c 24 24 hi0 (by omega) (by omega) hc
  have h3 : (i + 1) * c ≤ r * c := Int.mul_le_mul_of_nonneg_right (by omega) (by omega)
  rw [Int.add_mul, Int.one_mul] at h3
  exact ⟨h1, by omega, by omega, h3⟩
theorem mul24 {r c : Int} (h0 : 0 ≤ r) (h1 : r ≤ 24) (h2 : 0 ≤ c) (h3 : c ≤ 24) : 0 ≤ r * c ∧ r * c ≤ 576 := by
  obtain ⟨a, b⟩ := mul_bd r c 24 24 h0 h1 h2 h3
  exact ⟨a, by omega⟩
theorem range_all_succ (p : Nat → Bool) (k : Nat) : (List.range (k + 1)).all p = ((List.range k).all p && p k) := by
  rw [List.range_succ, List.all_append]; simp
theorem range_all_false {p : Nat → Bool} {k j : Nat} (hj : j < k) (hp : p j = false) : (List.range k).all p = false := by
  rw [List.all_eq_false]
  exact ⟨j, by simpa using hj, by simp [hp]⟩
theorem nat_of {r : Int} (h : 0 ≤ r) : ∃ R : Nat, r = R := ⟨r.toNat, by omega⟩
end Go.Proofs.YtlggfmfelakadaaGreatDoor

/-
  DERIVED. The contracts of the laws' helpers on slices of ints: toIntS, eqIntS, szIntS, markIntS, heldIntS.
-/
namespace Go.Proofs.YtlggfmfelakadaaGreatDoor
open Go.RowKit
set_option linter.unusedVariables false
/-- The first k numbers, zeros behind them. -/
def fillTo (xs : List Int) (n k : Nat) : List Int := xs.take k ++ List.replicate (n - k) 0
theorem fillTo_len {xs : List Int} {n k : Nat} (hx : xs.length = n) (hk : k ≤ n) : (fillTo xs n k).length = n := by simp [fillTo]; omega
theorem fillTo_zero (xs : List Int) (n : Nat) : fillTo xs n 0 = List.replicate n 0 := by simp [fillTo]
theorem fillTo_all {xs : List Int} {n : Nat} (hx : xs.length = n) : fillTo xs n n = xs := by simp [fillTo, ← hx]
theorem fillTo_set {xs : List Int} {n k : Nat} (hx : xs.length = n) (hk : k < n) : (fillTo xs n k).set k (xs.getD k 0) = fillTo xs n (k + 1) := by
  apply List.ext_getElem?
  intro i
  unfold fillTo
  grind

/-- The call returned a slice of its own that holds ys. -/
def SV (ys : List Int) (w : World) (e : Ending) (w' : World) : Prop := ∃ g, e = .returned (.slice (some ⟨g, 0, none⟩) ys.length ys.length) ∧ OR w' w.heap.size (.slice (some ⟨g, 0, none⟩) ys.length ys.length) ys ∧ Below w.heap.size w w'

def eqB (xs ys : List Int) : Bool := decide (xs = ys)
theorem getD_some {xs : List Int} {k : Nat} (h : k < xs.length) : xs[k]? = some (xs.getD k 0) := by simp [List.getD, h]
theorem take_next {xs ys : List Int} {k : Nat} (h : k < xs.length) (h' : k < ys.length) (ht : xs.take k = ys.take k) (he : xs.getD k 0 = ys.getD k 0) : xs.take (k + 1) = ys.take (k + 1) := by
  rw [List.take_add_one, List.take_add_one, ht, getD_some h, getD_some h', he]
/-- n numbers from k on. -/
def iota (k : Int) (n : Nat) : List Int := (List.range n).map fun (i : Nat) => k + (i : Int)
theorem iota_len (k : Int) (n : Nat) : (iota k n).length = n := by simp [iota]
def marked (xs : List Int) (k : Int) (j : Nat) : List Int := iota k j ++ xs.drop j
theorem marked_len {xs : List Int} {k : Int} {j : Nat} (h : j ≤ xs.length) : (marked xs k j).length = xs.length := by simp [marked, iota_len]; omega
theorem marked_zero (xs : List Int) (k : Int) : marked xs k 0 = xs := by simp [marked, iota]
theorem marked_all (xs : List Int) (k : Int) : marked xs k xs.length = iota k xs.length := by simp [marked]
theorem marked_set {xs : List Int} {k : Int} {j : Nat} (h : j < xs.length) : (marked xs k j).set j (k + j) = marked xs k (j + 1) := by
  unfold marked
  rw [List.set_append_right _ _ (by rw [iota_len]; exact Nat.le_refl _), iota_len, Nat.sub_self]
  rw [List.drop_eq_getElem_cons h, List.set_cons_zero]
  simp [iota, List.range_succ]
theorem iota_getD {k : Int} {n j : Nat} (h : j < n) : (iota k n).getD j 0 = k + j := by simp [iota, List.getD, h]
/-- The call returned v, having written just the block of a slice of the call's own, which now holds ys. -/
def WV (r : Value) (sv : Value) (B : Nat) (ys : List Int) (w : World) (e : Ending) (w' : World) : Prop :=
  e = .returned r ∧ OR w' B sv ys ∧ w.grownBy w' sv.ownBlock

end Go.Proofs.YtlggfmfelakadaaGreatDoor

/-
  DERIVED. Lists of moduli: the program's test and the reference's test agree. No program in sight.
-/
namespace Go.Proofs.YtlggfmfelakadaaGreatDoor
set_option linter.unusedVariables false
/-- The program's test, from the numbers seen and their product on. -/
def imF (seen : List Int) (prod : Int) : List Int → Bool
  | [] => decide (seen.length ≤ 8)
  | n :: rest => if n < 2 ∨ isNum n = false then false else if isNum (prod * n) = false then false else if seen.any (fun k => decide (1 < Int.gcd n k)) then false else imF (seen ++ [n]) (prod * n) rest
/-- The reference's test. -/
def spF (prod : Int) : List Int → Bool
  | [] => true
  | n :: rest => if n < 2 ∨ 400000000 < n then false else if Int.gcd prod n ≠ 1 then false else if isNum (prod * n) = false then false else spF (prod * n) rest
def modsOk (xs : List Int) : Bool := decide (xs.length ≤ 8) && spF 1 xs

theorem gcd_mul_one (a b n : Int) : Int.gcd (a * b) n = 1 ↔ Int.gcd a n = 1 ∧ Int.gcd b n = 1 := by
  unfold Int.gcd
  rw [Int.natAbs_mul]
  exact Nat.coprime_mul_iff_left
/-- The product of the numbers seen. -/
def prodOf (l : List Int) : Int := l.foldl (· * ·) 1
theorem prodOf_snoc (l : List Int) (n : Int) : prodOf (l ++ [n]) = prodOf l * n := by simp [prodOf]
theorem coprime_from (n : Int) : ∀ (l : List Int) (a : Int), Int.gcd (l.foldl (· * ·) a) n = 1 ↔ Int.gcd a n = 1 ∧ ∀ k ∈ l, Int.gcd k n = 1
  | [], a => by simp
  | b :: l, a => by
    rw [List.foldl_cons, coprime_from n l (a * b), gcd_mul_one]
    simp [and_assoc]
theorem coprime_all (n : Int) (l : List Int) : Int.gcd (prodOf l) n = 1 ↔ ∀ k ∈ l, Int.gcd k n = 1 := by
  unfold prodOf
  rw [coprime_from]
  simp
/-- Some number seen shares a divisor with n exactly if the product does. -/
theorem any_gcd (n : Int) (hn : 2 ≤ n) (l : List Int) : l.any (fun k => decide (1 < Int.gcd n k)) = decide (Int.gcd (prodOf l) n ≠ 1) := by
  have h := coprime_all n l
  rw [Bool.eq_iff_iff]
  simp only [List.any_eq_true, decide_eq_true_eq, ne_eq, h]
  constructor
  · rintro ⟨k, hk, h1⟩ h2
    have := h2 k hk
    rw [Int.gcd_comm] at this
    omega
  · intro h1
    apply Classical.byContradiction
    intro h2
    apply h1
    intro k hk
    have h3 : ¬ 1 < Int.gcd n k := fun h4 => h2 ⟨k, hk, h4⟩
    have h5 : Int.gcd n k ≠ 0 := by
      intro h6
      have := Int.gcd_eq_zero_iff.1 h6
      omega
    rw [Int.gcd_comm]
    omega
theorem imF_spF : ∀ (rest seen : List Int), imF seen (prodOf seen) rest = (spF (prodOf seen) rest && decide ((seen ++ rest).length ≤ 8))
  | [], seen => by simp [imF, spF]
  | n :: rest, seen => by
    unfold imF spF
    by_cases h1 : n < 2
    · simp [h1]
    · by_cases h2 : 400000000 < n
      · have : isNum n = false := (isNum_not n).2 (.inr h2)
        simp [h2, this]
      · have h3 : isNum n = true := (isNum_iff n).2 (by omega)
        have g1 : ¬ (n < 2 ∨ 400000000 < n) := by omega
        have g2 : ¬ (n < 2 ∨ isNum n = false) := by simp [h1, h3]
        rw [if_neg g1, if_neg g2, any_gcd n (by omega) seen]
        rcases h4 : isNum (prodOf seen * n) with _ | _
        · by_cases h5 : Int.gcd (prodOf seen) n = 1 <;> simp [h5]
        · by_cases h5 : Int.gcd (prodOf seen) n = 1
          · have := imF_spF rest (seen ++ [n])
            rw [prodOf_snoc] at this
            simp [h5, this]
          · simp [h5]
theorem imF_mods (xs : List Int) : imF [] 1 xs = modsOk xs := by
  have := imF_spF xs []
  simp only [prodOf, List.foldl_nil, List.nil_append] at this
  rw [this, modsOk, Bool.and_comm]
end Go.Proofs.YtlggfmfelakadaaGreatDoor

/-
  DERIVED. The last step from a law's contract to its row: arguments opened, 'post' closed under 'Below'.
-/
namespace Go.Proofs.YtlggfmfelakadaaGreatDoor
open Go.ChangeShapes Go.WideShapes Go.ChangeAt Go.RowKit Go.Joins
set_option linter.unusedVariables false

theorem own : ownKnob Tryz.prog.godebug = none := by kernel_rfl
theorem laidOut : laidOutB Tryz.prog = true := by kernel_rfl

section
variable {H : Type} {enc : TypeId × Value → H} {P : Program}
/-- 'post' of a call that returned, and below whose first heap size nothing has turned. -/
theorem post_below {f : Func} {s : ChangeSpec} {apart fresh handsOn again : Bool} {W W' : World} {args : Array Value} {v : Value} {ds gs : List (DataW H)} {before pa pv : List MemPlace}
    (hW : DataW.Whole enc P f.params.toList s.vars apart W args.toList ds gs before)
    (hres : ∀ (b : Nat) (sp : Nat → Bool) (hd : Bool), DataW.TrodAll enc P W' b sp hd f.resultTypes.toList (v.resultList f.resultTypes.size) (s.fn H (ds ++ gs)).results [])
    (hargs : ∀ sp : Nat → Bool, (∀ p ∈ before, sp p.block = true) → DataW.TrodAll enc P W' 0 sp true f.params.toList args.toList (s.fn H (ds ++ gs)).args pa)
    (hvars : ∀ sp : Nat → Bool, (∀ p ∈ before, sp p.block = true) → DataW.TrodVars enc P W' sp s.vars (s.fn H (ds ++ gs)).vars pv)
    (hps : before = pa ++ pv) (hb : Below W.heap.size W W')
    (hok : ∀ (j : Nat) (t : TypeId) (r : Value), f.resultTypes[j]? = some t → (v.resultList f.resultTypes.size)[j]? = some r → Value.okWide P W' .any 0 t r) :
    s.post enc P f apart fresh handsOn again W args v W' := by
  have hlt : ∀ p ∈ before, p.block < W.heap.size := fun p hp => hW.lt p hp
  have hold : ∀ p ∈ before, (fun b => decide (b < W.heap.size)) p.block = true := fun p hp => by simpa using hlt p hp
  refine ⟨ds, gs, before, [], pa, pv, hW, hres _ _ _, hargs _ hold, hvars _ hold, World.keptBut_mono (fun p hp => ⟨hp, ?_⟩) (hb.frame (· ∈ before)), fun _ => ?_⟩
  · rw [hps, List.mem_append] at hp
    exact Or.inr hp
  · obtain ⟨_, _, _, _, _, hz, hn⟩ := hW
    refine ⟨hok, _, _, ([] ++ pa) ++ pv, ⟨[] ++ pa, pv, trodAll_append (hargs _ (fun _ _ => rfl)) (hres _ _ _), hvars _ (fun _ _ => rfl), rfl, ?_, ?_⟩, ?_⟩
    · intro b off hp
      have hin : MemPlace.cell b off ∈ before := by rw [hps]; simpa using hp
      rw [hb.frozen (hlt _ hin)]
      exact hz b off hin
    · intro ha
      have := hn ha
      rw [hps] at this
      simpa using this
    · intro p hp _
      rw [hps]
      simpa using hp
/-- An argument reads behind the call as it read before it, whatever spare cells are asked for among the old places. -/
theorem same_arg {t : TypeId} (hl : laidOutB P = true) (hr : P.readableRec t = true) (hrow : t < P.types.size) {W W' : World} {v : Value} {d : DataW H} {ps : List MemPlace}
    (h : DataW.Trod enc P W 0 (fun _ => true) true t v d ps) (hb : Below W.heap.size W W') (hlt : ∀ x ∈ ps, x.block < W.heap.size) (sp : Nat → Bool) (hsp : ∀ x ∈ ps, sp x.block = true) :
    DataW.Trod enc P W' 0 sp true t v d ps :=
  WideElems.Trod_stays hl hr hrow h (fun x hx => hb.same (hlt x hx)) hsp
/-- A slice of ints, read. -/
theorem reads_ints {w : World} {base : Nat} {spare : Nat → Bool} {held : Bool} {t e : TypeId} {fuel : Nat} {v : Value} {x : DataW H × List MemPlace}
    (ht : P.underlying t = some (.slice e)) (he : P.underlying e = some (.int .i64)) (hc : P.cellsOf e = 1) (h : DataW.trod enc P w base spare held fuel t [v] = some x)
    (hlt : ∀ p ∈ x.2, p.block < w.heap.size) :
    ∃ A n cap xs, v = .slice A n cap ∧ n ≤ cap ∧ cap ≤ maxLen ∧ RI w w.heap.size A n xs ∧ ∀ z ∈ xs, (Lit.int .i64 z).wf = true := by
  rcases open_ints ht he hc h with ⟨hcs, hx⟩ | ⟨a, len, cap, zs, hcs, hb, hl, hm, hz, hx, hcell, hwf⟩
  · injection hcs with hv
    exact ⟨none, 0, 0, [], hv, Nat.le_refl _, by unfold maxLen; omega, RI.nil_ _ _ _, by simp⟩
  · injection hcs with hv
    have hzl : len ≤ zs.length := by rw [hz]; split <;> omega
    refine ⟨some a, len, cap, zs.take len, hv, hl, hm, ⟨by simp; omega, fun hn => ?_⟩, fun z hz => hwf z (List.mem_of_mem_take hz)⟩
    obtain ⟨b, off, rfl, hc'⟩ := ints_at hcell (by omega)
    refine ⟨b, off, rfl, ?_, fun k hk => ?_⟩
    · have h0 : MemPlace.cell b off ∈ x.2 := by
        rw [hx]
        simp only [MemPlace.row, List.mem_map, List.mem_range]
        exact ⟨0, by omega, rfl⟩
      exact hlt _ h0
    · rw [hc' k (by omega)]
      simp [List.getD, hk]
end
theorem wf_bounds {x : Int} (h : (Lit.int .i64 x).wf = true) : -9223372036854775808 ≤ x ∧ x ≤ 9223372036854775807 := by
  simpa [Lit.wf, IntKind.min, IntKind.max, IntKind.signed, IntKind.bits] using h
end Go.Proofs.YtlggfmfelakadaaGreatDoor

/-
  DERIVED. append of ints onto a slice of the call's own, from whatever source that reads as a list.
-/
namespace Go.Proofs.YtlggfmfelakadaaGreatDoor
open Go.RowKit
set_option linter.unusedVariables false
theorem ints_one (ys : List Int) : ∀ u ∈ ys.map (Value.int .i64), u.oneCell' = true := by
  intro u hu
  obtain ⟨y, _, rfl⟩ := List.mem_map.1 hu
  rfl
set_option maxRecDepth 100000 in
theorem run_append_ints (w : World) (B : Nat) (ty : TypeId) (v : Value) (xs : List Int) (hown : OR w B v xs) (C : Nat) (A : Option Addr) (m c : Nat) (ys : List Int) (hr : RI w C A m ys)
    (h63 : xs.length + m ≤ 1000000000000) (hbase : B ≤ w.heap.size) :
    ∃ v' w', (Builtin.append_ #[24, 24] ty #[v, .slice A m c]).run Tryz.prog w = .ok v' w' ∧ OR w' B v' (xs ++ ys) ∧ w.grownBy w' v.ownBlock ∧ (v'.ownBlock = v.ownBlock ∨ v'.ownBlock = some w.heap.size) := by
  obtain ⟨i0, hi, hz0, hz1, hz2⟩ := info_parts int_info
  have hl := hr.len
  have fin : ∀ {v' : Value} {w' : World}, w'.ownsRow B 3 1 v' (xs.length + m) (xs.map (Value.int .i64) ++ ys.map (Value.int .i64)) → OR w' B v' (xs ++ ys) := fun h => by
    unfold OR
    rw [List.map_append, List.length_append, hl]
    exact h
  rcases A with _ | ad
  · have hm : m = 0 := by
      rcases Nat.eq_zero_or_pos m with h0 | h0
      · exact h0
      · obtain ⟨b, o, h, _⟩ := hr.2 h0
        cases h
    subst hm
    have hn : ys = [] := List.eq_nil_of_length_eq_zero hl
    subst hn
    refine ⟨v, w, ?_, by simpa using hown, World.grownBy.refl w _, .inl rfl⟩
    rcases hown.2 with ⟨rfl, hx⟩ | ⟨g, cap, cur, rfl, _, _, hnc, _⟩
    · simp [Builtin.append_, run_underlying Tryz.underlying24, sizeOf, typeInfo, hi, Builtin.lenOf, Builtin.firstCells]
    · simp [Builtin.append_, run_underlying Tryz.underlying24, sizeOf, typeInfo, hi, Builtin.lenOf, Builtin.firstCells, hnc, storeCells]
  · have hcells : ∀ j u, (ys.map (Value.int .i64))[j]? = some u → w.cell? (ad.add j) = some u := by
      intro j u hu
      have hj : j < ys.length := by
        have := (List.getElem?_eq_some_iff.1 hu).1
        simpa using this
      obtain ⟨b, o, h, _, hc⟩ := hr.2 (by omega)
      injection h with h
      subst h
      have := hc j (by omega)
      rw [show (⟨b, o, none⟩ : Addr).add j = ⟨b, o + j, none⟩ from Go.WideShapes.add_plain b o j, this]
      simp [hj] at hu
      simp [List.getD, hj, hu]
    obtain ⟨v', w', hrun, h2, h3, _, h5⟩ := run_append_own_at (P := Tryz.prog) w B 24 ty 3 i0 (.int .i64 0) 1 8 Tryz.underlying24 hi hz0 hz1 hz2 rfl (by omega) v xs.length (xs.map (Value.int .i64)) hown ad m c (ys.map (Value.int .i64)) (by simp [hl]) hcells (ints_one ys) (by unfold maxLen; omega) (by omega) hbase
    exact ⟨v', w', hrun, fin h2, h3, h5⟩
section
variable (w : World)
theorem wp_append_ints {o : Oper} {a : Act} {K : Act → World → Prop} {Q : Exit → Act → World → Prop} (s x : Operand)
    (ho : o.op = .call { callee := .builtin .append, args := #[s, x], argTypes := #[24, 24] })
    (B : Nat) (v : Value) (xs : List Int) (hs : a.eval s = v) (hown : OR w B v xs) (C : Nat) (A : Option Addr) (m c : Nat) (ys : List Int) (hx : a.eval x = .slice A m c) (hr : RI w C A m ys)
    (h63 : xs.length + m ≤ 1000000000000) (hbase : B ≤ w.heap.size)
    (h : ∀ v' w', OR w' B v' (xs ++ ys) → w.grownBy w' v.ownBlock → (v'.ownBlock = v.ownBlock ∨ v'.ownBlock = some w.heap.size) → K (a.put o.dst v') w') : o.wp Tryz.prog a w K Q := by
  obtain ⟨v', w', hrun, h2, h3, h4⟩ := run_append_ints w B o.type v xs hown C A m c ys hr h63 hbase
  unfold Oper.wp execOp
  simp only [ho, resolve, invoke, builtin, Sem.run_bind, Sem.run_pure, Result.andThen_ok, List.map_toArray, List.map_cons, List.map_nil, hs, hx, hrun]
  exact h v' w' h2 h3 h4
theorem wpList_append_ints {ops : Array Oper} {rest : List Oper} {o : Oper} {a : Act} {Q : Exit → Act → World → Prop} (hgd : o.guard = none) (s x : Operand)
    (ho : o.op = .call { callee := .builtin .append, args := #[s, x], argTypes := #[24, 24] })
    (B : Nat) (v : Value) (xs : List Int) (hs : a.eval s = v) (hown : OR w B v xs) (C : Nat) (A : Option Addr) (m c : Nat) (ys : List Int) (hx : a.eval x = .slice A m c) (hr : RI w C A m ys)
    (h63 : xs.length + m ≤ 1000000000000) (hbase : B ≤ w.heap.size)
    (h : ∀ v' w', OR w' B v' (xs ++ ys) → w.grownBy w' v.ownBlock → (v'.ownBlock = v.ownBlock ∨ v'.ownBlock = some w.heap.size) → wpList Tryz.prog ops Q rest (a.put o.dst v') w') : wpList Tryz.prog ops Q (o :: rest) a w :=
  wpList_plain hgd fun _ hK => wp_append_ints w s x ho B v xs hs hown C A m c ys hx hr h63 hbase fun v' w' h2 h3 h4 => hK _ _ (h v' w' h2 h3 h4)
theorem step_append_ints {ops : Array Oper} {o : Oper} {a : Act} {K : Act → World → Prop} {Q : Exit → Act → World → Prop} {E : Prop} (hgd : o.guard = none) (s x : Operand)
    (ho : o.op = .call { callee := .builtin .append, args := #[s, x], argTypes := #[24, 24] })
    (B : Nat) (v : Value) (xs : List Int) (hs : a.eval s = v) (hown : OR w B v xs) (C : Nat) (A : Option Addr) (m c : Nat) (ys : List Int) (hx : a.eval x = .slice A m c) (hr : RI w C A m ys)
    (h63 : xs.length + m ≤ 1000000000000) (hbase : B ≤ w.heap.size)
    (h : ∀ v' w', OR w' B v' (xs ++ ys) → w.grownBy w' v.ownBlock → (v'.ownBlock = v.ownBlock ∨ v'.ownBlock = some w.heap.size) → K (a.put o.dst v') w') :
    if Region.wanted o (yielded ops a.tmps) = true then Oper.wp Tryz.prog o a w K Q else E := by
  have hw : Region.wanted o (yielded ops a.tmps) = true := by simp [Region.wanted, hgd]
  rw [if_pos hw]
  exact wp_append_ints w s x ho B v xs hs hown C A m c ys hx hr h63 hbase h
end
/-- An empty slice of the call's own, just laid. -/
theorem OR.empty (w : World) {B : Nat} (hB : B ≤ w.heap.size) : OR (w.alloc (.cells #[] 3)) B (.slice (some ⟨w.heap.size, 0, none⟩) 0 0) [] :=
  World.ownsRow_made (base := B) (e := 3) (size := 1) w #[] 0 hB (by unfold maxLen; omega) rfl
theorem OR.empty' (w : World) (g : Nat) (hg : g = w.heap.size) {B : Nat} (hB : B ≤ w.heap.size) : OR (w.alloc (.cells #[] 3)) B (.slice (some ⟨g, 0, none⟩) 0 0) [] := by
  subst hg; exact OR.empty w hB
end Go.Proofs.YtlggfmfelakadaaGreatDoor

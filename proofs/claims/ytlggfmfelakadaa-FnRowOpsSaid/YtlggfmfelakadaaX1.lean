/-
  DERIVED. Several small texts in one: Plain1, Plain2, Base, Mem, Num, RIat, LawB, Plain5, Rowkit, Fit, Append, Ints, Mat, Own, Copy, Append2.
-/
import Derived.WalkKit
import Derived.OrdersHeld
import Derived.Test.YtlggfmfelakadaaProg
import Derived.Handy
import Derived.Outline
import Derived.Lib.Hide
import Derived.WalkSpells
import Derived.WalkLawsBesides
import Derived.RegionTactic
import Derived.BigRegion
import Derived.ChangeAlike
import Derived.Deep.QuietTactic
import Derived.BigQuiet
import Derived.Deep.Draws
import Derived.Deep.RegionWith
import Derived.Deep.RegionHeld3
import Derived.StillTailTactics
import Derived.Deep.LoopGhost
import Derived.Deep.DeepCutAuto
import Derived.Deep.AppendLies
import Derived.Deep.DeepFit
import Derived.Deep.DeepMust
import Derived.Deep.Light
import Derived.Laws.OwnMore
import Derived.Laws.CopyOwn
import Derived.Laws.MakeOwn
import Derived.Laws.Rows
import Derived.Maps.AppendAt
import Derived.Test.YtlggfmfelakadaaRows
import Derived.ProofKit
import Derived.OpenShut
import Derived.Carry
import Derived.ChangeSame
import Derived.Lib.SmallJoins
import Derived.Deep.Slices
/-
  DERIVED. Plain facts on numbers: no program in sight.
-/
namespace Go.Proofs.Ytlggfmfelakadaa
/-- Within the limit. -/
def isNum (n : Int) : Bool := decide (-400000000 ≤ n) && decide (n ≤ 400000000)
theorem isNum_iff (n : Int) : isNum n = true ↔ -400000000 ≤ n ∧ n ≤ 400000000 := by simp [isNum]
theorem isNum_not (n : Int) : isNum n = false ↔ n < -400000000 ∨ 400000000 < n := by
  rw [← Bool.not_eq_true, isNum_iff]; omega

/-- The remainder of Go's division lies between the divisor and its negative. -/
theorem tmod_lt (a p : Int) (hp : 0 < p) : -p < a.tmod p ∧ a.tmod p < p := by
  constructor
  · have h1 := Int.lt_tmod_of_pos a hp; exact h1
  · exact Int.tmod_lt_of_pos a hp
theorem emod_of_tmod_neg (a p : Int) (hp : 0 < p) (h : a.tmod p < 0) : a % p = a.tmod p + p := by
  have h1 := Int.tmod_add_mul_tdiv a p
  have h2 := tmod_lt a p hp
  have h3 : a % p = (a.tmod p + p) % p := by
    have : a = (a.tmod p + p) + p * (a.tdiv p - 1) := by rw [Int.mul_sub]; omega
    conv => lhs; rw [this]
    rw [Int.add_mul_emod_self_left]
  rw [h3, Int.emod_eq_of_lt (by omega) (by omega)]
theorem emod_of_tmod_nonneg (a p : Int) (hp : 0 < p) (h : 0 ≤ a.tmod p) : a % p = a.tmod p := by
  have h1 := Int.tmod_add_mul_tdiv a p
  have h2 := tmod_lt a p hp
  have h3 : a % p = (a.tmod p) % p := by
    conv => lhs; rw [← h1]
    rw [Int.add_mul_emod_self_left]
  rw [h3, Int.emod_eq_of_lt (by omega) (by omega)]
theorem tmod_zero_iff (a p : Int) : a.tmod p = 0 ↔ a % p = 0 := by
  constructor
  · intro h; exact Int.emod_eq_zero_of_dvd (Int.dvd_of_tmod_eq_zero h)
  · intro h; exact Int.tmod_eq_zero_of_dvd (Int.dvd_of_emod_eq_zero h)
/-- '(n % p + p) % p' in Go is the residue. -/
theorem tmod_twice (a p : Int) (hp : 0 < p) : (a.tmod p + p) % p = a % p := by
  rcases Int.lt_or_le (a.tmod p) 0 with h | h
  · rw [emod_of_tmod_neg a p hp h]
    have h2 := tmod_lt a p hp
    exact Int.emod_eq_of_lt (by omega) (by omega)
  · rw [emod_of_tmod_nonneg a p hp h, Int.add_emod_right]
    have h2 := tmod_lt a p hp
    exact Int.emod_eq_of_lt (by omega) (by omega)

theorem natAbs_tmod_lt (a b : Int) (h : b ≠ 0) : (a.tmod b).natAbs < b.natAbs := by
  rw [Int.natAbs_tmod]
  exact Nat.mod_lt _ (by omega)
theorem gcd_tmod (a b : Int) : Int.gcd b (a.tmod b) = Int.gcd a b := by
  unfold Int.gcd
  rw [Int.natAbs_tmod, Nat.gcd_comm b.natAbs, ← Nat.gcd_rec, Nat.gcd_comm]

/-- No divisor from d on, d below its square root. -/
def prFrom (p d : Int) : Nat → Bool
  | 0 => true
  | k + 1 => if d * d ≤ p then (if p % d = 0 then false else prFrom p (d + 1) k) else true
theorem sq_le (d m : Int) (h0 : 0 ≤ d) (h : d ≤ m) : 0 ≤ d * d ∧ d * d ≤ m * m :=
  ⟨Int.mul_nonneg h0 h0, Int.mul_le_mul h h h0 (by omega)⟩
theorem le_of_sq (d m p : Int) (hm : 0 ≤ m) (h : d * d ≤ p) (hp : p < (m + 1) * (m + 1)) : d ≤ m := by
  rcases Int.lt_or_le m d with h1 | h1
  · have := Int.mul_le_mul (show m + 1 ≤ d by omega) (show m + 1 ≤ d by omega) (by omega) (by omega)
    omega
  · exact h1
def isPr (p : Int) : Bool := decide (2 ≤ p) && decide (p ≤ 10000) && prFrom p 2 200
theorem mod_mul_sub (a d n m : Int) : ((a % m) * (d % m) - n) % m = (a * d - n) % m := by
  rw [Int.sub_emod, ← Int.mul_emod, ← Int.sub_emod]
theorem mul_bd (x y p q : Int) (h0 : 0 ≤ x) (h1 : x ≤ p) (h2 : 0 ≤ y) (h3 : y ≤ q) : 0 ≤ x * y ∧ x * y ≤ p * q :=
  ⟨Int.mul_nonneg h0 h2, Int.mul_le_mul h1 h3 h2 (by omega)⟩
theorem mul_bd2 (x y p q : Int) (h0 : -p ≤ x) (h1 : x ≤ p) (h2 : 0 ≤ y) (h3 : y ≤ q) : -(p * q) ≤ x * y ∧ x * y ≤ p * q := by
  have hp : 0 ≤ p := by omega
  constructor
  · have h := Int.mul_le_mul (show -x ≤ p by omega) h3 h2 hp
    have : -x * y = -(x * y) := Int.neg_mul x y
    omega
  · exact Int.mul_le_mul h1 h3 h2 hp
theorem mul_bd4 (x y p q : Int) (h0 : -p ≤ x) (h1 : x ≤ p) (h2 : -q ≤ y) (h3 : y ≤ q) : -(p * q) ≤ x * y ∧ x * y ≤ p * q := by
  rcases Int.le_total 0 y with h | h
  · exact mul_bd2 x y p q h0 h1 h h3
  · have := mul_bd2 x (-y) p q h0 h1 (by omega) (by omega)
    have e : x * -y = -(x * y) := Int.mul_neg x y
    omega
end Go.Proofs.Ytlggfmfelakadaa

/-
  DERIVED. Euclid's algorithm with its two combinations: no program in sight.
-/
namespace Go.Proofs.Ytlggfmfelakadaa
set_option linter.unusedVariables false
/-- The rounds of the algorithm. -/
def egL (g h x u y v : Int) : Int × Int × Int :=
  if hh : h = 0 then (g, x, y) else egL h (g.tmod h) u (x - g.tdiv h * u) v (y - g.tdiv h * v)
termination_by h.natAbs
decreasing_by exact natAbs_tmod_lt g h hh
theorem egL_zero (g x u y v : Int) : egL g 0 x u y v = (g, x, y) := by rw [egL]; simp
theorem egL_step (g h x u y v : Int) (hh : h ≠ 0) : egL g h x u y v = egL h (g.tmod h) u (x - g.tdiv h * u) v (y - g.tdiv h * v) := by
  conv => lhs; rw [egL]
  simp [hh]
def egRes (a b : Int) : Int × Int × Int :=
  if (egL a b 1 0 0 1).1 < 0 then (-(egL a b 1 0 0 1).1, -(egL a b 1 0 0 1).2.1, -(egL a b 1 0 0 1).2.2) else egL a b 1 0 0 1

theorem tdiv_mul (g h : Int) : g.tdiv h * h = g - g.tmod h := by
  have := Int.tmod_add_mul_tdiv g h
  rw [Int.mul_comm] at this
  omega
/-- Where the combinations stay: the two sums of products never grow. -/
structure EgInv (a b g h x u y v : Int) : Prop where
  g1 : g.natAbs ≤ 400000000
  h1 : h.natAbs ≤ 400000000
  x1 : x.natAbs ≤ 400000000
  u1 : u.natAbs ≤ 400000000
  y1 : y.natAbs ≤ 400000000
  v1 : v.natAbs ≤ 400000000
  s1 : u.natAbs * g.natAbs + x.natAbs * h.natAbs ≤ b.natAbs
  s2 : v.natAbs * g.natAbs + y.natAbs * h.natAbs ≤ a.natAbs
  e1 : a * x + b * y = g
  e2 : a * u + b * v = h
  d : Int.gcd g h = Int.gcd a b
theorem EgInv.start {a b : Int} (ha : -400000000 ≤ a ∧ a ≤ 400000000) (hb : -400000000 ≤ b ∧ b ≤ 400000000) : EgInv a b a b 1 0 0 1 := by
  refine ⟨by omega, by omega, by omega, by omega, by omega, by omega, by simp, by simp, by simp, by simp, rfl⟩
theorem natAbs_div_add (g h : Int) : g.natAbs = (g.tdiv h).natAbs * h.natAbs + (g.tmod h).natAbs := by
  rw [Int.natAbs_tdiv, Int.natAbs_tmod]
  exact (Nat.div_add_mod' g.natAbs h.natAbs).symm
theorem sum_step (x u g h : Int) (hh : h ≠ 0) : (x - g.tdiv h * u).natAbs * h.natAbs + u.natAbs * (g.tmod h).natAbs ≤ u.natAbs * g.natAbs + x.natAbs * h.natAbs := by
  have h1 : (x - g.tdiv h * u).natAbs ≤ x.natAbs + (g.tdiv h).natAbs * u.natAbs := by
    have := Int.natAbs_sub_le x (g.tdiv h * u)
    rwa [Int.natAbs_mul] at this
  have h2 := Nat.mul_le_mul_right h.natAbs h1
  have h3 := natAbs_div_add g h
  rw [h3]
  rw [Nat.add_mul] at h2
  rw [Nat.mul_add]
  have h4 : (g.tdiv h).natAbs * u.natAbs * h.natAbs = u.natAbs * ((g.tdiv h).natAbs * h.natAbs) := by
    rw [Nat.mul_comm (g.tdiv h).natAbs u.natAbs, Nat.mul_assoc]
  omega
theorem EgInv.step {a b g h x u y v : Int} (ha : a.natAbs ≤ 400000000) (hb : b.natAbs ≤ 400000000) (i : EgInv a b g h x u y v) (hh : h ≠ 0) :
    EgInv a b h (g.tmod h) u (x - g.tdiv h * u) v (y - g.tdiv h * v) := by
  have k1 := sum_step x u g h hh
  have k2 := sum_step y v g h hh
  have m1 := i.s1
  have m2 := i.s2
  have hp : 1 ≤ h.natAbs := by omega
  have q1 := Nat.mul_le_mul_left (x - g.tdiv h * u).natAbs hp
  have q2 := Nat.mul_le_mul_left (y - g.tdiv h * v).natAbs hp
  have hlt := natAbs_tmod_lt g h hh
  have hh1 := i.h1
  refine ⟨i.h1, by omega, i.u1, by omega, i.v1, by omega, by omega, by omega, i.e2, ?_, by rw [gcd_tmod]; exact i.d⟩
  have t := tdiv_mul g h
  have e1 := i.e1
  have e2 := i.e2
  have p1 : a * (x - g.tdiv h * u) + b * (y - g.tdiv h * v) = (a * x + b * y) - g.tdiv h * (a * u + b * v) := by grind
  rw [p1, e1, e2, t]
  omega
/-- The quotient times a number within the limit stays small. -/
theorem quo_bd (g h u : Int) (hg : g.natAbs ≤ 400000000) (hu : u.natAbs ≤ 400000000) : (g.tdiv h).natAbs ≤ 400000000 ∧ -160000000000000000 ≤ g.tdiv h * u ∧ g.tdiv h * u ≤ 160000000000000000 := by
  have h1 : (g.tdiv h).natAbs ≤ 400000000 := by
    rw [Int.natAbs_tdiv]
    exact Nat.le_trans (Nat.div_le_self _ _) hg
  have := mul_bd4 (g.tdiv h) u 400000000 400000000 (by omega) (by omega) (by omega) (by omega)
  omega
/-- What the algorithm ends with. -/
theorem egL_spec {a b : Int} (ha : a.natAbs ≤ 400000000) (hb : b.natAbs ≤ 400000000) : ∀ (n : Nat) (g h x u y v : Int), h.natAbs ≤ n → EgInv a b g h x u y v →
    ∃ G X Y U V : Int, egL g h x u y v = (G, X, Y) ∧ EgInv a b G 0 X U Y V
  | 0, g, h, x, u, y, v, hn, i => by
    have : h = 0 := by omega
    subst this
    exact ⟨g, x, y, u, v, egL_zero _ _ _ _ _, i⟩
  | n + 1, g, h, x, u, y, v, hn, i => by
    by_cases hh : h = 0
    · subst hh
      exact ⟨g, x, y, u, v, egL_zero _ _ _ _ _, i⟩
    · have hlt := natAbs_tmod_lt g h hh
      rw [egL_step _ _ _ _ _ _ hh]
      exact egL_spec ha hb n _ _ _ _ _ _ (by omega) (i.step ha hb hh)
theorem egRes_spec {a b : Int} (ha : -400000000 ≤ a ∧ a ≤ 400000000) (hb : -400000000 ≤ b ∧ b ≤ 400000000) :
    (egRes a b).1 = Int.gcd a b ∧ a * (egRes a b).2.1 + b * (egRes a b).2.2 = Int.gcd a b ∧ (egRes a b).2.1.natAbs ≤ 400000000 ∧ (egRes a b).2.2.natAbs ≤ 400000000 := by
  obtain ⟨G, X, Y, U, V, hr, i⟩ := egL_spec (a := a) (b := b) (by omega) (by omega) _ _ _ _ _ _ _ (Nat.le_refl _) (EgInv.start ha hb)
  have hd := i.d
  have e1 := i.e1
  have x1 := i.x1
  have y1 := i.y1
  unfold egRes
  rw [hr]
  simp only [Int.gcd_zero_right] at hd
  split
  · rename_i hneg
    simp only at hneg ⊢
    refine ⟨by omega, ?_, by omega, by omega⟩
    rw [Int.mul_neg, Int.mul_neg]; omega
  · rename_i hneg
    simp only at hneg ⊢
    exact ⟨by omega, by omega, x1, y1⟩
end Go.Proofs.Ytlggfmfelakadaa

/-
  DERIVED. The imports of all our walks, and small words that every walk uses.
-/
namespace Go.Proofs.Ytlggfmfelakadaa
open Go.RowKit
set_option linter.unusedVariables false
theorem ret_bool {a b : Bool} (h : a = b) : Ending.returned (.bool a) = .returned (.bool b) := by rw [h]
theorem ret_int {k : IntKind} {a b : Int} (h : a = b) : Ending.returned (.int k a) = .returned (.int k b) := by rw [h]
theorem below_drewN {B : Nat} {a w : World} (h : Below B a w) (n : Nat) : Below B a (w.drewN n) := ⟨h.os, h.tape, h.output, h.size, h.block⟩
theorem below_of_drewN (B : Nat) (w : World) (n : Nat) : Below B w (w.drewN n) := below_drewN (Below.refl B w) n
theorem below_into {B : Nat} {a w w' : World} (h : Below B a w) (k : Below w.heap.size w w') (hB : B ≤ w.heap.size) : Below B a w' := h.trans (k.mono hB)
theorem below_i {B : Nat} {a w w' : World} (h : Below B a w) (k : Below w.heap.size w w' := by assumption) (hB : B ≤ w.heap.size := by first | omega | (simp; done) | (simp; omega)) : Below B a w' := below_into h k hB
theorem e1_ {α : Type _} {xs : List α} {i : Nat} : xs.toArray[i]? = xs[i]? := List.getElem?_toArray
theorem e2_ {α : Type _} {a : α} {xs : List α} {i : Nat} : (a :: xs)[i + 1]? = xs[i]? := List.getElem?_cons_succ
theorem e3_ {α : Type _} {a : α} {xs : List α} : (a :: xs)[0]? = some a := List.getElem?_cons_zero
theorem p1_ {α : Type _} {xs : List α} {i : Nat} {a : α} : xs.toArray.setIfInBounds i a = (xs.set i a).toArray := List.setIfInBounds_toArray ..
theorem p2_ {α : Type _} {a b : α} {xs : List α} : (a :: xs).set 0 b = b :: xs := List.set_cons_zero ..
theorem p3_ {α : Type _} {a b : α} {xs : List α} {i : Nat} : (a :: xs).set (i + 1) b = a :: xs.set i b := List.set_cons_succ ..
theorem tk_ {P : Program} {ops : Array Oper} {Q : Exit → Act → World → Prop} {md : Region.Mode} {S : World → Prop} {i : Nat} {oi : Oper} {v : Value} {fuel : Nat} {listed : Array Bool} {a : Act} {w : World} (hi : ops[i]? = some oi := by simp only [e1_, e2_, e3_]; try rfl)
    (hs : Region.noSelect ops = true := by kernel_rfl) (hf : Region.free md ops listed i = true := by kernel_rfl) (hr : (Region.ready md ops listed).contains i = true := by kernel_rfl)
    (hQ : ∀ c a w, Q (.panic c) (a.put oi.dst v) w → Q (.panic c) a w := by exact fun _ _ _ h => h) (y : YieldsIf P ops S oi v a) (hS : S w := by assumption)
    (h : wpAnyH P md ops Q S fuel (listed.setIfInBounds i true) (a.put oi.dst v) w) : wpAnyH P md ops Q S (fuel + 1) listed a w := wpAnyH_take hi hs hf hr hQ y hS h
theorem Ks {P : Prop} (h : P := by first | omega | (simp; done) | (simp; omega)) : P := h
theorem Kw {P : Prop} (h : P := by (repeat (first | (with_reducible (first | exact Below.refl _ _ | assumption | refine below_drewN ?_ _ | refine Below.drew ?_ | refine Below.alloc ?_ ?_ _ | refine Below.setCell ?_ ?_ _ | refine below_i ?_)) | go_size))) : P := h
/-- The call returned v; below its first heap size nothing has turned. -/
def BV (v : Value) (w : World) (e : Ending) (w' : World) : Prop := e = .returned v ∧ Below w.heap.size w w'
theorem BV.mk {v v' : Value} {w w' : World} (h : v = v') (hb : Below w.heap.size w w') : BV v' w (.returned v) w' := by subst h; exact ⟨rfl, hb⟩
theorem quiet_left {P : Program} {f : FuncId} {args : Array Value} {w : World} {n : Nat} {v : Value}
    (h : Calls P f args (w.drewN n) fun e w' => e = .returned v ∧ w.drewN n = w') : Calls P f args (w.drewN n) fun e w'' => e = .returned v ∧ ∃ m, w'' = w.drewN m :=
  h.mono fun _ _ ⟨he, hm⟩ => ⟨he, n, hm.symm⟩
theorem quiet_add_left {P : Program} {f : FuncId} {args : Array Value} {w : World} {a n : Nat} {v : Value}
    (h : Calls P f args (w.drewN (a + n)) fun e w' => e = .returned v ∧ w.drewN (a + n) = w') :
    Calls P f args (w.drewN (a + n)) fun e w'' => e = .returned v ∧ ∃ m, w'' = w.drewN (a + m) :=
  h.mono fun _ _ ⟨he, hm⟩ => ⟨he, n, hm.symm⟩
theorem quiet_drew {P : Program} {f : FuncId} {args : Array Value} {w : World} {n : Nat} {v : Value}
    (h : Calls P f args (w.drewN n) fun e w' => e = .returned v ∧ ∃ m, w' = (w.drewN n).drewN m) : Calls P f args (w.drewN n) fun e w'' => e = .returned v ∧ ∃ m, w'' = w.drewN m :=
  h.mono fun _ _ ⟨he, m, hm⟩ => ⟨he, n + m, by rw [hm, World.drewN_drewN]⟩
theorem quiet_add_drew {P : Program} {f : FuncId} {args : Array Value} {w : World} {a n : Nat} {v : Value}
    (h : Calls P f args (w.drewN (a + n)) fun e w' => e = .returned v ∧ ∃ m, w' = (w.drewN (a + n)).drewN m) :
    Calls P f args (w.drewN (a + n)) fun e w'' => e = .returned v ∧ ∃ m, w'' = w.drewN (a + m) :=
  h.mono fun _ _ ⟨he, m, hm⟩ => ⟨he, n + m, by rw [hm, World.drewN_drewN, Nat.add_assoc]⟩
theorem bkeep {w W w1 : World} (hb : Below W.heap.size W w1) (h : w.heap.size ≤ W.heap.size) :
    (∀ b o, b < w.heap.size → w1.cell? ⟨b, o, none⟩ = W.cell? ⟨b, o, none⟩) ∧ (∀ b o, b < w.heap.size → w1.frozen? ⟨b, o, none⟩ = W.frozen? ⟨b, o, none⟩) :=
  ⟨fun b o h' => hb.cell (p := ⟨b, o, none⟩) (Nat.lt_of_lt_of_le h' h), fun b o h' => hb.frozen (p := ⟨b, o, none⟩) (Nat.lt_of_lt_of_le h' h)⟩
theorem bkeepb {W w1 : World} (b : Nat) (hb : Below W.heap.size W w1) (h : b < W.heap.size) :
    (∀ o, w1.cell? ⟨b, o, none⟩ = W.cell? ⟨b, o, none⟩) ∧ (∀ o, w1.frozen? ⟨b, o, none⟩ = W.frozen? ⟨b, o, none⟩) ∧ b < w1.heap.size :=
  ⟨fun o => hb.cell (p := ⟨b, o, none⟩) h, fun o => hb.frozen (p := ⟨b, o, none⟩) h, Nat.lt_of_lt_of_le h hb.size⟩
/-- The call returned v; the world is as it was. -/
def EV (v : Value) (w : World) (e : Ending) (w' : World) : Prop := e = .returned v ∧ w = w'
theorem EV.mk {v v' : Value} {w : World} (h : v = v') : EV v' w (.returned v) w := by subst h; exact ⟨rfl, rfl⟩
/-- The call returned v; the world has but drawn. -/
def DV (v : Value) (w : World) (e : Ending) (w' : World) : Prop := e = .returned v ∧ ∃ n, w' = w.drewN n
theorem DV.mk {v v' : Value} {w : World} (n : Nat) (h : v = v') : DV v' w (.returned v) (w.drewN n) := by subst h; exact ⟨rfl, n, rfl⟩
theorem DV.mk0 {v v' : Value} {w : World} (h : v = v') : DV v' w (.returned v) w := by subst h; exact ⟨rfl, 0, rfl⟩
theorem vbool {a b : Bool} (h : a = b) : Value.bool a = .bool b := by rw [h]
theorem vint {k : IntKind} {a b : Int} (h : a = b) : Value.int k a = .int k b := by rw [h]
theorem vib {k : IntKind} {a b : Int} {p q : Bool} (h : a = b) (h' : p = q) : Value.tuple #[.int k a, .bool p] = .tuple #[.int k b, .bool q] := by rw [h, h']
/-- Block g of the world is just these cells of element type t, none of them frozen. -/
def Blk (w : World) (g : Nat) (t : TypeId) (cs : Array Value) : Prop := w.heap[g]? = some (.cells cs t (0, 0))
section
variable {w w' : World} {g : Nat} {t : TypeId} {cs : Array Value}
theorem Blk.lt (h : Blk w g t cs) : g < w.heap.size := by
  rcases Nat.lt_or_ge g w.heap.size with hlt | hge
  · exact hlt
  · unfold Blk at h; rw [Array.getElem?_eq_none hge] at h; cases h
theorem Blk.cell (h : Blk w g t cs) (i : Nat) : w.cell? ⟨g, i, none⟩ = cs[i]? := cell_of_row w g i cs t (0, 0) h
theorem Blk.frozen (h : Blk w g t cs) (i : Nat) : w.frozen? ⟨g, i, none⟩ = false := by
  unfold Blk at h
  simp [World.frozen?, h]
theorem Blk.new (w : World) (t : TypeId) (cs : Array Value) : Blk (w.alloc (.cells cs t)) w.heap.size t cs := heap_alloc_new w _
theorem Blk.drew (h : Blk w g t cs) : Blk w.drew g t cs := h
theorem Blk.drewN (h : Blk w g t cs) (n : Nat) : Blk (w.drewN n) g t cs := h
theorem Blk.alloc (h : Blk w g t cs) (o : Obj) : Blk (w.alloc o) g t cs := (Below.heap_alloc w o g h.lt).trans h
theorem Blk.set_ (h : Blk w g t cs) (i : Nat) (u : Value) : Blk (w.setCell ⟨g, i, none⟩ u) g t (cs.setIfInBounds i u) := by
  unfold Blk at h ⊢
  simp [World.setCell, Array.getElem?_modify, h]
theorem Blk.far (h : Blk w g t cs) {p : Addr} (hp : g ≠ p.block) (u : Value) : Blk (w.setCell p u) g t cs := (Below.heap_setCell w p u g hp).trans h
theorem Blk.as {cs' : Array Value} (h : Blk w g t cs) (e : cs = cs') : Blk w g t cs' := e ▸ h
theorem Blk.below {B : Nat} (h : Blk w g t cs) (hb : Below B w w') (hg : g < B) : Blk w' g t cs := (hb.block g hg).trans h
theorem Blk.grown {row : Option Nat} (h : Blk w g t cs) (hb : w.grownBy w' row) (hg : some g ≠ row) : Blk w' g t cs := (hb.block g h.lt hg).trans h
end
end Go.Proofs.Ytlggfmfelakadaa

/-
  DERIVED. What a slice of ints reads as, and how that is kept from world to world.
-/
namespace Go.Proofs.Ytlggfmfelakadaa
open Go.RowKit
set_option linter.unusedVariables false

/-- In world w the slice value '.slice A n _' reads as the list xs; its memory lies below block B. -/
def RI (w : World) (B : Nat) (A : Option Addr) (n : Nat) (xs : List Int) : Prop :=
  xs.length = n ∧ (0 < n → ∃ b o, A = some ⟨b, o, none⟩ ∧ b < B ∧ ∀ k, k < n → w.cell? ⟨b, o + k, none⟩ = some (.int .i64 (xs.getD k 0)))

section
variable {w w' : World} {B B' n : Nat} {A : Option Addr} {xs : List Int}
theorem RI.len (h : RI w B A n xs) : xs.length = n := h.1
theorem RI.nil_ (w : World) (B : Nat) (A : Option Addr) : RI w B A 0 [] := ⟨rfl, fun h => absurd h (by omega)⟩
theorem RI.keep (h : RI w B A n xs) (hk : ∀ p : Addr, p.block < B → w'.cell? p = w.cell? p) : RI w' B A n xs :=
  ⟨h.1, fun hn => by
    obtain ⟨b, o, e, hb, hc⟩ := h.2 hn
    exact ⟨b, o, e, hb, fun k hkn => (hk ⟨b, o + k, none⟩ hb).trans (hc k hkn)⟩⟩
theorem RI.more (h : RI w B A n xs) (hB : B ≤ B') : RI w B' A n xs :=
  ⟨h.1, fun hn => by
    obtain ⟨b, o, e, hb, hc⟩ := h.2 hn
    exact ⟨b, o, e, by omega, hc⟩⟩
theorem RI.below {C : Nat} (h : RI w B A n xs) (hb : Below C w w') (hC : B ≤ C) : RI w' B A n xs := h.keep fun _ hp => hb.cell (by omega)
theorem RI.drew (h : RI w B A n xs) : RI w.drew B A n xs := h
theorem RI.drewN (h : RI w B A n xs) (k : Nat) : RI (w.drewN k) B A n xs := h
theorem RI.alloc (h : RI w B A n xs) (hB : B ≤ w.heap.size) (o : Obj) : RI (w.alloc o) B A n xs := h.keep fun p hp => World.cell?_alloc_lt w o p (by omega)
theorem RI.setCell (h : RI w B A n xs) {p : Addr} (hB : B ≤ p.block) (u : Value) : RI (w.setCell p u) B A n xs :=
  h.keep fun q hq => World.cell?_setCell_other w p q u (fun e => by subst e; omega)
theorem RI.grown (h : RI w B A n xs) {row : Option Nat} (hg : w.grownBy w' row) (hB : B ≤ w.heap.size) (hr : ∀ g, row = some g → B ≤ g) : RI w' B A n xs :=
  h.keep fun p hp => World.cell?_of_block (hg.block p.block (by omega) (fun e => by have := hr _ e.symm; omega))
end
theorem getD_nat (xs : List Int) (k : Nat) : xs.getD k 0 = xs[k]?.getD 0 := by simp [List.getD]


/-- The int's row of the table. -/
theorem int_info : (Try.prog.info? 3).map (fun i => (i.zero, i.size, i.bytes)) = some (some (.int .i64 0), 1, 8) := by kernel_rfl
/-- From block B on, the slice value v owns just the numbers xs. -/
def OR (w : World) (B : Nat) (v : Value) (xs : List Int) : Prop := w.ownsRow B 3 1 v xs.length (xs.map (Value.int .i64))
/-- The slice value is nil (and there is nothing) or begins a block of its own. -/
theorem OR.form {w : World} {B : Nat} {v : Value} {xs : List Int} (h : OR w B v xs) : (v = .slice none 0 0 ∧ xs = []) ∨ ∃ g cap, v = .slice (some ⟨g, 0, none⟩) xs.length cap ∧ B ≤ g ∧ g < w.heap.size ∧ xs.length ≤ cap ∧ cap ≤ maxLen := by
  rcases h.2 with ⟨h1, h2⟩ | ⟨g, cap, cur, h1, h2, h3, h4, h5, _⟩
  · exact .inl ⟨h1, List.eq_nil_of_length_eq_zero h2⟩
  · refine .inr ⟨g, cap, h1, h2, ?_, h4, h5⟩
    rcases Nat.lt_or_ge g w.heap.size with hlt | hge
    · exact hlt
    · rw [Array.getElem?_eq_none hge] at h3; cases h3
theorem OR.cell {w : World} {B g n cap : Nat} {xs : List Int} (h : OR w B (.slice (some ⟨g, 0, none⟩) n cap) xs) (k : Nat) (hk : k < xs.length) : w.cell? ⟨g, k, none⟩ = some (.int .i64 (xs.getD k 0)) := by
  have hn : n = xs.length := by
    rcases h.2 with ⟨h1, _⟩ | ⟨g', cap', cur, h1, _⟩
    · cases h1
    · injection h1
  subst hn
  have := World.ownsRow.cellAt h k (by omega)
  rw [this]
  simp [hk]
theorem OR.frozen {w : World} {B g n cap : Nat} {xs : List Int} (h : OR w B (.slice (some ⟨g, 0, none⟩) n cap) xs) (k : Nat) : w.frozen? ⟨g, k, none⟩ = false := by
  have hn : n = xs.length := by
    rcases h.2 with ⟨h1, _⟩ | ⟨g', cap', cur, h1, _⟩
    · cases h1
    · injection h1
  subst hn
  exact World.ownsRow.frozenAt h k
theorem OR.set_ {w : World} {B g n cap : Nat} {xs : List Int} (h : OR w B (.slice (some ⟨g, 0, none⟩) n cap) xs) (k : Nat) (u : Int) :
    OR (w.setCell ⟨g, k, none⟩ (.int .i64 u)) B (.slice (some ⟨g, 0, none⟩) n cap) (xs.set k u) := by
  have hn : n = xs.length := by
    rcases h.2 with ⟨h1, _⟩ | ⟨g', cap', cur, h1, _⟩
    · cases h1
    · injection h1
  subst hn
  have := (World.ownsRow.stored h k (.int .i64 u)).1
  unfold OR
  rw [List.length_set, List.map_set]
  exact this
theorem OR.kept {w w' : World} {B : Nat} {v : Value} {xs : List Int} {row : Option Nat} (h : OR w B v xs) (hg : w.grownBy w' row) (hne : v.ownBlock = none ∨ v.ownBlock ≠ row) : OR w' B v xs :=
  World.ownsRow.kept h hg hne
theorem OR.alloc {w : World} {B : Nat} {v : Value} {xs : List Int} (h : OR w B v xs) (o : Obj) : OR (w.alloc o) B v xs := World.ownsRow.alloc h o
theorem OR.drew {w : World} {B : Nat} {v : Value} {xs : List Int} (h : OR w B v xs) : OR w.drew B v xs := h
theorem OR.drewN {w : World} {B : Nat} {v : Value} {xs : List Int} (h : OR w B v xs) (n : Nat) : OR (w.drewN n) B v xs := h
theorem OR.below {w w' : World} {B C : Nat} {v : Value} {xs : List Int} (h : OR w B v xs) (hb : Below C w w') (hC : w.heap.size ≤ C) : OR w' B v xs :=
  h.kept (row := none) ⟨hb.os, hb.tape, hb.output, hb.size, fun k hk _ => hb.block k (by omega)⟩ (by cases v.ownBlock <;> simp)
/-- A store below the base, or into another block. -/
theorem OR.far {w : World} {B : Nat} {v : Value} {xs : List Int} (h : OR w B v xs) {p : Addr} (hp : v.ownBlock ≠ some p.block) (u : Value) : OR (w.setCell p u) B v xs :=
  h.kept (row := some p.block) ⟨rfl, rfl, rfl, by simp [World.setCell], fun k hk hne => Below.heap_setCell w p u k (fun e => hne (by rw [e]))⟩ (.inr hp)
theorem OR.mono {w : World} {B B' : Nat} {v : Value} {xs : List Int} (h : OR w B v xs) (hB : B' ≤ B) : OR w B' v xs := by
  refine ⟨h.1, ?_⟩
  rcases h.2 with h1 | ⟨g, cap, cur, h1, h2, h3⟩
  · exact .inl h1
  · exact .inr ⟨g, cap, cur, h1, by omega, h3⟩
theorem OR.low {w : World} {B : Nat} {v : Value} {xs : List Int} (h : OR w B v xs) {p : Addr} (hp : p.block < B) (u : Value) : OR (w.setCell p u) B v xs :=
  ownsRow_setCell_below h hp u
/-- What is owned reads as it is. -/
theorem OR.reads {w : World} {B n cap : Nat} {A : Option Addr} {xs : List Int} (h : OR w B (.slice A n cap) xs) : RI w w.heap.size A n xs := by
  rcases h.form with ⟨h1, h2⟩ | ⟨g, cap', h1, h2, h3, _⟩
  · injection h1 with e1 e2 e3
    subst e1; subst e2; subst h2
    exact RI.nil_ _ _ _
  · injection h1 with e1 e2 e3
    subst e1; subst e2
    exact ⟨rfl, fun hn => ⟨g, 0, rfl, h3, fun k hk => by rw [Nat.zero_add]; exact h.cell k hk⟩⟩
theorem OR.b_ {w w' : World} {B C : Nat} {v : Value} {xs : List Int} (h : OR w B v xs) (hb : Below C w w' := by assumption) (hC : w.heap.size ≤ C := by first | omega | (simp; done) | (simp; omega)) : OR w' B v xs := OR.below h hb hC
theorem OR.l_ {w : World} {B : Nat} {v u : Value} {xs : List Int} {p : Addr} (h : OR w B v xs) (hp : p.block < B := by first | omega | (simp only []; omega) | (simp; omega)) : OR (w.setCell p u) B v xs := OR.low h hp u
theorem RI.a_ {w : World} {B n : Nat} {A : Option Addr} {xs : List Int} {o : Obj} (h : RI w B A n xs) (hB : B ≤ w.heap.size := by first | omega | (simp; done) | (simp; omega)) : RI (w.alloc o) B A n xs := RI.alloc h hB o
theorem RI.s_ {w : World} {B n : Nat} {A : Option Addr} {xs : List Int} {p : Addr} {u : Value} (h : RI w B A n xs) (hB : B ≤ p.block := by first | omega | (simp; done) | (simp; omega)) : RI (w.setCell p u) B A n xs := RI.setCell h hB u
theorem RI.b_ {w w' : World} {B C n : Nat} {A : Option Addr} {xs : List Int} (h : RI w B A n xs) (hb : Below C w w' := by assumption) (hC : B ≤ C := by first | omega | (simp; done) | (simp; omega)) : RI w' B A n xs := RI.below h hb hC
theorem Ko {P Q : Prop} (h : Q) (k : Q → P := by intro h; (with_reducible (repeat (first | exact h | refine OR.drew ?_ | refine OR.drewN ?_ _ | refine OR.alloc ?_ _ | refine OR.b_ ?_ | refine OR.l_ ?_)))) : P := k h
theorem Kr {P Q : Prop} (h : Q) (k : Q → P := by intro h; (with_reducible (repeat (first | exact h | refine RI.drew ?_ | refine RI.drewN ?_ _ | refine RI.a_ ?_ | refine RI.s_ ?_ | refine RI.b_ ?_)))) : P := k h
theorem made_ints (n : Nat) : (madeCells #[Value.int .i64 0] n).toList = (List.replicate n (0 : Int)).map (Value.int .i64) := by
  rw [List.map_replicate]
  apply List.ext_getElem?
  intro i
  simp only [madeCells]
  by_cases hi : i < n
  · simp [hi, Nat.mod_one]
  · simp [hi]
theorem OR.of_made {w : World} {B g n : Nat} (h : w.ownsRow B 3 1 (.slice (some ⟨g, 0, none⟩) n n) n (madeCells #[Value.int .i64 0] n).toList) :
    OR w B (.slice (some ⟨g, 0, none⟩) n n) (List.replicate n 0) := by
  unfold OR
  rw [← made_ints, List.length_replicate]
  exact h
theorem only_set {a w : World} {g : Nat} (h : a.grownBy w (some g)) (k : Nat) (u : Value) : a.grownBy (w.setCell ⟨g, k, none⟩ u) (some g) :=
  ⟨h.os, h.tape, h.output, by simpa [World.setCell] using h.size, fun i hi hne => (Below.heap_setCell w _ u i (by
    rintro rfl
    exact hne rfl)).trans (h.block i hi hne)⟩
theorem only_alloc {a w : World} {row : Option Nat} (h : a.grownBy w row) (o : Obj) : a.grownBy (w.alloc o) row :=
  ⟨h.os, h.tape, h.output, Nat.le_trans h.size (by simp), fun i hi hne => (Below.heap_alloc w o i (Nat.lt_of_lt_of_le hi h.size)).trans (h.block i hi hne)⟩
theorem only_drew {a w : World} {row : Option Nat} (h : a.grownBy w row) : a.grownBy w.drew row := ⟨h.os, h.tape, h.output, h.size, h.block⟩
theorem only_drewN {a w : World} {row : Option Nat} (h : a.grownBy w row) (n : Nat) : a.grownBy (w.drewN n) row := ⟨h.os, h.tape, h.output, h.size, h.block⟩
theorem only_of_below {a w : World} (h : Below a.heap.size a w) (row : Option Nat) : a.grownBy w row := ⟨h.os, h.tape, h.output, h.size, fun i hi _ => h.block i hi⟩
theorem only_trans {a b c : World} {row : Option Nat} (h : a.grownBy b row) (k : b.grownBy c row) : a.grownBy c row :=
  ⟨k.os.trans h.os, k.tape.trans h.tape, k.output.trans h.output, Nat.le_trans h.size k.size, fun i hi hn => (k.block i (Nat.lt_of_lt_of_le hi h.size) hn).trans (h.block i hi hn)⟩
theorem only_below {a w : World} {row : Option Nat} {B : Nat} (h : a.grownBy w row) (hB : B ≤ a.heap.size) (hr : ∀ g, row = some g → B ≤ g) : Below B a w :=
  (Below.refl B a).grown h hB hr
theorem OR.caps {w : World} {B n cap : Nat} {A : Option Addr} {xs : List Int} (h : OR w B (.slice A n cap) xs) : n ≤ cap ∧ cap ≤ 9223372036854775807 := by
  rcases h.form with ⟨h1, h2⟩ | ⟨g, cap', h1, h2, h3, h4, h5⟩
  · injection h1 with e1 e2 e3
    omega
  · injection h1 with e1 e2 e3
    unfold maxLen at h5
    omega
theorem bkeepB {W w1 : World} {B : Nat} (b : Nat) (hb : Below B W w1) (h : b < B) (h' : b < W.heap.size) :
    (∀ o, w1.cell? ⟨b, o, none⟩ = W.cell? ⟨b, o, none⟩) ∧ (∀ o, w1.frozen? ⟨b, o, none⟩ = W.frozen? ⟨b, o, none⟩) ∧ b < w1.heap.size :=
  ⟨fun o => hb.cell (p := ⟨b, o, none⟩) h, fun o => hb.frozen (p := ⟨b, o, none⟩) h, Nat.lt_of_lt_of_le h' hb.size⟩
/-- An owned slice whose block is known to be there is no nil. -/
theorem OR.notNil {w : World} {B g k : Nat} {v : Value} {xs : List Int} (h : OR w B v xs) (hv : v.ownBlock = some g ∨ v.ownBlock = some k) : ∃ g cap, v = .slice (some ⟨g, 0, none⟩) xs.length cap ∧ B ≤ g ∧ g < w.heap.size := by
  rcases h.form with ⟨h1, h2⟩ | ⟨g, cap', h1, h2, h3, h4, h5⟩
  · rw [h1] at hv; rcases hv with hv | hv <;> cases hv
  · exact ⟨g, cap', h1, h2, h3⟩
end Go.Proofs.Ytlggfmfelakadaa

/-
  DERIVED. The contracts of the small functions on numbers: impl.IsNumber, absInt, gcd, mod; spec.l1In, IsNumber, l1Abs, GcdOf, l8Mod; IsPrime of both.
-/
namespace Go.Proofs.Ytlggfmfelakadaa
open Go.RowKit
set_option linter.unusedVariables false

theorem impl_IsNumber (n : Int) (w : World) : Calls Try.prog 65 #[.int .i64 n] w fun e w' => e = .returned (.bool (isNum n)) ∧ w = w' := by
  unfold isNum
  go_enter Try.func65, Try.ntmps65
  go_wp2
  all_goals go_ret
  all_goals refine ⟨ret_bool ?_, rfl⟩
  all_goals simp
  all_goals omega

theorem spec_l1In (x lo hi : Int) (w : World) : Calls Try.prog 101 #[.int .i64 x, .int .i64 lo, .int .i64 hi] w fun e w' => e = .returned (.bool (decide (lo ≤ x) && decide (x ≤ hi))) ∧ w = w' := by
  go_enter Try.func101, Try.ntmps101
  go_wp2
  all_goals go_ret
  all_goals refine ⟨ret_bool ?_, rfl⟩
  all_goals simp
  all_goals omega

theorem spec_IsNumber (n : Int) (w : World) : Calls Try.prog 111 #[.int .i64 n] w fun e w' => e = .returned (.bool (isNum n)) ∧ w = w' := by
  go_enter Try.func111, Try.ntmps111
  go_wp2_with (go_at_call 101; refine (spec_l1In _ _ _ _).mono ?_; rintro e w' ⟨rfl, rfl⟩)
  all_goals go_ret
  all_goals exact ⟨rfl, rfl⟩

theorem impl_IsNumber_yes (n : Int) (w : World) (h : -400000000 ≤ n ∧ n ≤ 400000000) : Calls Try.prog 65 #[.int .i64 n] w fun e w' => e = .returned (.bool true) ∧ w = w' := by
  have := impl_IsNumber n w
  rwa [(isNum_iff n).2 h] at this
theorem impl_IsNumber_no (n : Int) (w : World) (h : n < -400000000 ∨ 400000000 < n) : Calls Try.prog 65 #[.int .i64 n] w fun e w' => e = .returned (.bool false) ∧ w = w' := by
  have := impl_IsNumber n w
  rwa [(isNum_not n).2 h] at this
theorem spec_IsNumber_yes (n : Int) (w : World) (h : -400000000 ≤ n ∧ n ≤ 400000000) : Calls Try.prog 111 #[.int .i64 n] w fun e w' => e = .returned (.bool true) ∧ w = w' := by
  have := spec_IsNumber n w
  rwa [(isNum_iff n).2 h] at this
theorem spec_IsNumber_no (n : Int) (w : World) (h : n < -400000000 ∨ 400000000 < n) : Calls Try.prog 111 #[.int .i64 n] w fun e w' => e = .returned (.bool false) ∧ w = w' := by
  have := spec_IsNumber n w
  rwa [(isNum_not n).2 h] at this
theorem spec_l1In_yes (x lo hi : Int) (w : World) (h : lo ≤ x ∧ x ≤ hi) : Calls Try.prog 101 #[.int .i64 x, .int .i64 lo, .int .i64 hi] w fun e w' => e = .returned (.bool true) ∧ w = w' := by
  have := spec_l1In x lo hi w
  rwa [show (decide (lo ≤ x) && decide (x ≤ hi)) = true by simpa using h] at this
theorem spec_l1In_no (x lo hi : Int) (w : World) (h : x < lo ∨ hi < x) : Calls Try.prog 101 #[.int .i64 x, .int .i64 lo, .int .i64 hi] w fun e w' => e = .returned (.bool false) ∧ w = w' := by
  have := spec_l1In x lo hi w
  rwa [show (decide (lo ≤ x) && decide (x ≤ hi)) = false by simp; omega] at this

theorem impl_absInt (n : Int) (w : World) (h : -9223372036854775807 ≤ n) (h2 : n ≤ 9223372036854775807) : Calls Try.prog 71 #[.int .i64 n] w fun e w' => e = .returned (.int .i64 n.natAbs) ∧ w = w' := by
  go_enter Try.func71, Try.ntmps71
  go_wp2
  all_goals go_ret
  · exact ⟨ret_int (show -n = _ by omega), rfl⟩
  · exact ⟨ret_int (show n = _ by omega), rfl⟩

theorem spec_l1Abs (n : Int) (w : World) (h : -9223372036854775807 ≤ n) (h2 : n ≤ 9223372036854775807) : Calls Try.prog 131 #[.int .i64 n] w fun e w' => e = .returned (.int .i64 n.natAbs) ∧ w = w' := by
  go_enter Try.func131, Try.ntmps131
  go_wp2
  all_goals go_ret
  · exact ⟨ret_int (show -n = _ by omega), rfl⟩
  · exact ⟨ret_int (show n = _ by omega), rfl⟩

theorem impl_mod (a p : Int) (w : World) (hp : 0 < p) (hp2 : p ≤ 4000000000000000000) (h1 : -9223372036854775808 ≤ a) (h2 : a ≤ 9223372036854775807) : Calls Try.prog 108 #[.int .i64 a, .int .i64 p] w fun e w' => e = .returned (.int .i64 (a % p)) ∧ w = w' := by
  obtain ⟨hm1, hm2⟩ := tmod_lt a p hp
  have HA : Hid (a.tmod p < 0 → a % p = a.tmod p + p) := emod_of_tmod_neg a p hp
  have HB : Hid (0 ≤ a.tmod p → a % p = a.tmod p) := emod_of_tmod_nonneg a p hp
  go_enter Try.func108, Try.ntmps108
  go_wp2
  all_goals go_ret
  · exact ⟨ret_int (HA.out (by assumption)).symm, rfl⟩
  · exact ⟨ret_int (HB.out (by assumption)).symm, rfl⟩

theorem spec_l8Mod (a p : Int) (w : World) (hp : 0 < p) (hp2 : p ≤ 4000000000000000000) (h1 : -9223372036854775808 ≤ a) (h2 : a ≤ 9223372036854775807) : Calls Try.prog 75 #[.int .i64 a, .int .i64 p] w fun e w' => e = .returned (.int .i64 (a % p)) ∧ w = w' := by
  obtain ⟨hm1, hm2⟩ := tmod_lt a p hp
  have HA := Lib.hid (tmod_twice a p hp)
  go_enter Try.func75, Try.ntmps75
  go_wp2
  all_goals go_ret
  all_goals exact ⟨ret_int HA.out, rfl⟩

theorem impl_gcd (a b : Int) (w : World) (ha : -9223372036854775807 ≤ a) (ha2 : a ≤ 9223372036854775807) (hb : -9223372036854775807 ≤ b) (hb2 : b ≤ 9223372036854775807) :
    Calls Try.prog 121 #[.int .i64 a, .int .i64 b] w fun e w' => e = .returned (.int .i64 (Int.gcd a b)) ∧ ∃ n, w' = w.drewN n := by
  go_enter Try.func121, Try.ntmps121
  go_wp2
  go_loopw [0, 1] (fun u v wr => ∃ x y : Int, u = .int .i64 x ∧ v = .int .i64 y ∧ Int.gcd x y = Int.gcd a b ∧ (-9223372036854775807 ≤ x ∧ x ≤ 9223372036854775807 ∧ -9223372036854775807 ≤ y ∧ y ≤ 9223372036854775807) ∧ ∃ n, wr = w.drewN n) (fun _ v _ => (intOf v).natAbs)
  case atStart => exact ⟨a, b, rfl, rfl, rfl, ⟨ha, ha2, hb, hb2⟩, 0, rfl⟩
  case round =>
    obtain ⟨x, y, rfl, rfl, hg0, ⟨h1, h2, h3, h4⟩, n, rfl⟩ := hrel
    have hg := Lib.hid hg0
    clear hg0
    by_cases hy : y = 0
    · subst hy
      go_wp2_with (go_at_call 71; refine (impl_absInt _ _ (by omega) (by omega)).mono ?_; rintro e w' ⟨rfl, rfl⟩)
      go_ret
      exact ⟨ret_int (by rw [← hg.out]; simp), n, rfl⟩
    · have hyb : (y != 0) = true := by simpa using hy
      have hlt := natAbs_tmod_lt x y hy
      go_wp2
      go_region
      all_goals go_wp2
      all_goals go_roundw
      all_goals first
        | exact ⟨y, x.tmod y, rfl, rfl, by rw [gcd_tmod]; exact hg.out, ⟨h3, h4, by omega, by omega⟩, n + 1, rfl⟩
        | (simp only [intOf]; omega)

theorem spec_GcdOf (a b : Int) (w : World) (ha' : -400000000 ≤ a ∧ a ≤ 400000000) (hb' : -400000000 ≤ b ∧ b ≤ 400000000) :
    Calls Try.prog 130 #[.int .i64 a, .int .i64 b] w fun e w' => e = .returned (.int .i64 (Int.gcd a b)) ∧ ∃ n, w' = w.drewN n := by
  have ha := (isNum_iff a).2 ha'
  have hb := (isNum_iff b).2 hb'
  go_enter Try.func130, Try.ntmps130
  go_wp2_with (go_at_call 111; refine (spec_IsNumber _ _).mono ?_; rintro e w' ⟨rfl, rfl⟩)
  go_loopw [0, 1] (fun u v wr => ∃ x y : Int, u = .int .i64 x ∧ v = .int .i64 y ∧ Int.gcd x y = Int.gcd a b ∧ (-9223372036854775807 ≤ x ∧ x ≤ 9223372036854775807 ∧ -9223372036854775807 ≤ y ∧ y ≤ 9223372036854775807) ∧ ∃ n, wr = w.drewN n) (fun _ v _ => (intOf v).natAbs)
  case atStart => exact ⟨a, b, rfl, rfl, rfl, ⟨by omega, by omega, by omega, by omega⟩, 0, rfl⟩
  case round =>
    obtain ⟨x, y, rfl, rfl, hg0, ⟨h1, h2, h3, h4⟩, n, rfl⟩ := hrel
    have hg := Lib.hid hg0
    clear hg0
    by_cases hy : y = 0
    · subst hy
      go_wp2_with (go_at_call 131; refine (spec_l1Abs _ _ (by omega) (by omega)).mono ?_; rintro e w' ⟨rfl, rfl⟩)
      go_ret
      exact ⟨ret_int (by rw [← hg.out]; simp), n, rfl⟩
    · have hyb : (y != 0) = true := by simpa using hy
      have hlt := natAbs_tmod_lt x y hy
      go_wp2
      go_region
      all_goals go_wp2
      all_goals go_roundw
      all_goals first
        | exact ⟨y, x.tmod y, rfl, rfl, by rw [gcd_tmod]; exact hg.out, ⟨h3, h4, by omega, by omega⟩, n + 1, rfl⟩
        | (simp only [intOf]; omega)

theorem spec_GcdOf_out (a b : Int) (w : World) (h : isNum a = false ∨ isNum b = false) :
    Calls Try.prog 130 #[.int .i64 a, .int .i64 b] w fun e w' => e = .returned (.int .i64 0) ∧ w = w' := by
  rcases ha : isNum a with _ | _
  · go_enter Try.func130, Try.ntmps130
    go_wp2_with (go_at_call 111; refine (spec_IsNumber _ _).mono ?_; rintro e w' ⟨rfl, rfl⟩)
    go_ret
    exact ⟨rfl, rfl⟩
  · have hb : isNum b = false := by rcases h with h | h; (rw [ha] at h; cases h); exact h
    clear h
    go_enter Try.func130, Try.ntmps130
    go_wp2_with (go_at_call 111; refine (spec_IsNumber _ _).mono ?_; rintro e w' ⟨rfl, rfl⟩)
    go_ret
    exact ⟨rfl, rfl⟩

theorem impl_IsPrime (p : Int) (w : World) :
    Calls Try.prog 66 #[.int .i64 p] w fun e w' => e = .returned (.bool (isPr p)) ∧ w = w' := by
  by_cases h1 : p < 2
  · go_enter Try.func66, Try.ntmps66
    go_wp2
    go_ret
    exact ⟨ret_bool (by simp [isPr]; intro h; omega), rfl⟩
  by_cases h2 : 10000 < p
  · go_enter Try.func66, Try.ntmps66
    go_wp2
    go_ret
    exact ⟨ret_bool (by simp [isPr]; intro h; omega), rfl⟩
  have hres := Lib.hid (show isPr p = prFrom p 2 200 by simp [isPr, show (2 : Int) ≤ p by omega, show p ≤ 10000 by omega])
  go_enter Try.func66, Try.ntmps66
  go_wp2
  go_loop [3] (fun v => ∃ d : Int, v = .int .i64 d ∧ 2 ≤ d ∧ d ≤ 101 ∧ prFrom p d (202 - d).toNat = prFrom p 2 200) (fun v => (102 - intOf v).toNat)
  case atStart => exact ⟨2, rfl, by omega, by omega, rfl⟩
  case round =>
    obtain ⟨d, rfl, hd1, hd2, hg0⟩ := hrel
    have hg := Lib.hid hg0
    clear hg0
    obtain ⟨s1, s2⟩ := sq_le d 101 (by omega) hd2
    by_cases hlt : d * d ≤ p
    · have hle := le_of_sq d 100 p (by omega) hlt (by omega)
      have hd0 : (d == 0) = false := by simp; omega
      have hk : (202 - d).toNat = (202 - (d + 1)).toNat + 1 := by omega
      have hp := hg.out
      rw [hk, prFrom, if_pos hlt] at hp
      by_cases hm : p % d = 0
      · rw [if_pos hm] at hp
        have hmb : (p % d == 0) = true := by simpa using hm
        have hp' := Lib.hid hp
        clear hp hk
        go_wp2
        go_ret
        exact ⟨ret_bool (by rw [hres.out, ← hp'.out]), rfl⟩
      · rw [if_neg hm] at hp
        have hmb : (p % d == 0) = false := by simpa using hm
        have hp' := Lib.hid hp
        clear hp hk
        go_wp2
        go_round
        case rel => exact ⟨d + 1, rfl, by omega, by omega, hp'.out⟩
        case measure => simp [intOf]; omega
    · have hp := hg.out
      have hk : (202 - d).toNat = (201 - d).toNat + 1 := by omega
      rw [hk, prFrom, if_neg hlt] at hp
      have hp' := Lib.hid hp
      clear hp hk
      go_wp2
      go_ret
      exact ⟨ret_bool (by rw [hres.out, ← hp'.out]), rfl⟩

theorem spec_IsPrime (p : Int) (w : World) :
    Calls Try.prog 127 #[.int .i64 p] w fun e w' => e = .returned (.bool (isPr p)) ∧ w = w' := by
  by_cases h1 : p < 2
  · have hb : (decide ((2 : Int) ≤ p) && decide (p ≤ 10000)) = false := by simp; intro h; omega
    go_enter Try.func127, Try.ntmps127
    go_wp2_with (go_at_call 101; refine (spec_l1In _ _ _ _).mono ?_; rw [hb]; rintro e w' ⟨rfl, rfl⟩)
    go_ret
    exact ⟨ret_bool (by simp [isPr]; intro h; omega), rfl⟩
  by_cases h2 : 10000 < p
  · have hb : (decide ((2 : Int) ≤ p) && decide (p ≤ 10000)) = false := by simp; intro h; omega
    go_enter Try.func127, Try.ntmps127
    go_wp2_with (go_at_call 101; refine (spec_l1In _ _ _ _).mono ?_; rw [hb]; rintro e w' ⟨rfl, rfl⟩)
    go_ret
    exact ⟨ret_bool (by simp [isPr]; intro h; omega), rfl⟩
  have hb : (decide ((2 : Int) ≤ p) && decide (p ≤ 10000)) = true := by simp; omega
  have hres := Lib.hid (show isPr p = prFrom p 2 200 by simp [isPr, show (2 : Int) ≤ p by omega, show p ≤ 10000 by omega])
  go_enter Try.func127, Try.ntmps127
  go_wp2_with (go_at_call 101; refine (spec_l1In _ _ _ _).mono ?_; rw [hb]; rintro e w' ⟨rfl, rfl⟩)
  go_loop [3] (fun v => ∃ d : Int, v = .int .i64 d ∧ 2 ≤ d ∧ d ≤ 101 ∧ prFrom p d (202 - d).toNat = prFrom p 2 200) (fun v => (102 - intOf v).toNat)
  case atStart => exact ⟨2, rfl, by omega, by omega, rfl⟩
  case round =>
    obtain ⟨d, rfl, hd1, hd2, hg0⟩ := hrel
    have hg := Lib.hid hg0
    clear hg0
    obtain ⟨s1, s2⟩ := sq_le d 101 (by omega) hd2
    by_cases hlt : d * d ≤ p
    · have hle := le_of_sq d 100 p (by omega) hlt (by omega)
      have hd0 : (d == 0) = false := by simp; omega
      have hk : (202 - d).toNat = (202 - (d + 1)).toNat + 1 := by omega
      have hp := hg.out
      rw [hk, prFrom, if_pos hlt] at hp
      by_cases hm : p % d = 0
      · rw [if_pos hm] at hp
        have hmb : (p % d == 0) = true := by simpa using hm
        have hp' := Lib.hid hp
        clear hp hk
        go_wp2
        go_ret
        exact ⟨ret_bool (by rw [hres.out, ← hp'.out]), rfl⟩
      · rw [if_neg hm] at hp
        have hmb : (p % d == 0) = false := by simpa using hm
        have hp' := Lib.hid hp
        clear hp hk
        go_wp2
        go_round
        case rel => exact ⟨d + 1, rfl, by omega, by omega, hp'.out⟩
        case measure => simp [intOf]; omega
    · have hp := hg.out
      have hk : (202 - d).toNat = (201 - d).toNat + 1 := by omega
      rw [hk, prFrom, if_neg hlt] at hp
      have hp' := Lib.hid hp
      clear hp hk
      go_wp2
      go_ret
      exact ⟨ret_bool (by rw [hres.out, ← hp'.out]), rfl⟩

end Go.Proofs.Ytlggfmfelakadaa

/-
  DERIVED. A cell of a slice that reads as a list.
-/
namespace Go.Proofs.Ytlggfmfelakadaa
open Go.RowKit
set_option linter.unusedVariables false
theorem RI.at_ {w : World} {B n b o k : Nat} {xs : List Int} (h : RI w B (some ⟨b, o, none⟩) n xs) (hk : k < n) : w.cell? ⟨b, o + k, none⟩ = some (.int .i64 (xs.getD k 0)) := by
  obtain ⟨b', o', e, _, hc⟩ := h.2 (by omega)
  injection e with e
  injection e with e1 e2 e3
  subst e1; subst e2
  exact hc k hk
end Go.Proofs.Ytlggfmfelakadaa

/-
  DERIVED. Small functions of the laws' own package: big, abs.
-/
namespace Go.Proofs.Ytlggfmfelakadaa
open Go.RowKit
set_option linter.unusedVariables false
set_option linter.unusedSimpArgs false
theorem laws_big (A : Option Addr) (n cap : Nat) (w : World) : Calls Try.prog 7 #[.slice A n cap] w (EV (.bool (decide (1048576 < n))) w) := by
  go_enter Try.func7, Try.ntmps7
  go_wp2
  go_ret
  exact EV.mk (vbool (by first | rfl | (simp; omega)))
theorem laws_abs (x : Int) (h1 : -4611686018427387904 ≤ x) (h2 : x ≤ 4611686018427387904) (w : World) : Calls Try.prog 23 #[.int .i64 x] w (EV (.int .i64 (x.natAbs : Nat)) w) := by
  go_enter Try.func23, Try.ntmps23
  go_wp2
  all_goals go_ret
  all_goals exact EV.mk (vint (by omega))
end Go.Proofs.Ytlggfmfelakadaa

/-
  DERIVED. Matrices as lists of cells: no program in sight.
-/
namespace Go.Proofs.Ytlggfmfelakadaa
set_option linter.unusedVariables false
/-- A valid matrix. -/
def isMat (r c : Int) (xs : List Int) : Bool := decide (0 ≤ r) && decide (r ≤ 24) && decide (0 ≤ c) && decide (c ≤ 24) && decide ((xs.length : Int) = r * c) && xs.all isNum
structure IsM (r c : Int) (xs : List Int) : Prop where
  r0 : 0 ≤ r
  r1 : r ≤ 24
  c0 : 0 ≤ c
  c1 : c ≤ 24
  len : (xs.length : Int) = r * c
  num : xs.all isNum = true
theorem isMat_iff {r c : Int} {xs : List Int} : isMat r c xs = true ↔ IsM r c xs := by
  simp only [isMat, Bool.and_eq_true, decide_eq_true_eq]
  constructor
  · rintro ⟨⟨⟨⟨⟨h1, h2⟩, h3⟩, h4⟩, h5⟩, h6⟩
    exact ⟨h1, h2, h3, h4, h5, h6⟩
  · rintro ⟨h1, h2, h3, h4, h5, h6⟩
    exact ⟨⟨⟨⟨⟨h1, h2⟩, h3⟩, h4⟩, h5⟩, h6⟩
theorem isMat_not {r c : Int} {xs : List Int} (h : ¬ IsM r c xs) : isMat r c xs = false := by
  rw [← Bool.not_eq_true, isMat_iff]; exact h
/-- Cell (i, j) of rows of c cells. -/
def cel (xs : List Int) (c i j : Int) : Int := xs.getD (i * c + j).toNat 0
theorem IsM.nums {r c : Int} {xs : List Int} (h : IsM r c xs) (k : Nat) : -400000000 ≤ xs.getD k 0 ∧ xs.getD k 0 ≤ 400000000 := by
  by_cases hk : k < xs.length
  · have h1 : xs.getD k 0 = xs[k] := by simp [List.getD, hk]
    rw [h1]
    have h2 := List.all_eq_true.1 h.num xs[k] (List.getElem_mem hk)
    exact (isNum_iff _).1 h2
  · have h1 : xs.getD k 0 = 0 := by simp [List.getD, List.getElem?_eq_none (show xs.length ≤ k by omega)]
    rw [h1]; omega
theorem IsM.cel_bd {r c : Int} {xs : List Int} (h : IsM r c xs) (i j : Int) : -400000000 ≤ cel xs c i j ∧ cel xs c i j ≤ 400000000 := h.nums _
/-- An index within the matrix. -/
theorem idx_bd {r c i j : Int} (hr : r ≤ 24) (hc : c ≤ 24) (hi0 : 0 ≤ i) (hi : i < r) (hj0 : 0 ≤ j) (hj : j < c) : 0 ≤ i * c ∧ i * c ≤ 576 ∧ i * c + j < r * c ∧ i * c + c ≤ r * c := by
  obtain ⟨h1, h2⟩ := mul_bd i c 24 24 hi0 (by omega) (by omega) hc
  have h3 : (i + 1) * c ≤ r * c := Int.mul_le_mul_of_nonneg_right (by omega) (by omega)
  rw [Int.add_mul, Int.one_mul] at h3
  exact ⟨h1, by omega, by omega, h3⟩
theorem mul24 {r c : Int} (h0 : 0 ≤ r) (h1 : r ≤ 24) (h2 : 0 ≤ c) (h3 : c ≤ 24) : 0 ≤ r * c ∧ r * c ≤ 576 := by
  obtain ⟨a, b⟩ := mul_bd r c 24 24 h0 h1 h2 h3
  exact ⟨a, by omega⟩
theorem range_all_succ (p : Nat → Bool) (k : Nat) : (List.range (k + 1)).all p = ((List.range k).all p && p k) := by
  rw [List.range_succ, List.all_append]; simp
theorem range_all_false {p : Nat → Bool} {k j : Nat} (hj : j < k) (hp : p j = false) : (List.range k).all p = false := by
  rw [List.all_eq_false]
  exact ⟨j, by simpa using hj, by simp [hp]⟩
theorem nat_of {r : Int} (h : 0 ≤ r) : ∃ R : Nat, r = R := ⟨r.toNat, by omega⟩
end Go.Proofs.Ytlggfmfelakadaa

/-
  DERIVED. The last step from a law's contract to its row: arguments opened, 'post' closed under 'Below'.
-/
namespace Go.Proofs.Ytlggfmfelakadaa
open Go.ChangeShapes Go.WideShapes Go.ChangeAt Go.RowKit Go.Joins
set_option linter.unusedVariables false

theorem own : ownKnob Try.prog.godebug = none := by kernel_rfl
theorem laidOut : laidOutB Try.prog = true := by kernel_rfl

section
variable {H : Type} {enc : TypeId × Value → H} {P : Program}
/-- 'post' of a call that returned, and below whose first heap size nothing has turned. -/
theorem post_below {f : Func} {s : ChangeSpec} {apart fresh handsOn again : Bool} {W W' : World} {args : Array Value} {v : Value} {ds gs : List (DataW H)} {before pa pv : List MemPlace}
    (hW : DataW.Whole enc P f.params.toList s.vars apart W args.toList ds gs before)
    (hres : ∀ (b : Nat) (sp : Nat → Bool) (hd : Bool), DataW.TrodAll enc P W' b sp hd f.resultTypes.toList (v.resultList f.resultTypes.size) (s.fn H (ds ++ gs)).results [])
    (hargs : ∀ sp : Nat → Bool, (∀ p ∈ before, sp p.block = true) → DataW.TrodAll enc P W' 0 sp true f.params.toList args.toList (s.fn H (ds ++ gs)).args pa)
    (hvars : ∀ sp : Nat → Bool, (∀ p ∈ before, sp p.block = true) → DataW.TrodVars enc P W' sp s.vars (s.fn H (ds ++ gs)).vars pv)
    (hps : before = pa ++ pv) (hb : Below W.heap.size W W')
    (hok : ∀ (j : Nat) (t : TypeId) (r : Value), f.resultTypes[j]? = some t → (v.resultList f.resultTypes.size)[j]? = some r → Value.okWide P W' .any 0 t r) :
    s.post enc P f apart fresh handsOn again W args v W' := by
  have hlt : ∀ p ∈ before, p.block < W.heap.size := fun p hp => hW.lt p hp
  have hold : ∀ p ∈ before, (fun b => decide (b < W.heap.size)) p.block = true := fun p hp => by simpa using hlt p hp
  refine ⟨ds, gs, before, [], pa, pv, hW, hres _ _ _, hargs _ hold, hvars _ hold, World.keptBut_mono (fun p hp => ⟨hp, ?_⟩) (hb.frame (· ∈ before)), fun _ => ?_⟩
  · rw [hps, List.mem_append] at hp
    exact Or.inr hp
  · obtain ⟨_, _, _, _, _, hz, hn⟩ := hW
    refine ⟨hok, _, _, ([] ++ pa) ++ pv, ⟨[] ++ pa, pv, trodAll_append (hargs _ (fun _ _ => rfl)) (hres _ _ _), hvars _ (fun _ _ => rfl), rfl, ?_, ?_⟩, ?_⟩
    · intro b off hp
      have hin : MemPlace.cell b off ∈ before := by rw [hps]; simpa using hp
      rw [hb.frozen (hlt _ hin)]
      exact hz b off hin
    · intro ha
      have := hn ha
      rw [hps] at this
      simpa using this
    · intro p hp _
      rw [hps]
      simpa using hp
/-- An argument reads behind the call as it read before it, whatever spare cells are asked for among the old places. -/
theorem same_arg {t : TypeId} (hl : laidOutB P = true) (hr : P.readableRec t = true) (hrow : t < P.types.size) {W W' : World} {v : Value} {d : DataW H} {ps : List MemPlace}
    (h : DataW.Trod enc P W 0 (fun _ => true) true t v d ps) (hb : Below W.heap.size W W') (hlt : ∀ x ∈ ps, x.block < W.heap.size) (sp : Nat → Bool) (hsp : ∀ x ∈ ps, sp x.block = true) :
    DataW.Trod enc P W' 0 sp true t v d ps :=
  WideElems.Trod_stays hl hr hrow h (fun x hx => hb.same (hlt x hx)) hsp
/-- A slice of ints, read. -/
theorem reads_ints {w : World} {base : Nat} {spare : Nat → Bool} {held : Bool} {t e : TypeId} {fuel : Nat} {v : Value} {x : DataW H × List MemPlace}
    (ht : P.underlying t = some (.slice e)) (he : P.underlying e = some (.int .i64)) (hc : P.cellsOf e = 1) (h : DataW.trod enc P w base spare held fuel t [v] = some x)
    (hlt : ∀ p ∈ x.2, p.block < w.heap.size) :
    ∃ A n cap xs, v = .slice A n cap ∧ n ≤ cap ∧ cap ≤ maxLen ∧ RI w w.heap.size A n xs ∧ ∀ z ∈ xs, (Lit.int .i64 z).wf = true := by
  rcases open_ints ht he hc h with ⟨hcs, hx⟩ | ⟨a, len, cap, zs, hcs, hb, hl, hm, hz, hx, hcell, hwf⟩
  · injection hcs with hv
    exact ⟨none, 0, 0, [], hv, Nat.le_refl _, by unfold maxLen; omega, RI.nil_ _ _ _, by simp⟩
  · injection hcs with hv
    have hzl : len ≤ zs.length := by rw [hz]; split <;> omega
    refine ⟨some a, len, cap, zs.take len, hv, hl, hm, ⟨by simp; omega, fun hn => ?_⟩, fun z hz => hwf z (List.mem_of_mem_take hz)⟩
    obtain ⟨b, off, rfl, hc'⟩ := ints_at hcell (by omega)
    refine ⟨b, off, rfl, ?_, fun k hk => ?_⟩
    · have h0 : MemPlace.cell b off ∈ x.2 := by
        rw [hx]
        simp only [MemPlace.row, List.mem_map, List.mem_range]
        exact ⟨0, by omega, rfl⟩
      exact hlt _ h0
    · rw [hc' k (by omega)]
      simp [List.getD, hk]
end
theorem wf_bounds {x : Int} (h : (Lit.int .i64 x).wf = true) : -9223372036854775808 ≤ x ∧ x ≤ 9223372036854775807 := by
  simpa [Lit.wf, IntKind.min, IntKind.max, IntKind.signed, IntKind.bits] using h
end Go.Proofs.Ytlggfmfelakadaa

/-
  DERIVED. The contracts of the reference's marked arithmetic: l1Fit, l1Add, l1Mul.
-/
namespace Go.Proofs.Ytlggfmfelakadaa
open Go.RowKit
set_option linter.unusedVariables false
/-- The mark of a number beyond the limit. -/
def bad : Int := -4611686018427387904
def fit (n : Int) : Int := if isNum n then n else bad
def addB (a b : Int) : Int := if a = bad ∨ b = bad then bad else fit (a + b)
def mulF (a b : Int) : Int := if a = bad ∨ b = bad then bad else fit (a * b)
theorem fit_in {n : Int} (h : -400000000 ≤ n ∧ n ≤ 400000000) : fit n = n := by simp [fit, (isNum_iff n).2 h]
theorem fit_out {n : Int} (h : n < -400000000 ∨ 400000000 < n) : fit n = bad := by simp [fit, (isNum_not n).2 h]
/-- A number within the limit, or the mark. -/
def NB (n : Int) : Prop := n = bad ∨ (-400000000 ≤ n ∧ n ≤ 400000000)
theorem NB.fit (n : Int) : NB (fit n) := by
  by_cases h : -400000000 ≤ n ∧ n ≤ 400000000
  · rw [fit_in h]; exact .inr h
  · rw [fit_out (by omega)]; exact .inl rfl
theorem ne_bad {n : Int} (h : -4000000000000000000 ≤ n) : n ≠ bad := by unfold bad; omega
theorem beq_bad (n : Int) : (n == -4611686018427387904) = decide (n = bad) := rfl

theorem spec_l1Fit (n : Int) (w : World) : Calls Try.prog 105 #[.int .i64 n] w (EV (.int .i64 (fit n)) w) := by
  by_cases h : -400000000 ≤ n ∧ n ≤ 400000000
  · rw [fit_in h]
    obtain ⟨h1, h2⟩ := h
    go_enter Try.func105, Try.ntmps105
    go_wp2_with (first | (go_at_call 101; (first | refine (spec_l1In_yes _ _ _ _ (by omega)).mono ?_ | refine (spec_l1In_no _ _ _ _ (by omega)).mono ?_ | refine (spec_l1In _ _ _ _).mono ?_); rintro e w' ⟨rfl, rfl⟩))
    go_ret
    exact EV.mk rfl
  · rw [fit_out (by omega)]
    have h' : n < -400000000 ∨ 400000000 < n := by omega
    clear h
    rcases h' with h | h
    all_goals
      go_enter Try.func105, Try.ntmps105
      go_wp2_with (first | (go_at_call 101; (first | refine (spec_l1In_yes _ _ _ _ (by omega)).mono ?_ | refine (spec_l1In_no _ _ _ _ (by omega)).mono ?_ | refine (spec_l1In _ _ _ _).mono ?_); rintro e w' ⟨rfl, rfl⟩))
      go_ret
      exact EV.mk rfl

theorem spec_l1Add (a b : Int) (w : World) (ha : NB a) (hb : NB b) : Calls Try.prog 134 #[.int .i64 a, .int .i64 b] w (EV (.int .i64 (addB a b)) w) := by
  unfold addB
  by_cases h1 : a = bad
  · rw [if_pos (.inl h1)]
    have e1 : (a == -4611686018427387904) = true := by rw [beq_bad]; simpa using h1
    clear h1 ha hb
    go_enter Try.func134, Try.ntmps134
    go_wp2
    go_ret
    exact EV.mk rfl
  · have e1 : (a == -4611686018427387904) = false := by rw [beq_bad]; simpa using h1
    by_cases h2 : b = bad
    · rw [if_pos (.inr h2)]
      have e2 : (b == -4611686018427387904) = true := by rw [beq_bad]; simpa using h2
      clear h1 h2 ha hb
      go_enter Try.func134, Try.ntmps134
      go_wp2
      go_ret
      exact EV.mk rfl
    · have e2 : (b == -4611686018427387904) = false := by rw [beq_bad]; simpa using h2
      rw [if_neg (by simp [h1, h2])]
      have ha' := ha.resolve_left h1
      have hb' := hb.resolve_left h2
      clear h1 h2 ha hb
      go_enter Try.func134, Try.ntmps134
      go_wp2_with (go_at_call 105; refine (spec_l1Fit _ _).mono ?_; rintro e w' ⟨rfl, rfl⟩)
      go_ret
      exact EV.mk rfl

theorem spec_l1Mul (a b : Int) (w : World) (ha : NB a) (hb : NB b) : Calls Try.prog 133 #[.int .i64 a, .int .i64 b] w (EV (.int .i64 (mulF a b)) w) := by
  unfold mulF
  by_cases h1 : a = bad
  · rw [if_pos (.inl h1)]
    have e1 : (a == -4611686018427387904) = true := by rw [beq_bad]; simpa using h1
    clear h1 ha hb
    go_enter Try.func133, Try.ntmps133
    go_wp2
    go_ret
    exact EV.mk rfl
  · have e1 : (a == -4611686018427387904) = false := by rw [beq_bad]; simpa using h1
    by_cases h2 : b = bad
    · rw [if_pos (.inr h2)]
      have e2 : (b == -4611686018427387904) = true := by rw [beq_bad]; simpa using h2
      clear h1 h2 ha hb
      go_enter Try.func133, Try.ntmps133
      go_wp2
      go_ret
      exact EV.mk rfl
    · have e2 : (b == -4611686018427387904) = false := by rw [beq_bad]; simpa using h2
      rw [if_neg (by simp [h1, h2])]
      have ha' := ha.resolve_left h1
      have hb' := hb.resolve_left h2
      obtain ⟨c1, c2⟩ := mul_bd4 a b 400000000 400000000 (by omega) (by omega) (by omega) (by omega)
      clear h1 h2 ha hb
      go_enter Try.func133, Try.ntmps133
      go_wp2_with (go_at_call 105; refine (spec_l1Fit _ _).mono ?_; rintro e w' ⟨rfl, rfl⟩)
      go_ret
      exact EV.mk rfl
theorem addB_num {a b : Int} (ha : -400000000 ≤ a ∧ a ≤ 400000000) (hb : -400000000 ≤ b ∧ b ≤ 400000000) : addB a b = fit (a + b) := by
  unfold addB; rw [if_neg]; unfold bad; omega
theorem mulF_num {a b : Int} (ha : -400000000 ≤ a ∧ a ≤ 400000000) (hb : -400000000 ≤ b ∧ b ≤ 400000000) : mulF a b = fit (a * b) := by
  unfold mulF; rw [if_neg]; unfold bad; omega
end Go.Proofs.Ytlggfmfelakadaa

/-
  DERIVED. append of ints onto a slice of the call's own, from whatever source that reads as a list.
-/
namespace Go.Proofs.Ytlggfmfelakadaa
open Go.RowKit
set_option linter.unusedVariables false
theorem ints_one (ys : List Int) : ∀ u ∈ ys.map (Value.int .i64), u.oneCell' = true := by
  intro u hu
  obtain ⟨y, _, rfl⟩ := List.mem_map.1 hu
  rfl
set_option maxRecDepth 100000 in
theorem run_append_ints (w : World) (B : Nat) (ty : TypeId) (v : Value) (xs : List Int) (hown : OR w B v xs) (C : Nat) (A : Option Addr) (m c : Nat) (ys : List Int) (hr : RI w C A m ys)
    (h63 : xs.length + m ≤ 1000000000000) (hbase : B ≤ w.heap.size) :
    ∃ v' w', (Builtin.append_ #[24, 24] ty #[v, .slice A m c]).run Try.prog w = .ok v' w' ∧ OR w' B v' (xs ++ ys) ∧ w.grownBy w' v.ownBlock ∧ (v'.ownBlock = v.ownBlock ∨ v'.ownBlock = some w.heap.size) := by
  obtain ⟨i0, hi, hz0, hz1, hz2⟩ := info_parts int_info
  have hl := hr.len
  have fin : ∀ {v' : Value} {w' : World}, w'.ownsRow B 3 1 v' (xs.length + m) (xs.map (Value.int .i64) ++ ys.map (Value.int .i64)) → OR w' B v' (xs ++ ys) := fun h => by
    unfold OR
    rw [List.map_append, List.length_append, hl]
    exact h
  rcases A with _ | ad
  · have hm : m = 0 := by
      rcases Nat.eq_zero_or_pos m with h0 | h0
      · exact h0
      · obtain ⟨b, o, h, _⟩ := hr.2 h0
        cases h
    subst hm
    have hn : ys = [] := List.eq_nil_of_length_eq_zero hl
    subst hn
    refine ⟨v, w, ?_, by simpa using hown, World.grownBy.refl w _, .inl rfl⟩
    rcases hown.2 with ⟨rfl, hx⟩ | ⟨g, cap, cur, rfl, _, _, hnc, _⟩
    · simp [Builtin.append_, run_underlying Try.underlying24, sizeOf, typeInfo, hi, Builtin.lenOf, Builtin.firstCells]
    · simp [Builtin.append_, run_underlying Try.underlying24, sizeOf, typeInfo, hi, Builtin.lenOf, Builtin.firstCells, hnc, storeCells]
  · have hcells : ∀ j u, (ys.map (Value.int .i64))[j]? = some u → w.cell? (ad.add j) = some u := by
      intro j u hu
      have hj : j < ys.length := by
        have := (List.getElem?_eq_some_iff.1 hu).1
        simpa using this
      obtain ⟨b, o, h, _, hc⟩ := hr.2 (by omega)
      injection h with h
      subst h
      have := hc j (by omega)
      rw [show (⟨b, o, none⟩ : Addr).add j = ⟨b, o + j, none⟩ from Go.WideShapes.add_plain b o j, this]
      simp [hj] at hu
      simp [List.getD, hj, hu]
    obtain ⟨v', w', hrun, h2, h3, _, h5⟩ := run_append_own_at (P := Try.prog) w B 24 ty 3 i0 (.int .i64 0) 1 8 Try.underlying24 hi hz0 hz1 hz2 rfl (by omega) v xs.length (xs.map (Value.int .i64)) hown ad m c (ys.map (Value.int .i64)) (by simp [hl]) hcells (ints_one ys) (by unfold maxLen; omega) (by omega) hbase
    exact ⟨v', w', hrun, fin h2, h3, h5⟩
section
variable (w : World)
theorem wp_append_ints {o : Oper} {a : Act} {K : Act → World → Prop} {Q : Exit → Act → World → Prop} (s x : Operand)
    (ho : o.op = .call { callee := .builtin .append, args := #[s, x], argTypes := #[24, 24] })
    (B : Nat) (v : Value) (xs : List Int) (hs : a.eval s = v) (hown : OR w B v xs) (C : Nat) (A : Option Addr) (m c : Nat) (ys : List Int) (hx : a.eval x = .slice A m c) (hr : RI w C A m ys)
    (h63 : xs.length + m ≤ 1000000000000) (hbase : B ≤ w.heap.size)
    (h : ∀ v' w', OR w' B v' (xs ++ ys) → w.grownBy w' v.ownBlock → (v'.ownBlock = v.ownBlock ∨ v'.ownBlock = some w.heap.size) → K (a.put o.dst v') w') : o.wp Try.prog a w K Q := by
  obtain ⟨v', w', hrun, h2, h3, h4⟩ := run_append_ints w B o.type v xs hown C A m c ys hr h63 hbase
  unfold Oper.wp execOp
  simp only [ho, resolve, invoke, builtin, Sem.run_bind, Sem.run_pure, Result.andThen_ok, List.map_toArray, List.map_cons, List.map_nil, hs, hx, hrun]
  exact h v' w' h2 h3 h4
theorem wpList_append_ints {ops : Array Oper} {rest : List Oper} {o : Oper} {a : Act} {Q : Exit → Act → World → Prop} (hgd : o.guard = none) (s x : Operand)
    (ho : o.op = .call { callee := .builtin .append, args := #[s, x], argTypes := #[24, 24] })
    (B : Nat) (v : Value) (xs : List Int) (hs : a.eval s = v) (hown : OR w B v xs) (C : Nat) (A : Option Addr) (m c : Nat) (ys : List Int) (hx : a.eval x = .slice A m c) (hr : RI w C A m ys)
    (h63 : xs.length + m ≤ 1000000000000) (hbase : B ≤ w.heap.size)
    (h : ∀ v' w', OR w' B v' (xs ++ ys) → w.grownBy w' v.ownBlock → (v'.ownBlock = v.ownBlock ∨ v'.ownBlock = some w.heap.size) → wpList Try.prog ops Q rest (a.put o.dst v') w') : wpList Try.prog ops Q (o :: rest) a w :=
  wpList_plain hgd fun _ hK => wp_append_ints w s x ho B v xs hs hown C A m c ys hx hr h63 hbase fun v' w' h2 h3 h4 => hK _ _ (h v' w' h2 h3 h4)
theorem step_append_ints {ops : Array Oper} {o : Oper} {a : Act} {K : Act → World → Prop} {Q : Exit → Act → World → Prop} {E : Prop} (hgd : o.guard = none) (s x : Operand)
    (ho : o.op = .call { callee := .builtin .append, args := #[s, x], argTypes := #[24, 24] })
    (B : Nat) (v : Value) (xs : List Int) (hs : a.eval s = v) (hown : OR w B v xs) (C : Nat) (A : Option Addr) (m c : Nat) (ys : List Int) (hx : a.eval x = .slice A m c) (hr : RI w C A m ys)
    (h63 : xs.length + m ≤ 1000000000000) (hbase : B ≤ w.heap.size)
    (h : ∀ v' w', OR w' B v' (xs ++ ys) → w.grownBy w' v.ownBlock → (v'.ownBlock = v.ownBlock ∨ v'.ownBlock = some w.heap.size) → K (a.put o.dst v') w') :
    if Region.wanted o (yielded ops a.tmps) = true then Oper.wp Try.prog o a w K Q else E := by
  have hw : Region.wanted o (yielded ops a.tmps) = true := by simp [Region.wanted, hgd]
  rw [if_pos hw]
  exact wp_append_ints w s x ho B v xs hs hown C A m c ys hx hr h63 hbase h
end
/-- An empty slice of the call's own, just laid. -/
theorem OR.empty (w : World) {B : Nat} (hB : B ≤ w.heap.size) : OR (w.alloc (.cells #[] 3)) B (.slice (some ⟨w.heap.size, 0, none⟩) 0 0) [] :=
  World.ownsRow_made (base := B) (e := 3) (size := 1) w #[] 0 hB (by unfold maxLen; omega) rfl
theorem OR.empty' (w : World) (g : Nat) (hg : g = w.heap.size) {B : Nat} (hB : B ≤ w.heap.size) : OR (w.alloc (.cells #[] 3)) B (.slice (some ⟨g, 0, none⟩) 0 0) [] := by
  subst hg; exact OR.empty w hB
end Go.Proofs.Ytlggfmfelakadaa

/-
  DERIVED. The contracts of the laws' helpers on slices of ints: toIntS, eqIntS, szIntS, markIntS, heldIntS.
-/
namespace Go.Proofs.Ytlggfmfelakadaa
open Go.RowKit
set_option linter.unusedVariables false
/-- The first k numbers, zeros behind them. -/
def fillTo (xs : List Int) (n k : Nat) : List Int := xs.take k ++ List.replicate (n - k) 0
theorem fillTo_len {xs : List Int} {n k : Nat} (hx : xs.length = n) (hk : k ≤ n) : (fillTo xs n k).length = n := by simp [fillTo]; omega
theorem fillTo_zero (xs : List Int) (n : Nat) : fillTo xs n 0 = List.replicate n 0 := by simp [fillTo]
theorem fillTo_all {xs : List Int} {n : Nat} (hx : xs.length = n) : fillTo xs n n = xs := by simp [fillTo, ← hx]
theorem fillTo_set {xs : List Int} {n k : Nat} (hx : xs.length = n) (hk : k < n) : (fillTo xs n k).set k (xs.getD k 0) = fillTo xs n (k + 1) := by
  apply List.ext_getElem?
  intro i
  unfold fillTo
  grind

/-- The call returned a slice of its own that holds ys. -/
def SV (ys : List Int) (w : World) (e : Ending) (w' : World) : Prop := ∃ g, e = .returned (.slice (some ⟨g, 0, none⟩) ys.length ys.length) ∧ OR w' w.heap.size (.slice (some ⟨g, 0, none⟩) ys.length ys.length) ys ∧ Below w.heap.size w w'

theorem laws_toIntS (A : Option Addr) (n cap : Nat) (xs : List Int) (w : World) {C : Nat} (h0' : RI w C A n xs) (hC : C ≤ w.heap.size) (hn : n ≤ 1048576) :
    Calls Try.prog 27 #[.slice A n cap] w (SV xs w) := by
  have h := h0'.more hC
  clear h0' hC
  obtain ⟨i0, hi, hz0, hz1, hz2⟩ := info_parts int_info
  go_enter Try.func27, Try.ntmps27
  go_wp2_with (at_make; refine wpList_make_full _ rfl _ _ 24 rfl w.heap.size 3 i0 (.int .i64 0) 1 Try.underlying24 hi hz0 hz1 _ _ _ _ n rfl rfl rfl rfl ?b2 ?b3 (Nat.le_refl _) ?_)
  case b2 => rw [hz2]; omega
  case b3 => unfold maxLen; omega
  intro w0 hown0 hgrow0
  have h0 := OR.of_made hown0
  clear hown0
  go_wp2
  go_loopw [4] (fun v wr => ∃ k : Nat, v = .int .i64 k ∧ k ≤ n ∧ OR wr w.heap.size (.slice (some ⟨w.heap.size, 0, none⟩) n n) (fillTo xs n k) ∧ Below w.heap.size w wr) (fun v _ => n - (intOf v).toNat)
  case atStart => exact ⟨0, rfl, Nat.zero_le _, by rw [fillTo_zero]; exact h0, (Below.refl _ _).grown hgrow0 (Nat.le_refl _) (by simp)⟩
  case round =>
    obtain ⟨k, rfl, hk, hown, hbw⟩ := hrel
    have hlen := h.len
    by_cases hlt : k < n
    · obtain ⟨b, o, rfl, hbb, hcells⟩ := h.2 (by omega)
      have hcx := (hbw.cell (p := ⟨b, o + k, none⟩) hbb).trans (hcells k hlt)
      have hfl := fillTo_len hlen hk
      have hc1 := hown.cell k (by omega)
      have hf1 := hown.frozen k
      have hset := hown.set_ k (xs.getD k 0)
      rw [fillTo_set hlen hlt] at hset
      clear hcells
      go_wp2
      go_roundw
      case rel => exact ⟨k + 1, by go_num, by omega, by simpa [hlen, hlt] using hset, hbw.setCell (by simp) _⟩
      case measure => simp only [intOf]; omega
    · go_wp2
      go_ret
      obtain rfl : k = n := by omega
      rw [fillTo_all hlen] at hown
      exact ⟨w.heap.size, by rw [hlen]; rfl, by rw [hlen]; exact hown, hbw⟩

theorem laws_szIntS (A : Option Addr) (n cap : Nat) (left : Int) (w : World) (hn : n ≤ 9223372036854775807) (h0 : -1 ≤ left) (h1 : left ≤ 1048576) :
    Calls Try.prog 72 #[.slice A n cap, .int .i64 left] w (EV (.int .i64 (if left < n then -1 else left - n)) w) := by
  by_cases h : left < n
  · rw [if_pos h]
    go_enter Try.func72, Try.ntmps72
    go_wp2
    go_ret
    exact EV.mk rfl
  · rw [if_neg h]
    go_enter Try.func72, Try.ntmps72
    go_wp2
    go_ret
    exact EV.mk rfl

def eqB (xs ys : List Int) : Bool := decide (xs = ys)
theorem getD_some {xs : List Int} {k : Nat} (h : k < xs.length) : xs[k]? = some (xs.getD k 0) := by simp [List.getD, h]
theorem take_next {xs ys : List Int} {k : Nat} (h : k < xs.length) (h' : k < ys.length) (ht : xs.take k = ys.take k) (he : xs.getD k 0 = ys.getD k 0) : xs.take (k + 1) = ys.take (k + 1) := by
  rw [List.take_add_one, List.take_add_one, ht, getD_some h, getD_some h', he]
set_option maxHeartbeats 400000 in
theorem laws_eqIntS (A B : Option Addr) (n m c d : Nat) (xs ys : List Int) (w : World) {C C' : Nat} (h : RI w C A n xs) (h' : RI w C' B m ys) (hn : n ≤ 9223372036854775807) (hm : m ≤ 9223372036854775807) :
    Calls Try.prog 31 #[.slice A n c, .slice B m d] w (DV (.bool (eqB xs ys)) w) := by
  have hlx := h.len
  have hly := h'.len
  by_cases hnm : n = m
  · subst hnm
    have H := Lib.hid h
    have H' := Lib.hid h'
    clear h h'
    have hb : ((n : Int) != (n : Int)) = false := by simp
    go_enter Try.func31, Try.ntmps31
    go_wp2
    go_loopw [5] (fun v wr => ∃ k nd : Nat, v = .int .i64 k ∧ k ≤ n ∧ xs.take k = ys.take k ∧ wr = w.drewN nd) (fun v _ => n - (intOf v).toNat)
    case atStart => exact ⟨0, 0, rfl, Nat.zero_le _, by simp, rfl⟩
    case round =>
      obtain ⟨k, nd, rfl, hk, heq0, rfl⟩ := hrel
      have heq := Lib.hid heq0
      clear heq0
      by_cases hlt : k < n
      · obtain ⟨b, o, rfl, hbb, hcells⟩ := H.out.2 (by omega)
        obtain ⟨b', o', rfl, hbb', hcells'⟩ := H'.out.2 (by omega)
        have c1 := hcells k hlt
        have c2 := hcells' k hlt
        clear hcells hcells'
        have hkx : k < xs.length := by omega
        have hky : k < ys.length := by omega
        by_cases he : xs.getD k 0 = ys.getD k 0
        · have hnext := Lib.hid (take_next hkx hky heq.out he)
          have heb : (xs.getD k 0 != ys.getD k 0) = false := by simp only [bne_eq_false_iff_eq]; exact he
          clear he
          generalize xs.getD k 0 = x at c1 heb
          generalize ys.getD k 0 = y at c2 heb
          go_wp2
          go_region
          all_goals go_wp2
          go_roundw
          case rel => exact ⟨k + 1, nd + 1, by go_num, by omega, hnext.out, rfl⟩
          case measure => simp only [intOf]; omega
        · have hne : eqB xs ys = false := by
            unfold eqB
            rw [decide_eq_false_iff_not]
            intro e
            exact he (by rw [e])
          have heb : (xs.getD k 0 != ys.getD k 0) = true := by simp only [bne_iff_ne, ne_eq]; exact he
          clear he
          generalize xs.getD k 0 = x at c1 heb
          generalize ys.getD k 0 = y at c2 heb
          go_wp2
          go_region
          all_goals go_wp2
          go_ret
          exact DV.mk (nd + 1) (vbool hne.symm)
      · have hall : eqB xs ys = true := by
          unfold eqB
          have := heq.out
          rw [List.take_of_length_le (by omega), List.take_of_length_le (by omega)] at this
          simpa using this
        go_wp2
        go_ret
        exact DV.mk nd (vbool hall.symm)
  · have hb : ((n : Int) != (m : Int)) = true := by simp; omega
    have hne : eqB xs ys = false := by
      unfold eqB
      rw [decide_eq_false_iff_not]
      intro e
      rw [e] at hlx
      omega
    go_enter Try.func31, Try.ntmps31
    go_wp2
    go_ret
    exact DV.mk0 (vbool hne.symm)

/-- n numbers from k on. -/
def iota (k : Int) (n : Nat) : List Int := (List.range n).map fun (i : Nat) => k + (i : Int)
theorem iota_len (k : Int) (n : Nat) : (iota k n).length = n := by simp [iota]
def marked (xs : List Int) (k : Int) (j : Nat) : List Int := iota k j ++ xs.drop j
theorem marked_len {xs : List Int} {k : Int} {j : Nat} (h : j ≤ xs.length) : (marked xs k j).length = xs.length := by simp [marked, iota_len]; omega
theorem marked_zero (xs : List Int) (k : Int) : marked xs k 0 = xs := by simp [marked, iota]
theorem marked_all (xs : List Int) (k : Int) : marked xs k xs.length = iota k xs.length := by simp [marked]
theorem marked_set {xs : List Int} {k : Int} {j : Nat} (h : j < xs.length) : (marked xs k j).set j (k + j) = marked xs k (j + 1) := by
  unfold marked
  rw [List.set_append_right _ _ (by rw [iota_len]; exact Nat.le_refl _), iota_len, Nat.sub_self]
  rw [List.drop_eq_getElem_cons h, List.set_cons_zero]
  simp [iota, List.range_succ]
theorem iota_getD {k : Int} {n j : Nat} (h : j < n) : (iota k n).getD j 0 = k + j := by simp [iota, List.getD, h]
/-- The call returned v, having written just the block of a slice of the call's own, which now holds ys. -/
def WV (r : Value) (sv : Value) (B : Nat) (ys : List Int) (w : World) (e : Ending) (w' : World) : Prop :=
  e = .returned r ∧ OR w' B sv ys ∧ w.grownBy w' sv.ownBlock

theorem laws_markIntS (A : Option Addr) (n cap : Nat) (xs : List Int) (k : Int) (w : World) (B : Nat) (h : OR w B (.slice A n cap) xs) (hn : n = xs.length) (hn2 : n ≤ 1048576) (hk0 : 0 ≤ k) (hk1 : k ≤ 1000000000000) :
    Calls Try.prog 33 #[.slice A n cap, .int .i64 k] w (WV (.int .i64 (k + n)) (.slice A n cap) B (iota k n) w) := by
  rcases h.form with ⟨h1, h2⟩ | ⟨g, cap', h1, hg1, hg2, _⟩
  · injection h1 with e1 e2 e3
    subst e1; subst e2; subst e3; subst h2
    clear hn hn2
    go_enter Try.func33, Try.ntmps33
    go_wp2
    go_rounds 1
    go_ret
    exact ⟨ret_int (show k = k + (0 : Nat) by omega), h, World.grownBy.refl w _⟩
  · injection h1 with e1 e2 e3
    subst e1; subst e3
    have hle1 : n ≤ xs.length := by omega
    have hle2 : xs.length ≤ n := by omega
    have Hn := Lib.hid hn
    clear hn
    go_enter Try.func33, Try.ntmps33
    go_wp2
    go_loopw [1, 5] (fun u v wr => ∃ j : Nat, u = .int .i64 (k + j) ∧ v = .int .i64 j ∧ j ≤ n ∧ OR wr B (.slice (some ⟨g, 0, none⟩) n cap) (marked xs k j) ∧ w.grownBy wr (some g)) (fun _ v _ => n - (intOf v).toNat)
    case atStart => exact ⟨0, by simp, rfl, Nat.zero_le _, by rw [marked_zero]; exact h, World.grownBy.refl w _⟩
    case round =>
      obtain ⟨j, rfl, rfl, hj, hown, hgr⟩ := hrel
      have hml := marked_len (xs := xs) (k := k) (j := j) (by omega)
      by_cases hlt : j < n
      · have hc1 := hown.cell j (by omega)
        have hf1 := hown.frozen j
        have hset := hown.set_ j (k + j)
        rw [marked_set (by omega)] at hset
        go_wp2
        go_roundw
        case rel => exact ⟨j + 1, by go_num, by go_num, by omega, hset, only_set hgr _ _⟩
        case measure => simp only [intOf]; omega
      · obtain rfl : j = n := by omega
        have hown' : OR wr B (.slice (some ⟨g, 0, none⟩) j cap) (iota k j) := by
          have := hown
          rw [Hn.out, marked_all] at this
          rw [Hn.out]; exact this
        go_wp2
        go_ret
        exact ⟨rfl, hown', hgr⟩

end Go.Proofs.Ytlggfmfelakadaa

/-
  DERIVED. The contracts of the laws' helpers on matrices: toMatrix, szMatrix, eqMatrix, markMatrix, heldMatrix.
-/
namespace Go.Proofs.Ytlggfmfelakadaa
open Go.RowKit
set_option linter.unusedVariables false
/-- The call returned a matrix whose cells are its own. -/
def MV (r c : Int) (ys : List Int) (w : World) (e : Ending) (w' : World) : Prop :=
  ∃ A n cap, e = .returned (.agg #[.int .i64 r, .int .i64 c, .slice A n cap]) ∧ n = ys.length ∧ OR w' w.heap.size (.slice A n cap) ys ∧ Below w.heap.size w w'

theorem laws_toMatrix (r c : Int) (A : Option Addr) (n cap : Nat) (xs : List Int) (w : World) {C : Nat} (h0' : RI w C A n xs) (hC : C ≤ w.heap.size) (hn : n ≤ 1048576) :
    Calls Try.prog 26 #[.agg #[.int .i64 r, .int .i64 c, .slice A n cap]] w (MV r c xs w) := by
  have H := Lib.hid (h0'.more hC)
  clear h0' hC
  go_enter Try.func26, Try.ntmps26
  go_wp2_with fail
  refine (laws_toIntS A n cap xs _ (C := w.heap.size) ?_ (by simp; omega) hn).mono ?_
  · (with_reducible (repeat (first | exact H.out | refine RI.drew ?_ | refine RI.drewN ?_ _ | refine RI.a_ ?_ | refine RI.s_ ?_ | refine RI.b_ ?_)))
  rintro e w1 ⟨g, rfl, hown, hb⟩
  have hz := hb.size; (try simp at hz); have kk := bkeep (w := w) hb Ks; obtain ⟨kc, kf⟩ := kk; (try (have kk := bkeepb (w.heap.size) hb Ks; obtain ⟨kc0, kf0, kl0⟩ := kk)); (try (have kk := bkeepb (w.heap.size + 1) hb Ks; obtain ⟨kc1, kf1, kl1⟩ := kk)); (try (have kk := bkeepb (w.heap.size + 1 + 1) hb Ks; obtain ⟨kc2, kf2, kl2⟩ := kk)); (try (have kk := bkeepb (w.heap.size + 1 + 1 + 1) hb Ks; obtain ⟨kc3, kf3, kl3⟩ := kk)); (try (have kk := bkeepb (wr.heap.size) hb Ks; obtain ⟨kr0, ks0, kt0⟩ := kk)); (try (have kk := bkeepb (wr.heap.size + 1) hb Ks; obtain ⟨kr1, ks1, kt1⟩ := kk)); (try (have kk := bkeepb (wr.heap.size + 1 + 1) hb Ks; obtain ⟨kr2, ks2, kt2⟩ := kk))
  go_wp2
  refine bodyPost_ret (v := .agg #[.int .i64 r, .int .i64 c, .slice (some ⟨g, 0, none⟩) xs.length xs.length]) (by simp [results, Try.results26, go_sem, kc1]) rfl ?_
  refine ⟨some ⟨g, 0, none⟩, _, _, rfl, rfl, ?_, Kw⟩
  have hown' : OR w1 (w.heap.size + 1 + 1 + 1) (.slice (some ⟨g, 0, none⟩) xs.length xs.length) xs := by simpa using hown
  refine OR.mono ?_ (show w.heap.size ≤ w.heap.size + 1 + 1 + 1 by omega)
  (with_reducible (repeat (first | exact hown' | refine OR.drew ?_ | refine OR.drewN ?_ _ | refine OR.alloc ?_ _ | refine OR.b_ ?_ | refine OR.l_ ?_)))

theorem laws_szMatrix (r c : Int) (A : Option Addr) (n cap : Nat) (w : World) (hn : n ≤ 9223372036854775807) :
    Calls Try.prog 24 #[.agg #[.int .i64 r, .int .i64 c, .slice A n cap], .int .i64 1048576] w (BV (.int .i64 (if 1048576 < n then -1 else 1048576 - n)) w) := by
  by_cases h : 1048576 < n
  · rw [if_pos h]
    have e : (if (1048576 : Int) < n then -1 else (1048576 : Int) - n) = -1 := if_pos (by omega)
    go_enter Try.func24, Try.ntmps24
    go_wp2_with (go_at_call 72; refine (laws_szIntS _ _ _ _ _ hn (by omega) (by omega)).mono ?_; rw [e]; rintro e w' ⟨rfl, rfl⟩)
    go_ret
    exact BV.mk rfl Kw
  · rw [if_neg h]
    have e : (if (1048576 : Int) < n then -1 else (1048576 : Int) - n) = 1048576 - n := if_neg (by omega)
    go_enter Try.func24, Try.ntmps24
    go_wp2_with (go_at_call 72; refine (laws_szIntS _ _ _ _ _ hn (by omega) (by omega)).mono ?_; rw [e]; rintro e w' ⟨rfl, rfl⟩)
    go_ret
    exact BV.mk rfl Kw

def eqM (r c r' c' : Int) (xs ys : List Int) : Bool := decide (r = r') && decide (c = c') && eqB xs ys
theorem laws_eqMatrix (r c r' c' : Int) (A B : Option Addr) (n m ca cb : Nat) (xs ys : List Int) (w : World) {C C' : Nat} (h : RI w C A n xs) (h' : RI w C' B m ys) (hn : n ≤ 9223372036854775807) (hm : m ≤ 9223372036854775807) (hC : C ≤ w.heap.size) (hC' : C' ≤ w.heap.size) :
    Calls Try.prog 30 #[.agg #[.int .i64 r, .int .i64 c, .slice A n ca], .agg #[.int .i64 r', .int .i64 c', .slice B m cb]] w (BV (.bool (eqM r c r' c' xs ys)) w) := by
  have H := Lib.hid h
  have H' := Lib.hid h'
  clear h h'
  by_cases hr : r = r'
  · subst hr
    by_cases hc : c = c'
    · subst hc
      have e : eqM r c r c xs ys = eqB xs ys := by simp [eqM]
      rw [e]
      clear e
      have b1 : (r != r) = false := by simp
      have b2 : (c != c) = false := by simp
      go_enter Try.func30, Try.ntmps30
      go_wp2_with (go_at_call 31; refine (laws_eqIntS _ _ _ _ _ _ xs ys _ ((H.out.alloc hC _).alloc (by simp; omega) _) ((H'.out.alloc hC' _).alloc (by simp; omega) _) hn hm).mono ?_; rintro e w' ⟨rfl, nd, rfl⟩)
      all_goals go_ret
      · exact BV.mk (vbool (by simp_all)) Kw
      · exact BV.mk (vbool (by simp_all)) Kw
    · have e : eqM r c r c' xs ys = false := by simp [eqM, hc]
      rw [e]
      have b1 : (r != r) = false := by simp
      have b2 : (c != c') = true := by simpa using hc
      go_enter Try.func30, Try.ntmps30
      go_wp2
      go_ret
      exact BV.mk rfl Kw
  · have e : eqM r c r' c' xs ys = false := by simp [eqM, hr]
    rw [e]
    have b1 : (r != r') = true := by simpa using hr
    go_enter Try.func30, Try.ntmps30
    go_wp2
    go_ret
    exact BV.mk rfl Kw

theorem laws_markMatrix (r c : Int) (A : Option Addr) (n cap : Nat) (xs : List Int) (k : Int) (w : World) (B : Nat) (h : OR w B (.slice A n cap) xs) (hn : n = xs.length) (hn2 : n ≤ 1048576) (hk0 : 0 ≤ k) (hk1 : k ≤ 1000000000000) :
    Calls Try.prog 32 #[.agg #[.int .i64 r, .int .i64 c, .slice A n cap], .int .i64 k] w (WV (.int .i64 (k + n)) (.slice A n cap) B (iota k n) w) := by
  have Hn := Lib.hid hn
  clear hn
  go_enter Try.func32, Try.ntmps32
  go_wp2_with (go_at_call 33; refine (laws_markIntS A n cap xs k _ B (h.alloc _) Hn.out hn2 hk0 hk1).mono ?_; rintro e w1 ⟨rfl, hown, hgr⟩)
  go_ret
  exact ⟨rfl, hown, only_trans (World.grownBy_alloc _ _ _) hgr⟩

end Go.Proofs.Ytlggfmfelakadaa

/-
  DERIVED. Small words on owned slices and struct boxes.
-/
namespace Go.Proofs.Ytlggfmfelakadaa
open Go.RowKit
set_option linter.unusedVariables false
theorem OR.nil_ (w : World) (B : Nat) : OR w B (.slice none 0 0) [] := World.ownsRow_nil w B _ _
/-- An owned slice that holds something begins a block. -/
theorem OR.begins {w : World} {B n cap : Nat} {A : Option Addr} {xs : List Int} (h : OR w B (.slice A n cap) xs) (hp : 0 < xs.length) : ∃ g, A = some ⟨g, 0, none⟩ ∧ B ≤ g ∧ g < w.heap.size := by
  rcases h.form with ⟨h1, h2⟩ | ⟨g, cap', h1, h2, h3, _⟩
  · subst h2; simp at hp
  · injection h1 with e1 e2 e3
    exact ⟨g, e1, h2, h3⟩
theorem OR.lenEq {w : World} {B n cap : Nat} {A : Option Addr} {xs : List Int} (h : OR w B (.slice A n cap) xs) : n = xs.length := by
  rcases h.form with ⟨h1, h2⟩ | ⟨g, cap', h1, h2, h3, _⟩
  · injection h1 with e1 e2 e3
    subst h2; exact e2
  · injection h1
theorem OR.as {w : World} {B : Nat} {v : Value} {xs ys : List Int} (h : OR w B v xs) (e : xs = ys) : OR w B v ys := e ▸ h
theorem still_EV {P : Program} {f : FuncId} {args : Array Value} {w : World} {v : Value} (h : Calls P f args w (EV v w)) : Calls P f args w fun e w'' => e = .returned v ∧ w'' = w :=
  h.mono fun _ _ ⟨he, hw⟩ => ⟨he, hw.symm⟩
theorem still_ev {P : Program} {f : FuncId} {args : Array Value} {w : World} {v : Value} (h : Calls P f args w fun e w'' => e = .returned v ∧ w = w'') : Calls P f args w fun e w'' => e = .returned v ∧ w'' = w :=
  h.mono fun _ _ ⟨he, hw⟩ => ⟨he, hw.symm⟩
/-- Block b is a variable (of struct type t) that holds this matrix. -/
def BX (t : TypeId) (w : World) (b : Nat) (r c : Int) (A : Option Addr) (n cap : Nat) : Prop := Blk w b t #[.int .i64 r, .int .i64 c, .slice A n cap]
/-- Block b is a variable of three cells. -/
def B3 (t : TypeId) (w : World) (b : Nat) : Prop := ∃ v0 v1 v2 : Value, Blk w b t #[v0, v1, v2]
abbrev BM := BX 26
abbrev BL := BX 44
/-- The block that the slice value owns, if any, lies from lo on and below hi. -/
def Own (v : Value) (lo hi : Nat) : Prop := ∀ g, v.ownBlock = some g → lo ≤ g ∧ g < hi
theorem OR.own {w : World} {B : Nat} {v : Value} {xs : List Int} (h : OR w B v xs) : Own v B w.heap.size := by
  intro g hg
  rcases h.form with ⟨h1, h2⟩ | ⟨g', cap', h1, h2, h3, _⟩
  · subst h1; cases hg
  · subst h1
    have e : g' = g := by simpa [Value.ownBlock] using hg
    subst e; exact ⟨h2, h3⟩
theorem Own.wide {v : Value} {lo hi lo' hi' : Nat} (h : Own v lo hi) (h1 : lo' ≤ lo) (h2 : hi ≤ hi') : Own v lo' hi' := fun g hg => by have := h g hg; omega
theorem OR.keptOwn {w w' : World} {B : Nat} {v sv : Value} {xs : List Int} {lo hi lo' hi' : Nat} (h : OR w B v xs) (hg : w.grownBy w' sv.ownBlock) (a : Own v lo hi) (b : Own sv lo' hi') (hd : hi ≤ lo' ∨ hi' ≤ lo) : OR w' B v xs := by
  refine h.kept hg ?_
  cases h1 : v.ownBlock with
  | none => exact .inl rfl
  | some g =>
    refine .inr fun e => ?_
    have h2 := a g h1
    have h3 := b g e.symm
    omega
theorem RI.keptOwn {w w' : World} {B n : Nat} {A : Option Addr} {sv : Value} {xs : List Int} {lo hi : Nat} (h : RI w B A n xs) (hg : w.grownBy w' sv.ownBlock) (b : Own sv lo hi) (hB : B ≤ lo) (hB' : B ≤ w.heap.size) : RI w' B A n xs :=
  h.grown hg hB' fun g e => by have := b g e; omega
theorem below_keptOwn {w w' : World} {B : Nat} {sv : Value} {lo hi : Nat} (hg : w.grownBy w' sv.ownBlock) (b : Own sv lo hi) (hB : B ≤ lo) (hB' : B ≤ w.heap.size) : Below B w w' :=
  only_below hg hB' fun g e => by have := b g e; omega
section
variable {w w' : World} {t : TypeId} {b n cap B : Nat} {r c : Int} {A : Option Addr}
theorem BX.mx (h : BX t w b r c A n cap) : w.cell? ⟨b, 0, none⟩ = some (.int .i64 r) ∧ w.cell? ⟨b, 1, none⟩ = some (.int .i64 c) ∧ w.cell? ⟨b, 2, none⟩ = some (.slice A n cap) ∧ (∀ o, w.frozen? ⟨b, o, none⟩ = false) ∧ b < w.heap.size :=
  ⟨Blk.cell h 0, Blk.cell h 1, Blk.cell h 2, Blk.frozen h, Blk.lt h⟩
theorem BX.new (w : World) (t : TypeId) (r c : Int) (A : Option Addr) (n cap : Nat) (b : Nat) (hb : b = w.heap.size) : BX t (w.alloc (.cells #[.int .i64 r, .int .i64 c, .slice A n cap] t)) b r c A n cap := by
  subst hb; exact Blk.new w _ _
theorem BX.drew (h : BX t w b r c A n cap) : BX t w.drew b r c A n cap := h
theorem BX.drewN (h : BX t w b r c A n cap) (k : Nat) : BX t (w.drewN k) b r c A n cap := h
theorem BX.alloc (h : BX t w b r c A n cap) (o : Obj) : BX t (w.alloc o) b r c A n cap := Blk.alloc h o
theorem BX.far (h : BX t w b r c A n cap) {p : Addr} (hp : b ≠ p.block) (u : Value) : BX t (w.setCell p u) b r c A n cap := Blk.far h hp u
theorem BX.below (h : BX t w b r c A n cap) (hb : Below B w w') (hg : b < B) : BX t w' b r c A n cap := Blk.below h hb hg
theorem BX.grown {row : Option Nat} (h : BX t w b r c A n cap) (hb : w.grownBy w' row) (hg : some b ≠ row) : BX t w' b r c A n cap := Blk.grown h hb hg
theorem BX.keptOwn {sv : Value} {lo hi : Nat} (h : BX t w b r c A n cap) (hg : w.grownBy w' sv.ownBlock) (o : Own sv lo hi) (hd : b < lo ∨ hi ≤ b) : BX t w' b r c A n cap :=
  h.grown hg fun e => by have := o b e.symm; omega
theorem BX.lt (h : BX t w b r c A n cap) : b < w.heap.size := Blk.lt h
theorem B3.of (h : BX t w b r c A n cap) : B3 t w b := ⟨_, _, _, h⟩
theorem B3.new (w : World) (t : TypeId) (v0 v1 v2 : Value) (b : Nat) (hb : b = w.heap.size) : B3 t (w.alloc (.cells #[v0, v1, v2] t)) b := by
  subst hb; exact ⟨v0, v1, v2, Blk.new w _ _⟩
theorem B3.drew (h : B3 t w b) : B3 t w.drew b := h
theorem B3.drewN (h : B3 t w b) (k : Nat) : B3 t (w.drewN k) b := h
theorem B3.alloc (h : B3 t w b) (o : Obj) : B3 t (w.alloc o) b := let ⟨_, _, _, k⟩ := h; ⟨_, _, _, Blk.alloc k o⟩
theorem B3.far (h : B3 t w b) {p : Addr} (hp : b ≠ p.block) (u : Value) : B3 t (w.setCell p u) b := let ⟨_, _, _, k⟩ := h; ⟨_, _, _, Blk.far k hp u⟩
theorem B3.below (h : B3 t w b) (hb : Below B w w') (hg : b < B) : B3 t w' b := let ⟨_, _, _, k⟩ := h; ⟨_, _, _, Blk.below k hb hg⟩
theorem B3.grown {row : Option Nat} (h : B3 t w b) (hb : w.grownBy w' row) (hg : some b ≠ row) : B3 t w' b := let ⟨_, _, _, k⟩ := h; ⟨_, _, _, Blk.grown k hb hg⟩
theorem BX.put (h : B3 t w b) : BX t (((w.setCell ⟨b, 0, none⟩ (.int .i64 r)).setCell ⟨b, 1, none⟩ (.int .i64 c)).setCell ⟨b, 2, none⟩ (.slice A n cap)) b r c A n cap := by
  obtain ⟨_, _, _, k⟩ := h
  exact (((Blk.set_ k 0 (.int .i64 r)).set_ 1 (.int .i64 c)).set_ 2 (.slice A n cap)).as rfl
theorem BX.put2 (h : BX t w b r c A n cap) {A' : Option Addr} {n' cap' : Nat} : BX t (w.setCell ⟨b, 2, none⟩ (.slice A' n' cap')) b r c A' n' cap' := (Blk.set_ h 2 _).as rfl
theorem BX.n_ {w : World} {t : TypeId} {r c : Int} {A : Option Addr} {n cap b : Nat} (hb : b = w.heap.size := by first | omega | (simp; done) | (simp; omega)) : BX t (w.alloc (.cells #[.int .i64 r, .int .i64 c, .slice A n cap] t)) b r c A n cap := BX.new w t r c A n cap b hb
theorem BX.b_ {w w' : World} {t : TypeId} {b n cap B : Nat} {r c : Int} {A : Option Addr} (h : BX t w b r c A n cap) (hb : Below B w w' := by assumption) (hg : b < B := by first | omega | (simp; done) | (simp; omega)) : BX t w' b r c A n cap := BX.below h hb hg
theorem BX.f_ {w : World} {t : TypeId} {b n cap : Nat} {r c : Int} {A : Option Addr} {p : Addr} {u : Value} (h : BX t w b r c A n cap) (hp : b ≠ p.block := by simp only [ne_eq]; omega) : BX t (w.setCell p u) b r c A n cap := BX.far h hp u
theorem B3.n_ {w : World} {t : TypeId} {v0 v1 v2 : Value} {b : Nat} (hb : b = w.heap.size := by first | omega | (simp; done) | (simp; omega)) : B3 t (w.alloc (.cells #[v0, v1, v2] t)) b := B3.new w t v0 v1 v2 b hb
theorem B3.b_ {w w' : World} {t : TypeId} {b B : Nat} (h : B3 t w b) (hb : Below B w w' := by assumption) (hg : b < B := by first | omega | (simp; done) | (simp; omega)) : B3 t w' b := B3.below h hb hg
theorem B3.f_ {w : World} {t : TypeId} {b : Nat} {p : Addr} {u : Value} (h : B3 t w b) (hp : b ≠ p.block := by simp only [ne_eq]; omega) : B3 t (w.setCell p u) b := B3.far h hp u
theorem Kb {P Q : Prop} (h : Q) (k : Q → P := by intro h; (with_reducible (repeat (first | exact h | refine BX.n_ | refine BX.b_ ?_ | apply BX.drew | apply BX.drewN | refine BX.put ?_ | refine BX.put2 ?_ | refine BX.f_ ?_ | apply BX.alloc | refine B3.n_ | exact B3.of h | refine B3.b_ ?_ | apply B3.drew | apply B3.drewN | refine B3.f_ ?_ | apply B3.alloc)))) : P := k h
theorem Ka {P : Prop} (h : P := by (with_reducible (repeat (first | assumption | refine BX.n_ | refine BX.b_ ?_ | apply BX.drew | apply BX.drewN | refine BX.put ?_ | refine BX.put2 ?_ | refine BX.f_ ?_ | apply BX.alloc | refine B3.n_ | refine B3.of (by assumption) | refine B3.b_ ?_ | apply B3.drew | apply B3.drewN | refine B3.f_ ?_ | apply B3.alloc)))) : P := h
end
/-- A function that returns a matrix, out of its variable b. -/
theorem ret_M {fn : Func} {R : Ending → World → Prop} {a : Act} {w : World} {t : Tmp} {b n cap : Nat} {r c : Int} {A : Option Addr} (hr : fn.results = #[.cell t 26])
    (ht : a.tmps.getD t undef = .pointer (some ⟨b, 0, none⟩)) (h : BM w b r c A n cap) (hd : a.defers = []) (hR : R (.returned (.agg #[.int .i64 r, .int .i64 c, .slice A n cap])) w) : bodyPost Try.prog fn R .ret a w :=
  bodyPost_ret (v := .agg #[.int .i64 r, .int .i64 c, .slice A n cap]) (by
    obtain ⟨r0, r1, r2, rf, rl⟩ := h.mx
    have ht' := ht
    simp only [Array.getD_eq_getD_getElem?] at ht'
    simp [results, hr, ht', go_sem, r0, r1, r2]) hd hR
theorem ret_MB {fn : Func} {R : Ending → World → Prop} {a : Act} {w : World} {t s : Tmp} {b n cap : Nat} {r c : Int} {A : Option Addr} (hr : fn.results = #[.cell t 26, .tmp s])
    (ht : a.tmps.getD t undef = .pointer (some ⟨b, 0, none⟩)) (h : BM w b r c A n cap) (hd : a.defers = []) (hR : R (.returned (.tuple #[.agg #[.int .i64 r, .int .i64 c, .slice A n cap], a.tmps.getD s undef])) w) : bodyPost Try.prog fn R .ret a w :=
  bodyPost_ret (v := .tuple #[.agg #[.int .i64 r, .int .i64 c, .slice A n cap], a.tmps.getD s undef]) (by
    obtain ⟨r0, r1, r2, rf, rl⟩ := h.mx
    have ht' := ht
    simp only [Array.getD_eq_getD_getElem?] at ht'
    simp [results, hr, ht', go_sem, r0, r1, r2]) hd hR
/-- A matrix: rows, columns, cells. -/
structure Mx where
  r : Int
  c : Int
  xs : List Int
def Mx.none : Mx := ⟨0, 0, []⟩
/-- The call returned this matrix, its cells its own. -/
def MR (m : Mx) (w : World) (e : Ending) (w' : World) : Prop :=
  ∃ A n cap, e = .returned (.agg #[.int .i64 m.r, .int .i64 m.c, .slice A n cap]) ∧ OR w' w.heap.size (.slice A n cap) m.xs ∧ Below w.heap.size w w'
/-- The call returned this matrix, its cells its own, and the flag. -/
def MBR (m : Mx) (b : Bool) (w : World) (e : Ending) (w' : World) : Prop :=
  ∃ A n cap, e = .returned (.tuple #[.agg #[.int .i64 m.r, .int .i64 m.c, .slice A n cap], .bool b]) ∧ OR w' w.heap.size (.slice A n cap) m.xs ∧ Below w.heap.size w w'
theorem MBR.mk {m : Mx} {b : Bool} {r c : Int} {xs : List Int} {A : Option Addr} {n cap : Nat} {w w' : World} (hm : m = ⟨r, c, xs⟩) (ho : OR w' w.heap.size (.slice A n cap) xs) (hb : Below w.heap.size w w') :
    MBR m b w (.returned (.tuple #[.agg #[.int .i64 r, .int .i64 c, .slice A n cap], .bool b])) w' := by
  subst hm; exact ⟨A, n, cap, rfl, ho, hb⟩
theorem MR.mk {m : Mx} {r c : Int} {xs : List Int} {A : Option Addr} {n cap : Nat} {w w' : World} (hm : m = ⟨r, c, xs⟩) (ho : OR w' w.heap.size (.slice A n cap) xs) (hb : Below w.heap.size w w') :
    MR m w (.returned (.agg #[.int .i64 r, .int .i64 c, .slice A n cap])) w' := by
  subst hm; exact ⟨A, n, cap, rfl, ho, hb⟩
theorem MR.of_MV {r c : Int} {xs : List Int} {w w' : World} {e : Ending} (h : MV r c xs w e w') : MR ⟨r, c, xs⟩ w e w' := by
  obtain ⟨A, n, cap, h1, h2, h3, h4⟩ := h
  exact ⟨A, n, cap, h1, h3, h4⟩
end Go.Proofs.Ytlggfmfelakadaa

/-
  DERIVED. The contracts of copyMatrix and l3Copy.
-/
namespace Go.Proofs.Ytlggfmfelakadaa
open Go.RowKit
set_option linter.unusedVariables false
theorem impl_copyMatrix (r c : Int) (A : Option Addr) (n cap : Nat) (xs : List Int) (w : World) {B : Nat} (h : RI w B A n xs) (hB : B ≤ w.heap.size) (hn : n ≤ 1048576) :
    Calls Try.prog 47 #[.agg #[.int .i64 r, .int .i64 c, .slice A n cap]] w (MV r c xs w) := by
  have H2 := Lib.hid (h.more hB)
  clear h
  go_enter Try.func47, Try.ntmps47
  go_wp2_with (at_builtin; refine wpList_append_ints _ rfl (.tmp 3) (.tmp 5) rfl (w.heap.size + 1 + 1) _ [] rfl ?c1 w.heap.size A n cap xs rfl ?c2 ?c3 ?c4 ?_; rotate_right; intro v1 w1 hown hgr hat; simp only [List.nil_append] at hown; go_loud (obtain ⟨g, cap1, rfl, hg1, hg2⟩ := hown.notNil hat); go_loud (have hb1 : Below (w.heap.size + 1 + 1) _ w1 := only_below hgr Ks (by intro g h; cases h; exact Nat.le_refl _)); obtain ⟨k0, f0, l0⟩ := bkeepB w.heap.size hb1 (by omega) Ks; obtain ⟨k1, f1, l1⟩ := bkeepB (w.heap.size + 1) hb1 (by omega) Ks; clear hgr hat; have k00 : w1.cell? ⟨w.heap.size, 0, none⟩ = some (.int .i64 r) := by { rw [k0]; simp [go_sem] }; have k01 : w1.cell? ⟨w.heap.size, 1, none⟩ = some (.int .i64 c) := by { rw [k0]; simp [go_sem] }; have k02 : w1.cell? ⟨w.heap.size, 2, none⟩ = some (.slice A n cap) := by { rw [k0]; simp [go_sem] }; have k10 : w1.cell? ⟨w.heap.size + 1, 0, none⟩ = some (.int .i64 0) := by { rw [k1]; simp [go_sem] }; have k11 : w1.cell? ⟨w.heap.size + 1, 1, none⟩ = some (.int .i64 0) := by { rw [k1]; simp [go_sem] }; have k12 : w1.cell? ⟨w.heap.size + 1, 2, none⟩ = some (.slice none 0 0) := by { rw [k1]; simp [go_sem] }; clear k0 k1)
  case c1 => exact OR.empty' _ (w.heap.size + 1 + 1) (by simp) Ks
  case c2 => (with_reducible (repeat (first | exact H2.out | refine RI.drew ?_ | refine RI.drewN ?_ _ | refine RI.a_ ?_ | refine RI.s_ ?_ | refine RI.b_ ?_)))
  case c3 => first | omega | (simp; omega)
  case c4 => exact Ks
  have hbw : Below w.heap.size w w1 := by
    refine Below.trans ?_ (hb1.mono (by omega))
    (repeat (first | (with_reducible (first | exact Below.refl _ _ | assumption | refine below_drewN ?_ _ | refine Below.drew ?_ | refine Below.alloc ?_ ?_ _ | refine Below.setCell ?_ ?_ _ | refine below_i ?_)) | go_size))
  refine bodyPost_ret (v := .agg #[.int .i64 r, .int .i64 c, .slice (some ⟨g, 0, none⟩) xs.length cap1]) (by simp [results, Try.results47, go_sem, k10, k11, k12]) rfl ?_
  refine ⟨some ⟨g, 0, none⟩, _, cap1, rfl, rfl, OR.mono (B := w.heap.size + 1 + 1) ?_ (by omega), Kw⟩
  have hown' : OR w1 (w.heap.size + 1 + 1) (.slice (some ⟨g, 0, none⟩) xs.length cap1) xs := by simpa using hown
  (with_reducible (repeat (first | exact hown' | refine OR.drew ?_ | refine OR.drewN ?_ _ | refine OR.alloc ?_ _ | refine OR.b_ ?_ | refine OR.l_ ?_)))
end Go.Proofs.Ytlggfmfelakadaa

/-
  DERIVED. append of one int onto a slice of the call's own.
-/
namespace Go.Proofs.Ytlggfmfelakadaa
open Go.RowKit
set_option linter.unusedVariables false
theorem RI.one {w : World} {g : Nat} {y : Int} (hc : w.cell? ⟨g, 0, none⟩ = some (.int .i64 y)) : RI w (g + 1) (some ⟨g, 0, none⟩) 1 [y] :=
  ⟨rfl, fun _ => ⟨g, 0, rfl, by omega, fun k hk => by
    obtain rfl : k = 0 := by omega
    simpa using hc⟩⟩
/-- Two slice values own no block in common. -/
def Apart (v v' : Value) : Prop := ∀ g, v.ownBlock = some g → v'.ownBlock ≠ some g
theorem Apart.symm {v v' : Value} (h : Apart v v') : Apart v' v := fun g h1 h2 => h g h2 h1
theorem Apart.ne {v v' : Value} (h : Apart v v') : v.ownBlock = none ∨ v.ownBlock ≠ v'.ownBlock := by
  cases h1 : v.ownBlock with
  | none => exact .inl rfl
  | some g => exact .inr fun e => h g h1 e.symm
theorem Apart.of_own {v v' : Value} {lo hi lo' hi' : Nat} (a : Own v lo hi) (b : Own v' lo' hi') (hd : hi ≤ lo' ∨ hi' ≤ lo) : Apart v v' := fun g h1 h2 => by
  have := a g h1; have := b g h2; omega
/-- Behind an append: the new value is apart from whatever the old one was apart from and that was there. -/
theorem Apart.grown {v v' u : Value} {w : World} {B : Nat} {us : List Int} (h : Apart v u) (hu : OR w B u us) (hat : v'.ownBlock = v.ownBlock ∨ v'.ownBlock = some w.heap.size) : Apart v' u := fun g h1 h2 => by
  rcases hat with e | e
  · exact h g (e ▸ h1) h2
  · have h3 := (hu.own g h2).2
    rw [e] at h1
    injection h1 with h1
    omega
theorem OR.ne_low {w : World} {B b : Nat} {v : Value} {xs : List Int} (h : OR w B v xs) (hb : b < B) : some b ≠ v.ownBlock := fun e => by
  have := (h.own b e.symm).1; omega
theorem OR.below_grown {w w' : World} {B : Nat} {v : Value} {xs : List Int} (h : OR w B v xs) (hg : w.grownBy w' v.ownBlock) (hB : B ≤ w.heap.size) : Below B w w' :=
  only_below hg hB fun g e => (h.own g e).1
section
variable (w : World)
theorem wpList_append_one {ops : Array Oper} {rest : List Oper} {o : Oper} {a : Act} {Q : Exit → Act → World → Prop} (hgd : o.guard = none) (s x : Operand)
    (ho : o.op = .call { callee := .builtin .append, args := #[s, x], argTypes := #[24, 24] })
    (B : Nat) (v : Value) (xs : List Int) (hs : a.eval s = v) (hown : OR w B v xs) (g : Nat) (y : Int) (hx : a.eval x = .slice (some ⟨g, 0, none⟩) 1 1) (hc : w.cell? ⟨g, 0, none⟩ = some (.int .i64 y))
    (h63 : xs.length ≤ 100000000000) (hbase : B ≤ w.heap.size)
    (h : ∀ v' w', OR w' B v' (xs ++ [y]) → w.grownBy w' v.ownBlock → (v'.ownBlock = v.ownBlock ∨ v'.ownBlock = some w.heap.size) → wpList Try.prog ops Q rest (a.put o.dst v') w') : wpList Try.prog ops Q (o :: rest) a w :=
  wpList_append_ints w hgd s x ho B v xs hs hown (g + 1) (some ⟨g, 0, none⟩) 1 1 [y] hx (RI.one hc) (by omega) hbase h
theorem step_append_one {ops : Array Oper} {o : Oper} {a : Act} {K : Act → World → Prop} {Q : Exit → Act → World → Prop} {E : Prop} (hgd : o.guard = none) (s x : Operand)
    (ho : o.op = .call { callee := .builtin .append, args := #[s, x], argTypes := #[24, 24] })
    (B : Nat) (v : Value) (xs : List Int) (hs : a.eval s = v) (hown : OR w B v xs) (g : Nat) (y : Int) (hx : a.eval x = .slice (some ⟨g, 0, none⟩) 1 1) (hc : w.cell? ⟨g, 0, none⟩ = some (.int .i64 y))
    (h63 : xs.length ≤ 100000000000) (hbase : B ≤ w.heap.size)
    (h : ∀ v' w', OR w' B v' (xs ++ [y]) → w.grownBy w' v.ownBlock → (v'.ownBlock = v.ownBlock ∨ v'.ownBlock = some w.heap.size) → K (a.put o.dst v') w') :
    if Region.wanted o (yielded ops a.tmps) = true then Oper.wp Try.prog o a w K Q else E :=
  step_append_ints w hgd s x ho B v xs hs hown (g + 1) (some ⟨g, 0, none⟩) 1 1 [y] hx (RI.one hc) (by omega) hbase h
end
end Go.Proofs.Ytlggfmfelakadaa

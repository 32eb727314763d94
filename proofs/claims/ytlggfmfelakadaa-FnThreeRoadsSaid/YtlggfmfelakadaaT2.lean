/-
  DERIVED. Several small texts in one: Own, Copy, CopyS, Append2.
-/
import Derived.Test.YtlggfmfelakadaaT1
import Derived.Deep.RegionLaw
/-
  DERIVED. Small words on owned slices and struct boxes.
-/
namespace Go.Proofs.Ytlggfmfelakadaa
open Go.RowKit
set_option linter.unusedVariables false
theorem OR.nil_ (w : World) (B : Nat) : OR w B (.slice none 0 0) [] := World.ownsRow_nil w B _ _
/-- An owned slice that holds something begins a block. -/
theorem OR.begins {w : World} {B n cap : Nat} {A : Option Addr} {xs : List Int} (h : OR w B (.slice A n cap) xs) (hp : 0 < xs.length) : ∃ g, A = some ⟨g, 0, none⟩ ∧ B ≤ g ∧ g < w.heap.size := by
  rcases h.form with ⟨h1, h2⟩ | ⟨g, cap', h1, h2, h3, _⟩
  · subst h2; simp at hp
  · injection h1 with e1 e2 e3
    exact ⟨g, e1, h2, h3⟩
theorem OR.lenEq {w : World} {B n cap : Nat} {A : Option Addr} {xs : List Int} (h : OR w B (.slice A n cap) xs) : n = xs.length := by
  rcases h.form with ⟨h1, h2⟩ | ⟨g, cap', h1, h2, h3, _⟩
  · injection h1 with e1 e2 e3
    subst h2; exact e2
  · injection h1
theorem OR.as {w : World} {B : Nat} {v : Value} {xs ys : List Int} (h : OR w B v xs) (e : xs = ys) : OR w B v ys := e ▸ h
theorem still_EV {P : Program} {f : FuncId} {args : Array Value} {w : World} {v : Value} (h : Calls P f args w (EV v w)) : Calls P f args w fun e w'' => e = .returned v ∧ w'' = w :=
  h.mono fun _ _ ⟨he, hw⟩ => ⟨he, hw.symm⟩
theorem still_ev {P : Program} {f : FuncId} {args : Array Value} {w : World} {v : Value} (h : Calls P f args w fun e w'' => e = .returned v ∧ w = w'') : Calls P f args w fun e w'' => e = .returned v ∧ w'' = w :=
  h.mono fun _ _ ⟨he, hw⟩ => ⟨he, hw.symm⟩
/-- Block b is a variable (of struct type t) that holds this matrix. -/
def BX (t : TypeId) (w : World) (b : Nat) (r c : Int) (A : Option Addr) (n cap : Nat) : Prop := Blk w b t #[.int .i64 r, .int .i64 c, .slice A n cap]
/-- Block b is a variable of three cells. -/
def B3 (t : TypeId) (w : World) (b : Nat) : Prop := ∃ v0 v1 v2 : Value, Blk w b t #[v0, v1, v2]
abbrev BM := BX 26
abbrev BL := BX 44
/-- The block that the slice value owns, if any, lies from lo on and below hi. -/
def Own (v : Value) (lo hi : Nat) : Prop := ∀ g, v.ownBlock = some g → lo ≤ g ∧ g < hi
theorem OR.own {w : World} {B : Nat} {v : Value} {xs : List Int} (h : OR w B v xs) : Own v B w.heap.size := by
  intro g hg
  rcases h.form with ⟨h1, h2⟩ | ⟨g', cap', h1, h2, h3, _⟩
  · subst h1; cases hg
  · subst h1
    have e : g' = g := by simpa [Value.ownBlock] using hg
    subst e; exact ⟨h2, h3⟩
theorem Own.wide {v : Value} {lo hi lo' hi' : Nat} (h : Own v lo hi) (h1 : lo' ≤ lo) (h2 : hi ≤ hi') : Own v lo' hi' := fun g hg => by have := h g hg; omega
theorem OR.keptOwn {w w' : World} {B : Nat} {v sv : Value} {xs : List Int} {lo hi lo' hi' : Nat} (h : OR w B v xs) (hg : w.grownBy w' sv.ownBlock) (a : Own v lo hi) (b : Own sv lo' hi') (hd : hi ≤ lo' ∨ hi' ≤ lo) : OR w' B v xs := by
  refine h.kept hg ?_
  cases h1 : v.ownBlock with
  | none => exact .inl rfl
  | some g =>
    refine .inr fun e => ?_
    have h2 := a g h1
    have h3 := b g e.symm
    omega
theorem RI.keptOwn {w w' : World} {B n : Nat} {A : Option Addr} {sv : Value} {xs : List Int} {lo hi : Nat} (h : RI w B A n xs) (hg : w.grownBy w' sv.ownBlock) (b : Own sv lo hi) (hB : B ≤ lo) (hB' : B ≤ w.heap.size) : RI w' B A n xs :=
  h.grown hg hB' fun g e => by have := b g e; omega
theorem below_keptOwn {w w' : World} {B : Nat} {sv : Value} {lo hi : Nat} (hg : w.grownBy w' sv.ownBlock) (b : Own sv lo hi) (hB : B ≤ lo) (hB' : B ≤ w.heap.size) : Below B w w' :=
  only_below hg hB' fun g e => by have := b g e; omega
section
variable {w w' : World} {t : TypeId} {b n cap B : Nat} {r c : Int} {A : Option Addr}
theorem BX.mx (h : BX t w b r c A n cap) : w.cell? ⟨b, 0, none⟩ = some (.int .i64 r) ∧ w.cell? ⟨b, 1, none⟩ = some (.int .i64 c) ∧ w.cell? ⟨b, 2, none⟩ = some (.slice A n cap) ∧ (∀ o, w.frozen? ⟨b, o, none⟩ = false) ∧ b < w.heap.size :=
  ⟨Blk.cell h 0, Blk.cell h 1, Blk.cell h 2, Blk.frozen h, Blk.lt h⟩
theorem BX.new (w : World) (t : TypeId) (r c : Int) (A : Option Addr) (n cap : Nat) (b : Nat) (hb : b = w.heap.size) : BX t (w.alloc (.cells #[.int .i64 r, .int .i64 c, .slice A n cap] t)) b r c A n cap := by
  subst hb; exact Blk.new w _ _
theorem BX.drew (h : BX t w b r c A n cap) : BX t w.drew b r c A n cap := h
theorem BX.drewN (h : BX t w b r c A n cap) (k : Nat) : BX t (w.drewN k) b r c A n cap := h
theorem BX.alloc (h : BX t w b r c A n cap) (o : Obj) : BX t (w.alloc o) b r c A n cap := Blk.alloc h o
theorem BX.far (h : BX t w b r c A n cap) {p : Addr} (hp : b ≠ p.block) (u : Value) : BX t (w.setCell p u) b r c A n cap := Blk.far h hp u
theorem BX.below (h : BX t w b r c A n cap) (hb : Below B w w') (hg : b < B) : BX t w' b r c A n cap := Blk.below h hb hg
theorem BX.grown {row : Option Nat} (h : BX t w b r c A n cap) (hb : w.grownBy w' row) (hg : some b ≠ row) : BX t w' b r c A n cap := Blk.grown h hb hg
theorem BX.keptOwn {sv : Value} {lo hi : Nat} (h : BX t w b r c A n cap) (hg : w.grownBy w' sv.ownBlock) (o : Own sv lo hi) (hd : b < lo ∨ hi ≤ b) : BX t w' b r c A n cap :=
  h.grown hg fun e => by have := o b e.symm; omega
theorem BX.lt (h : BX t w b r c A n cap) : b < w.heap.size := Blk.lt h
theorem B3.of (h : BX t w b r c A n cap) : B3 t w b := ⟨_, _, _, h⟩
theorem B3.new (w : World) (t : TypeId) (v0 v1 v2 : Value) (b : Nat) (hb : b = w.heap.size) : B3 t (w.alloc (.cells #[v0, v1, v2] t)) b := by
  subst hb; exact ⟨v0, v1, v2, Blk.new w _ _⟩
theorem B3.drew (h : B3 t w b) : B3 t w.drew b := h
theorem B3.drewN (h : B3 t w b) (k : Nat) : B3 t (w.drewN k) b := h
theorem B3.alloc (h : B3 t w b) (o : Obj) : B3 t (w.alloc o) b := let ⟨_, _, _, k⟩ := h; ⟨_, _, _, Blk.alloc k o⟩
theorem B3.far (h : B3 t w b) {p : Addr} (hp : b ≠ p.block) (u : Value) : B3 t (w.setCell p u) b := let ⟨_, _, _, k⟩ := h; ⟨_, _, _, Blk.far k hp u⟩
theorem B3.below (h : B3 t w b) (hb : Below B w w') (hg : b < B) : B3 t w' b := let ⟨_, _, _, k⟩ := h; ⟨_, _, _, Blk.below k hb hg⟩
theorem B3.grown {row : Option Nat} (h : B3 t w b) (hb : w.grownBy w' row) (hg : some b ≠ row) : B3 t w' b := let ⟨_, _, _, k⟩ := h; ⟨_, _, _, Blk.grown k hb hg⟩
theorem BX.put (h : B3 t w b) : BX t (((w.setCell ⟨b, 0, none⟩ (.int .i64 r)).setCell ⟨b, 1, none⟩ (.int .i64 c)).setCell ⟨b, 2, none⟩ (.slice A n cap)) b r c A n cap := by
  obtain ⟨_, _, _, k⟩ := h
  exact (((Blk.set_ k 0 (.int .i64 r)).set_ 1 (.int .i64 c)).set_ 2 (.slice A n cap)).as rfl
theorem BX.put2 (h : BX t w b r c A n cap) {A' : Option Addr} {n' cap' : Nat} : BX t (w.setCell ⟨b, 2, none⟩ (.slice A' n' cap')) b r c A' n' cap' := (Blk.set_ h 2 _).as rfl
theorem BX.n_ {w : World} {t : TypeId} {r c : Int} {A : Option Addr} {n cap b : Nat} (hb : b = w.heap.size := by first | omega | (simp; done) | (simp; omega)) : BX t (w.alloc (.cells #[.int .i64 r, .int .i64 c, .slice A n cap] t)) b r c A n cap := BX.new w t r c A n cap b hb
theorem BX.b_ {w w' : World} {t : TypeId} {b n cap B : Nat} {r c : Int} {A : Option Addr} (h : BX t w b r c A n cap) (hb : Below B w w' := by assumption) (hg : b < B := by first | omega | (simp; done) | (simp; omega)) : BX t w' b r c A n cap := BX.below h hb hg
theorem BX.f_ {w : World} {t : TypeId} {b n cap : Nat} {r c : Int} {A : Option Addr} {p : Addr} {u : Value} (h : BX t w b r c A n cap) (hp : b ≠ p.block := by simp only [ne_eq]; omega) : BX t (w.setCell p u) b r c A n cap := BX.far h hp u
theorem B3.n_ {w : World} {t : TypeId} {v0 v1 v2 : Value} {b : Nat} (hb : b = w.heap.size := by first | omega | (simp; done) | (simp; omega)) : B3 t (w.alloc (.cells #[v0, v1, v2] t)) b := B3.new w t v0 v1 v2 b hb
theorem B3.b_ {w w' : World} {t : TypeId} {b B : Nat} (h : B3 t w b) (hb : Below B w w' := by assumption) (hg : b < B := by first | omega | (simp; done) | (simp; omega)) : B3 t w' b := B3.below h hb hg
theorem B3.f_ {w : World} {t : TypeId} {b : Nat} {p : Addr} {u : Value} (h : B3 t w b) (hp : b ≠ p.block := by simp only [ne_eq]; omega) : B3 t (w.setCell p u) b := B3.far h hp u
theorem Kb {P Q : Prop} (h : Q) (k : Q → P := by intro h; (with_reducible (repeat (first | exact h | refine BX.n_ | refine BX.b_ ?_ | apply BX.drew | apply BX.drewN | refine BX.put ?_ | refine BX.put2 ?_ | refine BX.f_ ?_ | apply BX.alloc | refine B3.n_ | exact B3.of h | refine B3.b_ ?_ | apply B3.drew | apply B3.drewN | refine B3.f_ ?_ | apply B3.alloc)))) : P := k h
theorem Ka {P : Prop} (h : P := by (with_reducible (repeat (first | assumption | refine BX.n_ | refine BX.b_ ?_ | apply BX.drew | apply BX.drewN | refine BX.put ?_ | refine BX.put2 ?_ | refine BX.f_ ?_ | apply BX.alloc | refine B3.n_ | refine B3.of (by assumption) | refine B3.b_ ?_ | apply B3.drew | apply B3.drewN | refine B3.f_ ?_ | apply B3.alloc)))) : P := h
end
/-- A function that returns a matrix, out of its variable b. -/
theorem ret_M {fn : Func} {R : Ending → World → Prop} {a : Act} {w : World} {t : Tmp} {b n cap : Nat} {r c : Int} {A : Option Addr} (hr : fn.results = #[.cell t 26])
    (ht : a.tmps.getD t undef = .pointer (some ⟨b, 0, none⟩)) (h : BM w b r c A n cap) (hd : a.defers = []) (hR : R (.returned (.agg #[.int .i64 r, .int .i64 c, .slice A n cap])) w) : bodyPost Try.prog fn R .ret a w :=
  bodyPost_ret (v := .agg #[.int .i64 r, .int .i64 c, .slice A n cap]) (by
    obtain ⟨r0, r1, r2, rf, rl⟩ := h.mx
    have ht' := ht
    simp only [Array.getD_eq_getD_getElem?] at ht'
    simp [results, hr, ht', go_sem, r0, r1, r2]) hd hR
theorem ret_MB {fn : Func} {R : Ending → World → Prop} {a : Act} {w : World} {t s : Tmp} {b n cap : Nat} {r c : Int} {A : Option Addr} (hr : fn.results = #[.cell t 26, .tmp s])
    (ht : a.tmps.getD t undef = .pointer (some ⟨b, 0, none⟩)) (h : BM w b r c A n cap) (hd : a.defers = []) (hR : R (.returned (.tuple #[.agg #[.int .i64 r, .int .i64 c, .slice A n cap], a.tmps.getD s undef])) w) : bodyPost Try.prog fn R .ret a w :=
  bodyPost_ret (v := .tuple #[.agg #[.int .i64 r, .int .i64 c, .slice A n cap], a.tmps.getD s undef]) (by
    obtain ⟨r0, r1, r2, rf, rl⟩ := h.mx
    have ht' := ht
    simp only [Array.getD_eq_getD_getElem?] at ht'
    simp [results, hr, ht', go_sem, r0, r1, r2]) hd hR
/-- A matrix: rows, columns, cells. -/
structure Mx where
  r : Int
  c : Int
  xs : List Int
def Mx.none : Mx := ⟨0, 0, []⟩
/-- The call returned this matrix, its cells its own. -/
def MR (m : Mx) (w : World) (e : Ending) (w' : World) : Prop :=
  ∃ A n cap, e = .returned (.agg #[.int .i64 m.r, .int .i64 m.c, .slice A n cap]) ∧ OR w' w.heap.size (.slice A n cap) m.xs ∧ Below w.heap.size w w'
/-- The call returned this matrix, its cells its own, and the flag. -/
def MBR (m : Mx) (b : Bool) (w : World) (e : Ending) (w' : World) : Prop :=
  ∃ A n cap, e = .returned (.tuple #[.agg #[.int .i64 m.r, .int .i64 m.c, .slice A n cap], .bool b]) ∧ OR w' w.heap.size (.slice A n cap) m.xs ∧ Below w.heap.size w w'
theorem MBR.mk {m : Mx} {b : Bool} {r c : Int} {xs : List Int} {A : Option Addr} {n cap : Nat} {w w' : World} (hm : m = ⟨r, c, xs⟩) (ho : OR w' w.heap.size (.slice A n cap) xs) (hb : Below w.heap.size w w') :
    MBR m b w (.returned (.tuple #[.agg #[.int .i64 r, .int .i64 c, .slice A n cap], .bool b])) w' := by
  subst hm; exact ⟨A, n, cap, rfl, ho, hb⟩
theorem MR.mk {m : Mx} {r c : Int} {xs : List Int} {A : Option Addr} {n cap : Nat} {w w' : World} (hm : m = ⟨r, c, xs⟩) (ho : OR w' w.heap.size (.slice A n cap) xs) (hb : Below w.heap.size w w') :
    MR m w (.returned (.agg #[.int .i64 r, .int .i64 c, .slice A n cap])) w' := by
  subst hm; exact ⟨A, n, cap, rfl, ho, hb⟩
theorem MR.of_MV {r c : Int} {xs : List Int} {w w' : World} {e : Ending} (h : MV r c xs w e w') : MR ⟨r, c, xs⟩ w e w' := by
  obtain ⟨A, n, cap, h1, h2, h3, h4⟩ := h
  exact ⟨A, n, cap, h1, h3, h4⟩
end Go.Proofs.Ytlggfmfelakadaa

/-
  DERIVED. The contracts of copyMatrix and l3Copy.
-/
namespace Go.Proofs.Ytlggfmfelakadaa
open Go.RowKit
set_option linter.unusedVariables false
theorem impl_copyMatrix (r c : Int) (A : Option Addr) (n cap : Nat) (xs : List Int) (w : World) {B : Nat} (h : RI w B A n xs) (hB : B ≤ w.heap.size) (hn : n ≤ 1048576) :
    Calls Try.prog 47 #[.agg #[.int .i64 r, .int .i64 c, .slice A n cap]] w (MV r c xs w) := by
  have H2 := Lib.hid (h.more hB)
  clear h
  go_enter Try.func47, Try.ntmps47
  go_wp2_with (at_builtin; refine wpList_append_ints _ rfl (.tmp 3) (.tmp 5) rfl (w.heap.size + 1 + 1) _ [] rfl ?c1 w.heap.size A n cap xs rfl ?c2 ?c3 ?c4 ?_; rotate_right; intro v1 w1 hown hgr hat; simp only [List.nil_append] at hown; go_loud (obtain ⟨g, cap1, rfl, hg1, hg2⟩ := hown.notNil hat); go_loud (have hb1 : Below (w.heap.size + 1 + 1) _ w1 := only_below hgr Ks (by intro g h; cases h; exact Nat.le_refl _)); obtain ⟨k0, f0, l0⟩ := bkeepB w.heap.size hb1 (by omega) Ks; obtain ⟨k1, f1, l1⟩ := bkeepB (w.heap.size + 1) hb1 (by omega) Ks; clear hgr hat; have k00 : w1.cell? ⟨w.heap.size, 0, none⟩ = some (.int .i64 r) := by { rw [k0]; simp [go_sem] }; have k01 : w1.cell? ⟨w.heap.size, 1, none⟩ = some (.int .i64 c) := by { rw [k0]; simp [go_sem] }; have k02 : w1.cell? ⟨w.heap.size, 2, none⟩ = some (.slice A n cap) := by { rw [k0]; simp [go_sem] }; have k10 : w1.cell? ⟨w.heap.size + 1, 0, none⟩ = some (.int .i64 0) := by { rw [k1]; simp [go_sem] }; have k11 : w1.cell? ⟨w.heap.size + 1, 1, none⟩ = some (.int .i64 0) := by { rw [k1]; simp [go_sem] }; have k12 : w1.cell? ⟨w.heap.size + 1, 2, none⟩ = some (.slice none 0 0) := by { rw [k1]; simp [go_sem] }; clear k0 k1)
  case c1 => exact OR.empty' _ (w.heap.size + 1 + 1) (by simp) Ks
  case c2 => (with_reducible (repeat (first | exact H2.out | refine RI.drew ?_ | refine RI.drewN ?_ _ | refine RI.a_ ?_ | refine RI.s_ ?_ | refine RI.b_ ?_)))
  case c3 => first | omega | (simp; omega)
  case c4 => exact Ks
  have hbw : Below w.heap.size w w1 := by
    refine Below.trans ?_ (hb1.mono (by omega))
    (repeat (first | (with_reducible (first | exact Below.refl _ _ | assumption | refine below_drewN ?_ _ | refine Below.drew ?_ | refine Below.alloc ?_ ?_ _ | refine Below.setCell ?_ ?_ _ | refine below_i ?_)) | go_size))
  refine bodyPost_ret (v := .agg #[.int .i64 r, .int .i64 c, .slice (some ⟨g, 0, none⟩) xs.length cap1]) (by simp [results, Try.results47, go_sem, k10, k11, k12]) rfl ?_
  refine ⟨some ⟨g, 0, none⟩, _, cap1, rfl, rfl, OR.mono (B := w.heap.size + 1 + 1) ?_ (by omega), Kw⟩
  have hown' : OR w1 (w.heap.size + 1 + 1) (.slice (some ⟨g, 0, none⟩) xs.length cap1) xs := by simpa using hown
  (with_reducible (repeat (first | exact hown' | refine OR.drew ?_ | refine OR.drewN ?_ _ | refine OR.alloc ?_ _ | refine OR.b_ ?_ | refine OR.l_ ?_)))
end Go.Proofs.Ytlggfmfelakadaa

/-
  DERIVED. The contract of l3Copy.
-/
namespace Go.Proofs.Ytlggfmfelakadaa
open Go.RowKit
set_option linter.unusedVariables false
set_option maxHeartbeats 4000000 in
theorem spec_l3Copy (r c : Int) (A : Option Addr) (n cap : Nat) (xs : List Int) (w : World) {B : Nat} (h : RI w B A n xs) (hB : B ≤ w.heap.size) (hn : n ≤ 1048576) :
    Calls Try.prog 118 #[.agg #[.int .i64 r, .int .i64 c, .slice A n cap]] w (MV r c xs w) := by
  have H2 := Lib.hid (h.more hB)
  clear h
  go_enter Try.func118, Try.ntmps118
  go_wp2
  go_region_held3 (fun w' => w'.cell? ⟨w.heap.size, 0, none⟩ = some (.int .i64 r) ∧ w'.cell? ⟨w.heap.size, 1, none⟩ = some (.int .i64 c) ∧ w'.cell? ⟨w.heap.size, 2, none⟩ = some (.slice A n cap)) (first | go_keep | exact ⟨k00, k01, k02⟩) ((refine step_append_ints _ rfl (.tmp 7) (.tmp 9) rfl (w.heap.size + 1 + 1) _ [] rfl (by exact OR.drew (OR.empty' _ (w.heap.size + 1 + 1) (by simp) Ks)) w.heap.size A n cap xs rfl (Kr H2.out) (by first | omega | (simp; omega)) (by exact Ks) ?_; intro v1 w1 hown hgr hat; simp only [List.nil_append] at hown; go_loud (obtain ⟨g, cap1, rfl, hg1, hg2⟩ := hown.notNil hat); go_loud (have hb1 : Below (w.heap.size + 1 + 1) _ w1 := only_below hgr Ks (by intro g h; cases h; exact Nat.le_refl _)); obtain ⟨k0, f0, l0⟩ := bkeepB w.heap.size hb1 (by omega) Ks; obtain ⟨k1, f1, l1⟩ := bkeepB (w.heap.size + 1) hb1 (by omega) Ks; clear hgr hat; have k00 : w1.cell? ⟨w.heap.size, 0, none⟩ = some (.int .i64 r) := (k0 _).trans (by first | rfl | (simp [go_sem]; done)); have k01 : w1.cell? ⟨w.heap.size, 1, none⟩ = some (.int .i64 c) := (k0 _).trans (by first | rfl | (simp [go_sem]; done)); have k02 : w1.cell? ⟨w.heap.size, 2, none⟩ = some (.slice A n cap) := (k0 _).trans (by first | rfl | (simp [go_sem]; done)); have k10 : w1.cell? ⟨w.heap.size + 1, 0, none⟩ = some (.int .i64 0) := (k1 _).trans (by first | rfl | (simp [go_sem]; done)); have k11 : w1.cell? ⟨w.heap.size + 1, 1, none⟩ = some (.int .i64 0) := (k1 _).trans (by first | rfl | (simp [go_sem]; done)); have k12 : w1.cell? ⟨w.heap.size + 1, 2, none⟩ = some (.slice none 0 0) := (k1 _).trans (by first | rfl | (simp [go_sem]; done)); clear k0 k1))
  all_goals go_wp2
  all_goals (
    have hbw : Below w.heap.size w w1 := by
      refine Below.trans ?_ (hb1.mono (by omega))
      (repeat (first | (with_reducible (first | exact Below.refl _ _ | assumption | refine below_drewN ?_ _ | refine Below.drew ?_ | refine Below.alloc ?_ ?_ _ | refine Below.setCell ?_ ?_ _ | refine below_i ?_)) | go_size))
    refine bodyPost_ret (v := .agg #[.int .i64 r, .int .i64 c, .slice (some ⟨g, 0, none⟩) xs.length cap1]) (by simp [results, Try.results118, go_sem, k10, k11, k12]) rfl ?_
    refine ⟨some ⟨g, 0, none⟩, _, cap1, rfl, rfl, OR.mono (B := w.heap.size + 1 + 1) ?_ (by omega), Kw⟩
    have hown' : OR w1 (w.heap.size + 1 + 1) (.slice (some ⟨g, 0, none⟩) xs.length cap1) xs := by simpa using hown
    (with_reducible (repeat (first | exact hown' | refine OR.drew ?_ | refine OR.drewN ?_ _ | refine OR.alloc ?_ _ | refine OR.b_ ?_ | refine OR.l_ ?_)))
  )
end Go.Proofs.Ytlggfmfelakadaa

/-
  DERIVED. append of one int onto a slice of the call's own.
-/
namespace Go.Proofs.Ytlggfmfelakadaa
open Go.RowKit
set_option linter.unusedVariables false
theorem RI.one {w : World} {g : Nat} {y : Int} (hc : w.cell? ⟨g, 0, none⟩ = some (.int .i64 y)) : RI w (g + 1) (some ⟨g, 0, none⟩) 1 [y] :=
  ⟨rfl, fun _ => ⟨g, 0, rfl, by omega, fun k hk => by
    obtain rfl : k = 0 := by omega
    simpa using hc⟩⟩
/-- Two slice values own no block in common. -/
def Apart (v v' : Value) : Prop := ∀ g, v.ownBlock = some g → v'.ownBlock ≠ some g
theorem Apart.symm {v v' : Value} (h : Apart v v') : Apart v' v := fun g h1 h2 => h g h2 h1
theorem Apart.ne {v v' : Value} (h : Apart v v') : v.ownBlock = none ∨ v.ownBlock ≠ v'.ownBlock := by
  cases h1 : v.ownBlock with
  | none => exact .inl rfl
  | some g => exact .inr fun e => h g h1 e.symm
theorem Apart.of_own {v v' : Value} {lo hi lo' hi' : Nat} (a : Own v lo hi) (b : Own v' lo' hi') (hd : hi ≤ lo' ∨ hi' ≤ lo) : Apart v v' := fun g h1 h2 => by
  have := a g h1; have := b g h2; omega
/-- Behind an append: the new value is apart from whatever the old one was apart from and that was there. -/
theorem Apart.grown {v v' u : Value} {w : World} {B : Nat} {us : List Int} (h : Apart v u) (hu : OR w B u us) (hat : v'.ownBlock = v.ownBlock ∨ v'.ownBlock = some w.heap.size) : Apart v' u := fun g h1 h2 => by
  rcases hat with e | e
  · exact h g (e ▸ h1) h2
  · have h3 := (hu.own g h2).2
    rw [e] at h1
    injection h1 with h1
    omega
theorem OR.ne_low {w : World} {B b : Nat} {v : Value} {xs : List Int} (h : OR w B v xs) (hb : b < B) : some b ≠ v.ownBlock := fun e => by
  have := (h.own b e.symm).1; omega
theorem OR.below_grown {w w' : World} {B : Nat} {v : Value} {xs : List Int} (h : OR w B v xs) (hg : w.grownBy w' v.ownBlock) (hB : B ≤ w.heap.size) : Below B w w' :=
  only_below hg hB fun g e => (h.own g e).1
section
variable (w : World)
theorem wpList_append_one {ops : Array Oper} {rest : List Oper} {o : Oper} {a : Act} {Q : Exit → Act → World → Prop} (hgd : o.guard = none) (s x : Operand)
    (ho : o.op = .call { callee := .builtin .append, args := #[s, x], argTypes := #[24, 24] })
    (B : Nat) (v : Value) (xs : List Int) (hs : a.eval s = v) (hown : OR w B v xs) (g : Nat) (y : Int) (hx : a.eval x = .slice (some ⟨g, 0, none⟩) 1 1) (hc : w.cell? ⟨g, 0, none⟩ = some (.int .i64 y))
    (h63 : xs.length ≤ 100000000000) (hbase : B ≤ w.heap.size)
    (h : ∀ v' w', OR w' B v' (xs ++ [y]) → w.grownBy w' v.ownBlock → (v'.ownBlock = v.ownBlock ∨ v'.ownBlock = some w.heap.size) → wpList Try.prog ops Q rest (a.put o.dst v') w') : wpList Try.prog ops Q (o :: rest) a w :=
  wpList_append_ints w hgd s x ho B v xs hs hown (g + 1) (some ⟨g, 0, none⟩) 1 1 [y] hx (RI.one hc) (by omega) hbase h
theorem step_append_one {ops : Array Oper} {o : Oper} {a : Act} {K : Act → World → Prop} {Q : Exit → Act → World → Prop} {E : Prop} (hgd : o.guard = none) (s x : Operand)
    (ho : o.op = .call { callee := .builtin .append, args := #[s, x], argTypes := #[24, 24] })
    (B : Nat) (v : Value) (xs : List Int) (hs : a.eval s = v) (hown : OR w B v xs) (g : Nat) (y : Int) (hx : a.eval x = .slice (some ⟨g, 0, none⟩) 1 1) (hc : w.cell? ⟨g, 0, none⟩ = some (.int .i64 y))
    (h63 : xs.length ≤ 100000000000) (hbase : B ≤ w.heap.size)
    (h : ∀ v' w', OR w' B v' (xs ++ [y]) → w.grownBy w' v.ownBlock → (v'.ownBlock = v.ownBlock ∨ v'.ownBlock = some w.heap.size) → K (a.put o.dst v') w') :
    if Region.wanted o (yielded ops a.tmps) = true then Oper.wp Try.prog o a w K Q else E :=
  step_append_ints w hgd s x ho B v xs hs hown (g + 1) (some ⟨g, 0, none⟩) 1 1 [y] hx (RI.one hc) (by omega) hbase h
end
end Go.Proofs.Ytlggfmfelakadaa

/-
  DERIVED. Small words on owned slices and struct boxes.
-/
import Derived.Test.YtlggfmfelakadaaMat
namespace Go.Proofs.Ytlggfmfelakadaa
open Go.RowKit
set_option linter.unusedVariables false
theorem OR.nil_ (w : World) (B : Nat) : OR w B (.slice none 0 0) [] := World.ownsRow_nil w B _ _
/-- An owned slice that holds something begins a block. -/
theorem OR.begins {w : World} {B n cap : Nat} {A : Option Addr} {xs : List Int} (h : OR w B (.slice A n cap) xs) (hp : 0 < xs.length) : ∃ g, A = some ⟨g, 0, none⟩ ∧ B ≤ g ∧ g < w.heap.size := by
  rcases h.form with ⟨h1, h2⟩ | ⟨g, cap', h1, h2, h3, _⟩
  · subst h2; simp at hp
  · injection h1 with e1 e2 e3
    exact ⟨g, e1, h2, h3⟩
theorem OR.lenEq {w : World} {B n cap : Nat} {A : Option Addr} {xs : List Int} (h : OR w B (.slice A n cap) xs) : n = xs.length := by
  rcases h.form with ⟨h1, h2⟩ | ⟨g, cap', h1, h2, h3, _⟩
  · injection h1 with e1 e2 e3
    subst h2; exact e2
  · injection h1
theorem OR.as {w : World} {B : Nat} {v : Value} {xs ys : List Int} (h : OR w B v xs) (e : xs = ys) : OR w B v ys := e ▸ h
theorem still_EV {P : Program} {f : FuncId} {args : Array Value} {w : World} {v : Value} (h : Calls P f args w (EV v w)) : Calls P f args w fun e w'' => e = .returned v ∧ w'' = w :=
  h.mono fun _ _ ⟨he, hw⟩ => ⟨he, hw.symm⟩
theorem still_ev {P : Program} {f : FuncId} {args : Array Value} {w : World} {v : Value} (h : Calls P f args w fun e w'' => e = .returned v ∧ w = w'') : Calls P f args w fun e w'' => e = .returned v ∧ w'' = w :=
  h.mono fun _ _ ⟨he, hw⟩ => ⟨he, hw.symm⟩
/-- Block b is a variable (of struct type t) that holds this matrix. -/
def BX (t : TypeId) (w : World) (b : Nat) (r c : Int) (A : Option Addr) (n cap : Nat) : Prop := Blk w b t #[.int .i64 r, .int .i64 c, .slice A n cap]
/-- Block b is a variable of three cells. -/
def B3 (t : TypeId) (w : World) (b : Nat) : Prop := ∃ v0 v1 v2 : Value, Blk w b t #[v0, v1, v2]
abbrev BM := BX 26
abbrev BL := BX 44
/-- The block that the slice value owns, if any, lies from lo on and below hi. -/
def Own (v : Value) (lo hi : Nat) : Prop := ∀ g, v.ownBlock = some g → lo ≤ g ∧ g < hi
theorem OR.own {w : World} {B : Nat} {v : Value} {xs : List Int} (h : OR w B v xs) : Own v B w.heap.size := by
  intro g hg
  rcases h.form with ⟨h1, h2⟩ | ⟨g', cap', h1, h2, h3, _⟩
  · subst h1; cases hg
  · subst h1
    have e : g' = g := by simpa [Value.ownBlock] using hg
    subst e; exact ⟨h2, h3⟩
theorem Own.wide {v : Value} {lo hi lo' hi' : Nat} (h : Own v lo hi) (h1 : lo' ≤ lo) (h2 : hi ≤ hi') : Own v lo' hi' := fun g hg => by have := h g hg; omega
theorem OR.keptOwn {w w' : World} {B : Nat} {v sv : Value} {xs : List Int} {lo hi lo' hi' : Nat} (h : OR w B v xs) (hg : w.grownBy w' sv.ownBlock) (a : Own v lo hi) (b : Own sv lo' hi') (hd : hi ≤ lo' ∨ hi' ≤ lo) : OR w' B v xs := by
  refine h.kept hg ?_
  cases h1 : v.ownBlock with
  | none => exact .inl rfl
  | some g =>
    refine .inr fun e => ?_
    have h2 := a g h1
    have h3 := b g e.symm
    omega
theorem RI.keptOwn {w w' : World} {B n : Nat} {A : Option Addr} {sv : Value} {xs : List Int} {lo hi : Nat} (h : RI w B A n xs) (hg : w.grownBy w' sv.ownBlock) (b : Own sv lo hi) (hB : B ≤ lo) (hB' : B ≤ w.heap.size) : RI w' B A n xs :=
  h.grown hg hB' fun g e => by have := b g e; omega
theorem below_keptOwn {w w' : World} {B : Nat} {sv : Value} {lo hi : Nat} (hg : w.grownBy w' sv.ownBlock) (b : Own sv lo hi) (hB : B ≤ lo) (hB' : B ≤ w.heap.size) : Below B w w' :=
  only_below hg hB' fun g e => by have := b g e; omega
section
variable {w w' : World} {t : TypeId} {b n cap B : Nat} {r c : Int} {A : Option Addr}
theorem BX.mx (h : BX t w b r c A n cap) : w.cell? ⟨b, 0, none⟩ = some (.int .i64 r) ∧ w.cell? ⟨b, 1, none⟩ = some (.int .i64 c) ∧ w.cell? ⟨b, 2, none⟩ = some (.slice A n cap) ∧ (∀ o, w.frozen? ⟨b, o, none⟩ = false) ∧ b < w.heap.size :=
  ⟨Blk.cell h 0, Blk.cell h 1, Blk.cell h 2, Blk.frozen h, Blk.lt h⟩
theorem BX.new (w : World) (t : TypeId) (r c : Int) (A : Option Addr) (n cap : Nat) (b : Nat) (hb : b = w.heap.size) : BX t (w.alloc (.cells #[.int .i64 r, .int .i64 c, .slice A n cap] t)) b r c A n cap := by
  subst hb; exact Blk.new w _ _
theorem BX.drew (h : BX t w b r c A n cap) : BX t w.drew b r c A n cap := h
theorem BX.drewN (h : BX t w b r c A n cap) (k : Nat) : BX t (w.drewN k) b r c A n cap := h
theorem BX.alloc (h : BX t w b r c A n cap) (o : Obj) : BX t (w.alloc o) b r c A n cap := Blk.alloc h o
theorem BX.far (h : BX t w b r c A n cap) {p : Addr} (hp : b ≠ p.block) (u : Value) : BX t (w.setCell p u) b r c A n cap := Blk.far h hp u
theorem BX.below (h : BX t w b r c A n cap) (hb : Below B w w') (hg : b < B) : BX t w' b r c A n cap := Blk.below h hb hg
theorem BX.grown {row : Option Nat} (h : BX t w b r c A n cap) (hb : w.grownBy w' row) (hg : some b ≠ row) : BX t w' b r c A n cap := Blk.grown h hb hg
theorem BX.keptOwn {sv : Value} {lo hi : Nat} (h : BX t w b r c A n cap) (hg : w.grownBy w' sv.ownBlock) (o : Own sv lo hi) (hd : b < lo ∨ hi ≤ b) : BX t w' b r c A n cap :=
  h.grown hg fun e => by have := o b e.symm; omega
theorem BX.lt (h : BX t w b r c A n cap) : b < w.heap.size := Blk.lt h
theorem B3.of (h : BX t w b r c A n cap) : B3 t w b := ⟨_, _, _, h⟩
theorem B3.new (w : World) (t : TypeId) (v0 v1 v2 : Value) (b : Nat) (hb : b = w.heap.size) : B3 t (w.alloc (.cells #[v0, v1, v2] t)) b := by
  subst hb; exact ⟨v0, v1, v2, Blk.new w _ _⟩
theorem B3.drew (h : B3 t w b) : B3 t w.drew b := h
theorem B3.drewN (h : B3 t w b) (k : Nat) : B3 t (w.drewN k) b := h
theorem B3.alloc (h : B3 t w b) (o : Obj) : B3 t (w.alloc o) b := let ⟨_, _, _, k⟩ := h; ⟨_, _, _, Blk.alloc k o⟩
theorem B3.far (h : B3 t w b) {p : Addr} (hp : b ≠ p.block) (u : Value) : B3 t (w.setCell p u) b := let ⟨_, _, _, k⟩ := h; ⟨_, _, _, Blk.far k hp u⟩
theorem B3.below (h : B3 t w b) (hb : Below B w w') (hg : b < B) : B3 t w' b := let ⟨_, _, _, k⟩ := h; ⟨_, _, _, Blk.below k hb hg⟩
theorem B3.grown {row : Option Nat} (h : B3 t w b) (hb : w.grownBy w' row) (hg : some b ≠ row) : B3 t w' b := let ⟨_, _, _, k⟩ := h; ⟨_, _, _, Blk.grown k hb hg⟩
theorem BX.put (h : B3 t w b) : BX t (((w.setCell ⟨b, 0, none⟩ (.int .i64 r)).setCell ⟨b, 1, none⟩ (.int .i64 c)).setCell ⟨b, 2, none⟩ (.slice A n cap)) b r c A n cap := by
  obtain ⟨_, _, _, k⟩ := h
  exact (((Blk.set_ k 0 (.int .i64 r)).set_ 1 (.int .i64 c)).set_ 2 (.slice A n cap)).as rfl
theorem BX.put2 (h : BX t w b r c A n cap) {A' : Option Addr} {n' cap' : Nat} : BX t (w.setCell ⟨b, 2, none⟩ (.slice A' n' cap')) b r c A' n' cap' := (Blk.set_ h 2 _).as rfl
end
/-- A function that returns a matrix, out of its variable b. -/
theorem ret_M {fn : Func} {R : Ending → World → Prop} {a : Act} {w : World} {t : Tmp} {b n cap : Nat} {r c : Int} {A : Option Addr} (hr : fn.results = #[.cell t 26])
    (ht : a.tmps.getD t undef = .pointer (some ⟨b, 0, none⟩)) (h : BM w b r c A n cap) (hd : a.defers = []) (hR : R (.returned (.agg #[.int .i64 r, .int .i64 c, .slice A n cap])) w) : bodyPost Try.prog fn R .ret a w :=
  bodyPost_ret (v := .agg #[.int .i64 r, .int .i64 c, .slice A n cap]) (by
    obtain ⟨r0, r1, r2, rf, rl⟩ := h.mx
    have ht' := ht
    simp only [Array.getD_eq_getD_getElem?] at ht'
    simp [results, hr, ht', go_sem, r0, r1, r2]) hd hR
theorem ret_MB {fn : Func} {R : Ending → World → Prop} {a : Act} {w : World} {t s : Tmp} {b n cap : Nat} {r c : Int} {A : Option Addr} (hr : fn.results = #[.cell t 26, .tmp s])
    (ht : a.tmps.getD t undef = .pointer (some ⟨b, 0, none⟩)) (h : BM w b r c A n cap) (hd : a.defers = []) (hR : R (.returned (.tuple #[.agg #[.int .i64 r, .int .i64 c, .slice A n cap], a.tmps.getD s undef])) w) : bodyPost Try.prog fn R .ret a w :=
  bodyPost_ret (v := .tuple #[.agg #[.int .i64 r, .int .i64 c, .slice A n cap], a.tmps.getD s undef]) (by
    obtain ⟨r0, r1, r2, rf, rl⟩ := h.mx
    have ht' := ht
    simp only [Array.getD_eq_getD_getElem?] at ht'
    simp [results, hr, ht', go_sem, r0, r1, r2]) hd hR
/-- A matrix: rows, columns, cells. -/
structure Mx where
  r : Int
  c : Int
  xs : List Int
def Mx.none : Mx := ⟨0, 0, []⟩
/-- The call returned this matrix, its cells its own. -/
def MR (m : Mx) (w : World) (e : Ending) (w' : World) : Prop :=
  ∃ A n cap, e = .returned (.agg #[.int .i64 m.r, .int .i64 m.c, .slice A n cap]) ∧ OR w' w.heap.size (.slice A n cap) m.xs ∧ Below w.heap.size w w'
/-- The call returned this matrix, its cells its own, and the flag. -/
def MBR (m : Mx) (b : Bool) (w : World) (e : Ending) (w' : World) : Prop :=
  ∃ A n cap, e = .returned (.tuple #[.agg #[.int .i64 m.r, .int .i64 m.c, .slice A n cap], .bool b]) ∧ OR w' w.heap.size (.slice A n cap) m.xs ∧ Below w.heap.size w w'
theorem MBR.mk {m : Mx} {b : Bool} {r c : Int} {xs : List Int} {A : Option Addr} {n cap : Nat} {w w' : World} (hm : m = ⟨r, c, xs⟩) (ho : OR w' w.heap.size (.slice A n cap) xs) (hb : Below w.heap.size w w') :
    MBR m b w (.returned (.tuple #[.agg #[.int .i64 r, .int .i64 c, .slice A n cap], .bool b])) w' := by
  subst hm; exact ⟨A, n, cap, rfl, ho, hb⟩
theorem MR.mk {m : Mx} {r c : Int} {xs : List Int} {A : Option Addr} {n cap : Nat} {w w' : World} (hm : m = ⟨r, c, xs⟩) (ho : OR w' w.heap.size (.slice A n cap) xs) (hb : Below w.heap.size w w') :
    MR m w (.returned (.agg #[.int .i64 r, .int .i64 c, .slice A n cap])) w' := by
  subst hm; exact ⟨A, n, cap, rfl, ho, hb⟩
theorem MR.of_MV {r c : Int} {xs : List Int} {w w' : World} {e : Ending} (h : MV r c xs w e w') : MR ⟨r, c, xs⟩ w e w' := by
  obtain ⟨A, n, cap, h1, h2, h3, h4⟩ := h
  exact ⟨A, n, cap, h1, h3, h4⟩
end Go.Proofs.Ytlggfmfelakadaa

/-
  DERIVED. Several small texts in one: Own, Copy, Lawkit, Append2, PlainA, Row1, PlainB, Row2, PlainH, PlainE, PlainW, PlainM, PlainT, PlainI, PlainQ, PlainU.
-/
import Derived.Test.YtmcbhpaajjlmmaaZ1
/-
  DERIVED. Small words on owned slices and struct boxes.
-/
namespace Go.Proofs.Ytmcbhpaajjlmmaa
open Go.RowKit
set_option linter.unusedVariables false
theorem OR.nil_ (w : World) (B : Nat) : OR w B (.slice none 0 0) [] := World.ownsRow_nil w B _ _
/-- An owned slice that holds something begins a block. -/
theorem OR.begins {w : World} {B n cap : Nat} {A : Option Addr} {xs : List Int} (h : OR w B (.slice A n cap) xs) (hp : 0 < xs.length) : ∃ g, A = some ⟨g, 0, none⟩ ∧ B ≤ g ∧ g < w.heap.size := by
  rcases h.form with ⟨h1, h2⟩ | ⟨g, cap', h1, h2, h3, _⟩
  · subst h2; simp at hp
  · injection h1 with e1 e2 e3
    exact ⟨g, e1, h2, h3⟩
theorem OR.lenEq {w : World} {B n cap : Nat} {A : Option Addr} {xs : List Int} (h : OR w B (.slice A n cap) xs) : n = xs.length := by
  rcases h.form with ⟨h1, h2⟩ | ⟨g, cap', h1, h2, h3, _⟩
  · injection h1 with e1 e2 e3
    subst h2; exact e2
  · injection h1
theorem OR.as {w : World} {B : Nat} {v : Value} {xs ys : List Int} (h : OR w B v xs) (e : xs = ys) : OR w B v ys := e ▸ h
theorem still_EV {P : Program} {f : FuncId} {args : Array Value} {w : World} {v : Value} (h : Calls P f args w (EV v w)) : Calls P f args w fun e w'' => e = .returned v ∧ w'' = w :=
  h.mono fun _ _ ⟨he, hw⟩ => ⟨he, hw.symm⟩
theorem still_ev {P : Program} {f : FuncId} {args : Array Value} {w : World} {v : Value} (h : Calls P f args w fun e w'' => e = .returned v ∧ w = w'') : Calls P f args w fun e w'' => e = .returned v ∧ w'' = w :=
  h.mono fun _ _ ⟨he, hw⟩ => ⟨he, hw.symm⟩
/-- Block b is a variable (of struct type t) that holds this matrix. -/
def BX (t : TypeId) (w : World) (b : Nat) (r c : Int) (A : Option Addr) (n cap : Nat) : Prop := Blk w b t #[.int .i64 r, .int .i64 c, .slice A n cap]
/-- Block b is a variable of three cells. -/
def B3 (t : TypeId) (w : World) (b : Nat) : Prop := ∃ v0 v1 v2 : Value, Blk w b t #[v0, v1, v2]
abbrev BM := BX 28
abbrev BL := BX 24
/-- The block that the slice value owns, if any, lies from lo on and below hi. -/
def Own (v : Value) (lo hi : Nat) : Prop := ∀ g, v.ownBlock = some g → lo ≤ g ∧ g < hi
theorem OR.own {w : World} {B : Nat} {v : Value} {xs : List Int} (h : OR w B v xs) : Own v B w.heap.size := by
  intro g hg
  rcases h.form with ⟨h1, h2⟩ | ⟨g', cap', h1, h2, h3, _⟩
  · subst h1; cases hg
  · subst h1
    have e : g' = g := by simpa [Value.ownBlock] using hg
    subst e; exact ⟨h2, h3⟩
theorem Own.wide {v : Value} {lo hi lo' hi' : Nat} (h : Own v lo hi) (h1 : lo' ≤ lo) (h2 : hi ≤ hi') : Own v lo' hi' := fun g hg => by have := h g hg; omega
theorem OR.keptOwn {w w' : World} {B : Nat} {v sv : Value} {xs : List Int} {lo hi lo' hi' : Nat} (h : OR w B v xs) (hg : w.grownBy w' sv.ownBlock) (a : Own v lo hi) (b : Own sv lo' hi') (hd : hi ≤ lo' ∨ hi' ≤ lo) : OR w' B v xs := by
  refine h.kept hg ?_
  cases h1 : v.ownBlock with
  | none => exact .inl rfl
  | some g =>
    refine .inr fun e => ?_
    have h2 := a g h1
    have h3 := b g e.symm
    omega
theorem RI.keptOwn {w w' : World} {B n : Nat} {A : Option Addr} {sv : Value} {xs : List Int} {lo hi : Nat} (h : RI w B A n xs) (hg : w.grownBy w' sv.ownBlock) (b : Own sv lo hi) (hB : B ≤ lo) (hB' : B ≤ w.heap.size) : RI w' B A n xs :=
  h.grown hg hB' fun g e => by have := b g e; omega
theorem below_keptOwn {w w' : World} {B : Nat} {sv : Value} {lo hi : Nat} (hg : w.grownBy w' sv.ownBlock) (b : Own sv lo hi) (hB : B ≤ lo) (hB' : B ≤ w.heap.size) : Below B w w' :=
  only_below hg hB' fun g e => by have := b g e; omega
section
variable {w w' : World} {t : TypeId} {b n cap B : Nat} {r c : Int} {A : Option Addr}
theorem BX.mx (h : BX t w b r c A n cap) : w.cell? ⟨b, 0, none⟩ = some (.int .i64 r) ∧ w.cell? ⟨b, 1, none⟩ = some (.int .i64 c) ∧ w.cell? ⟨b, 2, none⟩ = some (.slice A n cap) ∧ (∀ o, w.frozen? ⟨b, o, none⟩ = false) ∧ b < w.heap.size :=
  ⟨Blk.cell h 0, Blk.cell h 1, Blk.cell h 2, Blk.frozen h, Blk.lt h⟩
theorem BX.new (w : World) (t : TypeId) (r c : Int) (A : Option Addr) (n cap : Nat) (b : Nat) (hb : b = w.heap.size) : BX t (w.alloc (.cells #[.int .i64 r, .int .i64 c, .slice A n cap] t)) b r c A n cap := by
  subst hb; exact Blk.new w _ _
theorem BX.drew (h : BX t w b r c A n cap) : BX t w.drew b r c A n cap := h
theorem BX.drewN (h : BX t w b r c A n cap) (k : Nat) : BX t (w.drewN k) b r c A n cap := h
theorem BX.alloc (h : BX t w b r c A n cap) (o : Obj) : BX t (w.alloc o) b r c A n cap := Blk.alloc h o
theorem BX.far (h : BX t w b r c A n cap) {p : Addr} (hp : b ≠ p.block) (u : Value) : BX t (w.setCell p u) b r c A n cap := Blk.far h hp u
theorem BX.below (h : BX t w b r c A n cap) (hb : Below B w w') (hg : b < B) : BX t w' b r c A n cap := Blk.below h hb hg
theorem BX.grown {row : Option Nat} (h : BX t w b r c A n cap) (hb : w.grownBy w' row) (hg : some b ≠ row) : BX t w' b r c A n cap := Blk.grown h hb hg
theorem BX.keptOwn {sv : Value} {lo hi : Nat} (h : BX t w b r c A n cap) (hg : w.grownBy w' sv.ownBlock) (o : Own sv lo hi) (hd : b < lo ∨ hi ≤ b) : BX t w' b r c A n cap :=
  h.grown hg fun e => by have := o b e.symm; omega
theorem BX.lt (h : BX t w b r c A n cap) : b < w.heap.size := Blk.lt h
theorem B3.of (h : BX t w b r c A n cap) : B3 t w b := ⟨_, _, _, h⟩
theorem B3.new (w : World) (t : TypeId) (v0 v1 v2 : Value) (b : Nat) (hb : b = w.heap.size) : B3 t (w.alloc (.cells #[v0, v1, v2] t)) b := by
  subst hb; exact ⟨v0, v1, v2, Blk.new w _ _⟩
theorem B3.drew (h : B3 t w b) : B3 t w.drew b := h
theorem B3.drewN (h : B3 t w b) (k : Nat) : B3 t (w.drewN k) b := h
theorem B3.alloc (h : B3 t w b) (o : Obj) : B3 t (w.alloc o) b := let ⟨_, _, _, k⟩ := h; ⟨_, _, _, Blk.alloc k o⟩
theorem B3.far (h : B3 t w b) {p : Addr} (hp : b ≠ p.block) (u : Value) : B3 t (w.setCell p u) b := let ⟨_, _, _, k⟩ := h; ⟨_, _, _, Blk.far k hp u⟩
theorem B3.below (h : B3 t w b) (hb : Below B w w') (hg : b < B) : B3 t w' b := let ⟨_, _, _, k⟩ := h; ⟨_, _, _, Blk.below k hb hg⟩
theorem B3.grown {row : Option Nat} (h : B3 t w b) (hb : w.grownBy w' row) (hg : some b ≠ row) : B3 t w' b := let ⟨_, _, _, k⟩ := h; ⟨_, _, _, Blk.grown k hb hg⟩
theorem BX.put (h : B3 t w b) : BX t (((w.setCell ⟨b, 0, none⟩ (.int .i64 r)).setCell ⟨b, 1, none⟩ (.int .i64 c)).setCell ⟨b, 2, none⟩ (.slice A n cap)) b r c A n cap := by
  obtain ⟨_, _, _, k⟩ := h
  exact (((Blk.set_ k 0 (.int .i64 r)).set_ 1 (.int .i64 c)).set_ 2 (.slice A n cap)).as rfl
theorem BX.put2 (h : BX t w b r c A n cap) {A' : Option Addr} {n' cap' : Nat} : BX t (w.setCell ⟨b, 2, none⟩ (.slice A' n' cap')) b r c A' n' cap' := (Blk.set_ h 2 _).as rfl
theorem BX.n_ {w : World} {t : TypeId} {r c : Int} {A : Option Addr} {n cap b : Nat} (hb : b = w.heap.size := by first | omega | (simp; done) | (simp; omega)) : BX t (w.alloc (.cells #[.int .i64 r, .int .i64 c, .slice A n cap] t)) b r c A n cap := BX.new w t r c A n cap b hb
theorem BX.b_ {w w' : World} {t : TypeId} {b n cap B : Nat} {r c : Int} {A : Option Addr} (h : BX t w b r c A n cap) (hb : Below B w w' := by assumption) (hg : b < B := by first | omega | (simp; done) | (simp; omega)) : BX t w' b r c A n cap := BX.below h hb hg
theorem BX.f_ {w : World} {t : TypeId} {b n cap : Nat} {r c : Int} {A : Option Addr} {p : Addr} {u : Value} (h : BX t w b r c A n cap) (hp : b ≠ p.block := by simp only [ne_eq]; omega) : BX t (w.setCell p u) b r c A n cap := BX.far h hp u
theorem B3.n_ {w : World} {t : TypeId} {v0 v1 v2 : Value} {b : Nat} (hb : b = w.heap.size := by first | omega | (simp; done) | (simp; omega)) : B3 t (w.alloc (.cells #[v0, v1, v2] t)) b := B3.new w t v0 v1 v2 b hb
theorem B3.b_ {w w' : World} {t : TypeId} {b B : Nat} (h : B3 t w b) (hb : Below B w w' := by assumption) (hg : b < B := by first | omega | (simp; done) | (simp; omega)) : B3 t w' b := B3.below h hb hg
theorem B3.f_ {w : World} {t : TypeId} {b : Nat} {p : Addr} {u : Value} (h : B3 t w b) (hp : b ≠ p.block := by simp only [ne_eq]; omega) : B3 t (w.setCell p u) b := B3.far h hp u
end
/-- A function that returns a matrix, out of its variable b. -/
theorem ret_M {fn : Func} {R : Ending → World → Prop} {a : Act} {w : World} {t : Tmp} {b n cap : Nat} {r c : Int} {A : Option Addr} (hr : fn.results = #[.cell t 28])
    (ht : a.tmps.getD t undef = .pointer (some ⟨b, 0, none⟩)) (h : BM w b r c A n cap) (hd : a.defers = []) (hR : R (.returned (.agg #[.int .i64 r, .int .i64 c, .slice A n cap])) w) : bodyPost Try.prog fn R .ret a w :=
  bodyPost_ret (v := .agg #[.int .i64 r, .int .i64 c, .slice A n cap]) (by
    obtain ⟨r0, r1, r2, rf, rl⟩ := h.mx
    have ht' := ht
    simp only [Array.getD_eq_getD_getElem?] at ht'
    simp [results, hr, ht', go_sem, r0, r1, r2]) hd hR
theorem ret_MB {fn : Func} {R : Ending → World → Prop} {a : Act} {w : World} {t s : Tmp} {b n cap : Nat} {r c : Int} {A : Option Addr} (hr : fn.results = #[.cell t 28, .tmp s])
    (ht : a.tmps.getD t undef = .pointer (some ⟨b, 0, none⟩)) (h : BM w b r c A n cap) (hd : a.defers = []) (hR : R (.returned (.tuple #[.agg #[.int .i64 r, .int .i64 c, .slice A n cap], a.tmps.getD s undef])) w) : bodyPost Try.prog fn R .ret a w :=
  bodyPost_ret (v := .tuple #[.agg #[.int .i64 r, .int .i64 c, .slice A n cap], a.tmps.getD s undef]) (by
    obtain ⟨r0, r1, r2, rf, rl⟩ := h.mx
    have ht' := ht
    simp only [Array.getD_eq_getD_getElem?] at ht'
    simp [results, hr, ht', go_sem, r0, r1, r2]) hd hR
/-- A matrix: rows, columns, cells. -/
structure Mx where
  r : Int
  c : Int
  xs : List Int
def Mx.none : Mx := ⟨0, 0, []⟩
/-- The call returned this matrix, its cells its own. -/
def MR (m : Mx) (w : World) (e : Ending) (w' : World) : Prop :=
  ∃ A n cap, e = .returned (.agg #[.int .i64 m.r, .int .i64 m.c, .slice A n cap]) ∧ OR w' w.heap.size (.slice A n cap) m.xs ∧ Below w.heap.size w w'
/-- The call returned this matrix, its cells its own, and the flag. -/
def MBR (m : Mx) (b : Bool) (w : World) (e : Ending) (w' : World) : Prop :=
  ∃ A n cap, e = .returned (.tuple #[.agg #[.int .i64 m.r, .int .i64 m.c, .slice A n cap], .bool b]) ∧ OR w' w.heap.size (.slice A n cap) m.xs ∧ Below w.heap.size w w'
theorem MBR.mk {m : Mx} {b : Bool} {r c : Int} {xs : List Int} {A : Option Addr} {n cap : Nat} {w w' : World} (hm : m = ⟨r, c, xs⟩) (ho : OR w' w.heap.size (.slice A n cap) xs) (hb : Below w.heap.size w w') :
    MBR m b w (.returned (.tuple #[.agg #[.int .i64 r, .int .i64 c, .slice A n cap], .bool b])) w' := by
  subst hm; exact ⟨A, n, cap, rfl, ho, hb⟩
theorem MR.mk {m : Mx} {r c : Int} {xs : List Int} {A : Option Addr} {n cap : Nat} {w w' : World} (hm : m = ⟨r, c, xs⟩) (ho : OR w' w.heap.size (.slice A n cap) xs) (hb : Below w.heap.size w w') :
    MR m w (.returned (.agg #[.int .i64 r, .int .i64 c, .slice A n cap])) w' := by
  subst hm; exact ⟨A, n, cap, rfl, ho, hb⟩
theorem MR.of_MV {r c : Int} {xs : List Int} {w w' : World} {e : Ending} (h : MV r c xs w e w') : MR ⟨r, c, xs⟩ w e w' := by
  obtain ⟨A, n, cap, h1, h2, h3, h4⟩ := h
  exact ⟨A, n, cap, h1, h3, h4⟩
end Go.Proofs.Ytmcbhpaajjlmmaa

/-
  DERIVED. The contracts of copyMatrix and l3Copy.
-/
namespace Go.Proofs.Ytmcbhpaajjlmmaa
open Go.RowKit
set_option linter.unusedVariables false
theorem impl_copyMatrix (r c : Int) (A : Option Addr) (n cap : Nat) (xs : List Int) (w : World) {B : Nat} (h : RI w B A n xs) (hB : B ≤ w.heap.size) (hn : n ≤ 1048576) :
    Calls Try.prog 141 #[.agg #[.int .i64 r, .int .i64 c, .slice A n cap]] w (MV r c xs w) := by
  have H2 := Lib.hid (h.more hB)
  clear h
  go_enter Try.func141, Try.ntmps141
  go_wp2_with (at_builtin; refine wpList_append_ints _ rfl (.tmp 3) (.tmp 5) rfl (w.heap.size + 1 + 1) _ [] rfl ?c1 w.heap.size A n cap xs rfl ?c2 ?c3 ?c4 ?_; rotate_right; intro v1 w1 hown hgr hat; simp only [List.nil_append] at hown; go_loud (obtain ⟨g, cap1, rfl, hg1, hg2⟩ := hown.notNil hat); go_loud (have hb1 : Below (w.heap.size + 1 + 1) _ w1 := only_below hgr (by first | omega | (simp; done) | (simp; omega)) (by intro g h; cases h; exact Nat.le_refl _)); obtain ⟨k0, f0, l0⟩ := bkeepB w.heap.size hb1 (by omega) (by first | omega | (simp; done) | (simp; omega)); obtain ⟨k1, f1, l1⟩ := bkeepB (w.heap.size + 1) hb1 (by omega) (by first | omega | (simp; done) | (simp; omega)); clear hgr hat; have k00 : w1.cell? ⟨w.heap.size, 0, none⟩ = some (.int .i64 r) := by { rw [k0]; simp [go_sem] }; have k01 : w1.cell? ⟨w.heap.size, 1, none⟩ = some (.int .i64 c) := by { rw [k0]; simp [go_sem] }; have k02 : w1.cell? ⟨w.heap.size, 2, none⟩ = some (.slice A n cap) := by { rw [k0]; simp [go_sem] }; have k10 : w1.cell? ⟨w.heap.size + 1, 0, none⟩ = some (.int .i64 0) := by { rw [k1]; simp [go_sem] }; have k11 : w1.cell? ⟨w.heap.size + 1, 1, none⟩ = some (.int .i64 0) := by { rw [k1]; simp [go_sem] }; have k12 : w1.cell? ⟨w.heap.size + 1, 2, none⟩ = some (.slice none 0 0) := by { rw [k1]; simp [go_sem] }; clear k0 k1)
  case c1 => exact OR.empty' _ (w.heap.size + 1 + 1) (by simp) (by first | omega | (simp; done) | (simp; omega))
  case c2 => (with_reducible (repeat (first | exact H2.out | refine RI.drew ?_ | refine RI.drewN ?_ _ | refine RI.a_ ?_ | refine RI.s_ ?_ | refine RI.b_ ?_)))
  case c3 => first | omega | (simp; omega)
  case c4 => exact (by first | omega | (simp; done) | (simp; omega))
  have hbw : Below w.heap.size w w1 := by
    refine Below.trans ?_ (hb1.mono (by omega))
    (repeat (first | (with_reducible (first | exact Below.refl _ _ | assumption | refine below_drewN ?_ _ | refine Below.drew ?_ | refine Below.alloc ?_ ?_ _ | refine Below.setCell ?_ ?_ _ | refine below_i ?_)) | go_size))
  refine bodyPost_ret (v := .agg #[.int .i64 r, .int .i64 c, .slice (some ⟨g, 0, none⟩) xs.length cap1]) (by simp [results, Try.results141, go_sem, k10, k11, k12]) rfl ?_
  refine ⟨some ⟨g, 0, none⟩, _, cap1, rfl, rfl, OR.mono (B := w.heap.size + 1 + 1) ?_ (by omega), by (repeat (first | (with_reducible (first | exact Below.refl _ _ | assumption | refine below_drewN ?_ _ | refine Below.drew ?_ | refine Below.alloc ?_ ?_ _ | refine Below.setCell ?_ ?_ _ | refine below_i ?_)) | go_size))⟩
  have hown' : OR w1 (w.heap.size + 1 + 1) (.slice (some ⟨g, 0, none⟩) xs.length cap1) xs := by simpa using hown
  (with_reducible (repeat (first | exact hown' | refine OR.drew ?_ | refine OR.drewN ?_ _ | refine OR.alloc ?_ _ | refine OR.b_ ?_ | refine OR.l_ ?_)))
end Go.Proofs.Ytmcbhpaajjlmmaa

/-
  DERIVED. Words for the laws: comparing, marking and holding slices and matrices of the call's own.
-/
namespace Go.Proofs.Ytmcbhpaajjlmmaa
open Go.RowKit
set_option linter.unusedVariables false
theorem eqB_refl (xs : List Int) : eqB xs xs = true := by simp [eqB]
theorem eqM_refl (r c : Int) (xs : List Int) : eqM r c r c xs xs = true := by simp [eqM, eqB]
theorem eqOwnI {A A' : Option Addr} {n n' ca ca' : Nat} {xs : List Int} {w : World} {B B' : Nat} (h : OR w B (.slice A n ca) xs) (h' : OR w B' (.slice A' n' ca') xs) :
    Calls Try.prog 20 #[.slice A n ca, .slice A' n' ca'] w (DV (.bool true) w) := by
  have h1 := h.caps
  have h2 := h'.caps
  have := laws_eqIntS A A' n n' ca ca' xs xs w h.reads h'.reads (by omega) (by omega)
  rw [eqB_refl] at this
  exact this
theorem eqOwnM {r c : Int} {A A' : Option Addr} {n n' ca ca' : Nat} {xs : List Int} {w : World} {B B' : Nat} (h : OR w B (.slice A n ca) xs) (h' : OR w B' (.slice A' n' ca') xs) :
    Calls Try.prog 21 #[.agg #[.int .i64 r, .int .i64 c, .slice A n ca], .agg #[.int .i64 r, .int .i64 c, .slice A' n' ca']] w (BV (.bool true) w) := by
  have h1 := h.caps
  have h2 := h'.caps
  have := laws_eqMatrix r c r c A A' n n' ca ca' xs xs w h.reads h'.reads (by omega) (by omega) (Nat.le_refl _) (Nat.le_refl _)
  rw [eqM_refl] at this
  exact this
/-- The call returned the int, having written just the block of an own slice, which now holds ys. -/
def WI (k : Int) (sv : Value) (B : Nat) (ys : List Int) (w : World) (e : Ending) (w' : World) : Prop :=
  e = .returned (.int .i64 k) ∧ OR w' B sv ys ∧ w.grownBy w' sv.ownBlock ∧ w.heap.size ≤ w'.heap.size
theorem markOwnI {A : Option Addr} {n ca : Nat} {xs : List Int} {k : Int} {w : World} {B : Nat} (h : OR w B (.slice A n ca) xs) (hn2 : n ≤ 1048576) (hk0 : 0 ≤ k) (hk1 : k ≤ 1000000000000) :
    Calls Try.prog 23 #[.slice A n ca, .int .i64 k] w (WI (k + n) (.slice A n ca) B (iota k n) w) :=
  (laws_markIntS A n ca xs k w B h h.lenEq hn2 hk0 hk1).mono fun _ _ ⟨h1, h2, h3⟩ => ⟨h1, h2, h3, h3.size⟩
theorem markOwnM {r c : Int} {A : Option Addr} {n ca : Nat} {xs : List Int} {k : Int} {w : World} {B : Nat} (h : OR w B (.slice A n ca) xs) (hn2 : n ≤ 1048576) (hk0 : 0 ≤ k) (hk1 : k ≤ 1000000000000) :
    Calls Try.prog 22 #[.agg #[.int .i64 r, .int .i64 c, .slice A n ca], .int .i64 k] w (WI (k + n) (.slice A n ca) B (iota k n) w) :=
  (laws_markMatrix r c A n ca xs k w B h h.lenEq hn2 hk0 hk1).mono fun _ _ ⟨h1, h2, h3⟩ => ⟨h1, h2, h3, h3.size⟩
theorem heldOwnI {A : Option Addr} {n ca : Nat} {k : Int} {w : World} {B : Nat} (h : OR w B (.slice A n ca) (iota k n)) (hn2 : n ≤ 1048576) (hk0 : 0 ≤ k) (hk1 : k ≤ 1000000000000) :
    Calls Try.prog 24 #[.slice A n ca, .int .i64 k] w (EV (.int .i64 (k + n)) w) :=
  laws_heldIntS A n ca k w _ h.reads hn2 hk0 hk1
theorem toMatrix_own {r c : Int} {A : Option Addr} {n cap : Nat} {xs : List Int} {w : World} {C : Nat} (h : RI w C A n xs) (hC : C ≤ w.heap.size) (hn : n ≤ 1048576) :
    Calls Try.prog 17 #[.agg #[.int .i64 r, .int .i64 c, .slice A n cap]] w (MR ⟨r, c, xs⟩ w) :=
  (laws_toMatrix r c A n cap xs w h hC hn).mono fun _ _ h => MR.of_MV h
/-- The call returned a slice of its own that holds ys. -/
def IR (ys : List Int) (w : World) (e : Ending) (w' : World) : Prop := ∃ A n cap, e = .returned (.slice A n cap) ∧ OR w' w.heap.size (.slice A n cap) ys ∧ Below w.heap.size w w'
theorem toIntS_own {A : Option Addr} {n cap : Nat} {xs : List Int} {w : World} {C : Nat} (h : RI w C A n xs) (hC : C ≤ w.heap.size) (hn : n ≤ 1048576) :
    Calls Try.prog 18 #[.slice A n cap] w (IR xs w) :=
  (laws_toIntS A n cap xs w h hC hn).mono fun _ _ ⟨g, h1, h2, h3⟩ => ⟨_, _, _, h1, h2, h3⟩
end Go.Proofs.Ytmcbhpaajjlmmaa

/-
  DERIVED. append of one int onto a slice of the call's own.
-/
namespace Go.Proofs.Ytmcbhpaajjlmmaa
open Go.RowKit
set_option linter.unusedVariables false
theorem RI.one {w : World} {g : Nat} {y : Int} (hc : w.cell? ⟨g, 0, none⟩ = some (.int .i64 y)) : RI w (g + 1) (some ⟨g, 0, none⟩) 1 [y] :=
  ⟨rfl, fun _ => ⟨g, 0, rfl, by omega, fun k hk => by
    obtain rfl : k = 0 := by omega
    simpa using hc⟩⟩
/-- Two slice values own no block in common. -/
def Apart (v v' : Value) : Prop := ∀ g, v.ownBlock = some g → v'.ownBlock ≠ some g
theorem Apart.symm {v v' : Value} (h : Apart v v') : Apart v' v := fun g h1 h2 => h g h2 h1
theorem Apart.ne {v v' : Value} (h : Apart v v') : v.ownBlock = none ∨ v.ownBlock ≠ v'.ownBlock := by
  cases h1 : v.ownBlock with
  | none => exact .inl rfl
  | some g => exact .inr fun e => h g h1 e.symm
theorem Apart.of_own {v v' : Value} {lo hi lo' hi' : Nat} (a : Own v lo hi) (b : Own v' lo' hi') (hd : hi ≤ lo' ∨ hi' ≤ lo) : Apart v v' := fun g h1 h2 => by
  have := a g h1; have := b g h2; omega
/-- Behind an append: the new value is apart from whatever the old one was apart from and that was there. -/
theorem Apart.grown {v v' u : Value} {w : World} {B : Nat} {us : List Int} (h : Apart v u) (hu : OR w B u us) (hat : v'.ownBlock = v.ownBlock ∨ v'.ownBlock = some w.heap.size) : Apart v' u := fun g h1 h2 => by
  rcases hat with e | e
  · exact h g (e ▸ h1) h2
  · have h3 := (hu.own g h2).2
    rw [e] at h1
    injection h1 with h1
    omega
theorem OR.ne_low {w : World} {B b : Nat} {v : Value} {xs : List Int} (h : OR w B v xs) (hb : b < B) : some b ≠ v.ownBlock := fun e => by
  have := (h.own b e.symm).1; omega
theorem OR.below_grown {w w' : World} {B : Nat} {v : Value} {xs : List Int} (h : OR w B v xs) (hg : w.grownBy w' v.ownBlock) (hB : B ≤ w.heap.size) : Below B w w' :=
  only_below hg hB fun g e => (h.own g e).1
section
variable (w : World)
theorem wpList_append_one {ops : Array Oper} {rest : List Oper} {o : Oper} {a : Act} {Q : Exit → Act → World → Prop} (hgd : o.guard = none) (s x : Operand)
    (ho : o.op = .call { callee := .builtin .append, args := #[s, x], argTypes := #[22, 22] })
    (B : Nat) (v : Value) (xs : List Int) (hs : a.eval s = v) (hown : OR w B v xs) (g : Nat) (y : Int) (hx : a.eval x = .slice (some ⟨g, 0, none⟩) 1 1) (hc : w.cell? ⟨g, 0, none⟩ = some (.int .i64 y))
    (h63 : xs.length ≤ 100000000000) (hbase : B ≤ w.heap.size)
    (h : ∀ v' w', OR w' B v' (xs ++ [y]) → w.grownBy w' v.ownBlock → (v'.ownBlock = v.ownBlock ∨ v'.ownBlock = some w.heap.size) → wpList Try.prog ops Q rest (a.put o.dst v') w') : wpList Try.prog ops Q (o :: rest) a w :=
  wpList_append_ints w hgd s x ho B v xs hs hown (g + 1) (some ⟨g, 0, none⟩) 1 1 [y] hx (RI.one hc) (by omega) hbase h
theorem step_append_one {ops : Array Oper} {o : Oper} {a : Act} {K : Act → World → Prop} {Q : Exit → Act → World → Prop} {E : Prop} (hgd : o.guard = none) (s x : Operand)
    (ho : o.op = .call { callee := .builtin .append, args := #[s, x], argTypes := #[22, 22] })
    (B : Nat) (v : Value) (xs : List Int) (hs : a.eval s = v) (hown : OR w B v xs) (g : Nat) (y : Int) (hx : a.eval x = .slice (some ⟨g, 0, none⟩) 1 1) (hc : w.cell? ⟨g, 0, none⟩ = some (.int .i64 y))
    (h63 : xs.length ≤ 100000000000) (hbase : B ≤ w.heap.size)
    (h : ∀ v' w', OR w' B v' (xs ++ [y]) → w.grownBy w' v.ownBlock → (v'.ownBlock = v.ownBlock ∨ v'.ownBlock = some w.heap.size) → K (a.put o.dst v') w') :
    if Region.wanted o (yielded ops a.tmps) = true then Oper.wp Try.prog o a w K Q else E :=
  step_append_ints w hgd s x ho B v xs hs hown (g + 1) (some ⟨g, 0, none⟩) 1 1 [y] hx (RI.one hc) (by omega) hbase h
end
end Go.Proofs.Ytmcbhpaajjlmmaa

/-
  DERIVED. Ratios: lowest terms, sums, products. No program in sight.
-/
namespace Go.Proofs.Ytmcbhpaajjlmmaa
set_option linter.unusedVariables false
/-- n / d in lowest terms; zeros if it is no ratio. -/
def lowR (n d : Int) : Int × Int :=
  let g : Int := ((Int.gcd n d : Nat) : Int)
  let s := if d < 0 then -g else g
  if ratOk (n.tdiv s) (d.tdiv s) then (n.tdiv s, d.tdiv s) else (0, 0)
def addR (a b : Int × Int) : Int × Int := if ratOk a.1 a.2 && ratOk b.1 b.2 then lowR (a.1 * b.2 + b.1 * a.2) (a.2 * b.2) else (0, 0)
def mulR (a b : Int × Int) : Int × Int := if ratOk a.1 a.2 && ratOk b.1 b.2 then lowR (a.1 * b.1) (a.2 * b.2) else (0, 0)
def makR (n d : Int) : Int × Int := if isNum n && isNum d && decide (d ≠ 0) then lowR n d else (0, 0)
theorem tdiv_abs (a b : Int) : (a.tdiv b).natAbs ≤ a.natAbs := by
  rw [Int.natAbs_tdiv]; exact Nat.div_le_self _ _
/-- The gcd of a number and one that is not 0. -/
theorem gcd_pos2 {n d : Int} (hd : d ≠ 0) : 1 ≤ Int.gcd n d ∧ Int.gcd n d ≤ d.natAbs :=
  ⟨Int.gcd_pos_of_ne_zero_right _ hd, Nat.le_of_dvd (by omega) (Int.gcd_dvd_natAbs_right ..)⟩
theorem lowR_pos {n d : Int} (hd : 0 < d) : lowR n d = if ratOk (n.tdiv (Int.gcd n d : Nat)) (d.tdiv (Int.gcd n d : Nat)) then (n.tdiv (Int.gcd n d : Nat), d.tdiv (Int.gcd n d : Nat)) else (0, 0) := by
  unfold lowR
  simp only [if_neg (show ¬ d < 0 by omega)]
theorem lowR_neg {n d : Int} (hd : d < 0) : lowR n d = if ratOk (n.tdiv (-(Int.gcd n d : Nat))) (d.tdiv (-(Int.gcd n d : Nat))) then (n.tdiv (-(Int.gcd n d : Nat)), d.tdiv (-(Int.gcd n d : Nat))) else (0, 0) := by
  unfold lowR
  simp only [if_pos hd]
theorem lowR_neg' {n d : Int} (hd : d < 0) : lowR n d = if ratOk (-n.tdiv (Int.gcd n d : Nat)) (-d.tdiv (Int.gcd n d : Nat)) then (-n.tdiv (Int.gcd n d : Nat), -d.tdiv (Int.gcd n d : Nat)) else (0, 0) := by
  rw [lowR_neg hd]
  simp only [Int.tdiv_neg]
theorem lowR_flip {n d : Int} (hd : d < 0) : lowR n d = lowR (-n) (-d) := by
  rw [lowR_neg hd, lowR_pos (show 0 < -d by omega), Int.neg_gcd, Int.gcd_neg]
  simp only [Int.tdiv_neg, Int.neg_tdiv]
theorem lowR_ok (n d : Int) : (ratOk (lowR n d).1 (lowR n d).2 = true) ∨ lowR n d = (0, 0) := by
  unfold lowR
  simp only
  generalize (if d < 0 then -((Int.gcd n d : Nat) : Int) else ((Int.gcd n d : Nat) : Int)) = s
  by_cases h : ratOk (n.tdiv s) (d.tdiv s) = true
  · rw [if_pos h]; exact .inl h
  · rw [if_neg h]; exact .inr rfl
theorem addR_ok (a b : Int × Int) : (ratOk (addR a b).1 (addR a b).2 = true) ∨ addR a b = (0, 0) := by
  unfold addR
  split
  · exact lowR_ok _ _
  · exact .inr rfl
theorem mulR_ok (a b : Int × Int) : (ratOk (mulR a b).1 (mulR a b).2 = true) ∨ mulR a b = (0, 0) := by
  unfold mulR
  split
  · exact lowR_ok _ _
  · exact .inr rfl
theorem ratOk_zero : ratOk 0 0 = false := rfl
theorem ratOk_whole {n : Int} (h : isNum n = true) : ratOk n 1 = true := by
  rw [ratOk_iff]
  exact ⟨by omega, (isNum_iff n).1 h, by simp⟩
theorem mulR_comm (a b : Int × Int) : mulR a b = mulR b a := by
  unfold mulR
  rw [Bool.and_comm, Int.mul_comm a.1, Int.mul_comm a.2]
/-- Bounds of what is added and multiplied. -/
theorem rat_bd {a b : Int × Int} (h : ratOk a.1 a.2 = true) (h' : ratOk b.1 b.2 = true) :
    (-160000000000000000 ≤ a.1 * b.2 ∧ a.1 * b.2 ≤ 160000000000000000) ∧ (-160000000000000000 ≤ b.1 * a.2 ∧ b.1 * a.2 ≤ 160000000000000000) ∧ (1 ≤ a.2 * b.2 ∧ a.2 * b.2 ≤ 160000000000000000) ∧ (-160000000000000000 ≤ a.1 * b.1 ∧ a.1 * b.1 ≤ 160000000000000000) := by
  obtain ⟨⟨h1, h2⟩, ⟨h3, h4⟩, _⟩ := (ratOk_iff _ _).1 h
  obtain ⟨⟨k1, k2⟩, ⟨k3, k4⟩, _⟩ := (ratOk_iff _ _).1 h'
  have m1 := mul_bd2 a.1 b.2 400000000 400000000 h3 h4 (by omega) k2
  have m2 := mul_bd2 b.1 a.2 400000000 400000000 k3 k4 (by omega) h2
  have m3 := mul_bd a.2 b.2 400000000 400000000 (by omega) h2 (by omega) k2
  have m4 := mul_bd4 a.1 b.1 400000000 400000000 h3 h4 k3 k4
  have m5 : 1 * 1 ≤ a.2 * b.2 := Int.mul_le_mul h1 k1 (by omega) (by omega)
  omega
end Go.Proofs.Ytmcbhpaajjlmmaa

/-
  DERIVED. The contracts of firstCell, isZeroRow, row.
-/
namespace Go.Proofs.Ytmcbhpaajjlmmaa
open Go.RowKit
set_option linter.unusedVariables false
/-- The first place that is not 0; the length if there is none. -/
def fcN : List Int → Nat
  | [] => 0
  | x :: l => if x = 0 then fcN l + 1 else 0
def fcI (xs : List Int) : Int := if fcN xs < xs.length then (fcN xs : Int) else -1
theorem fcN_le : ∀ xs : List Int, fcN xs ≤ xs.length
  | [] => Nat.le_refl _
  | x :: l => by unfold fcN; have := fcN_le l; split <;> simp <;> omega
theorem fcN_zero : ∀ (xs : List Int) (j : Nat), j < fcN xs → xs.getD j 0 = 0
  | [], j, h => by simp [fcN] at h
  | x :: l, j, h => by
    unfold fcN at h
    split at h
    · rename_i h0
      match j, h with
      | 0, _ => simp [h0]
      | j + 1, h => simpa using fcN_zero l j (by omega)
    · omega
theorem fcN_ne : ∀ (xs : List Int), fcN xs < xs.length → xs.getD (fcN xs) 0 ≠ 0
  | [], h => by simp [fcN] at h
  | x :: l, h => by
    unfold fcN at h ⊢
    split
    · rename_i h0
      rw [if_pos h0] at h
      simpa using fcN_ne l (by simpa using h)
    · rename_i h0
      simpa using h0
theorem fcN_eq {xs : List Int} {k : Nat} (hk : k ≤ xs.length) (h0 : ∀ j, j < k → xs.getD j 0 = 0) (h1 : k < xs.length → xs.getD k 0 ≠ 0) : fcN xs = k := by
  rcases Nat.lt_trichotomy (fcN xs) k with h | h | h
  · exact absurd (h0 _ h) (fcN_ne xs (by omega))
  · exact h
  · have := fcN_le xs
    exact absurd (fcN_zero xs k h) (h1 (by omega))
/-- The first k are zeros. -/
def Zs (xs : List Int) (k : Nat) : Prop := ∀ j, j < k → xs.getD j 0 = 0
theorem Zs.succ {xs : List Int} {k : Nat} (h : Zs xs k) (h0 : xs.getD k 0 = 0) : Zs xs (k + 1) := fun j hj => by
  rcases Nat.lt_or_ge j k with h1 | h1
  · exact h j h1
  · obtain rfl : j = k := by omega
    exact h0

theorem firstCell_cl (x : Int) (w : World) : Calls Try.prog 208 #[.int .i64 x] w (EV (.bool (x != 0)) w) := by
  go_enter Try.func208, Try.ntmps208
  go_wp2
  go_ret
  exact EV.mk rfl
theorem IndexFunc_firstCell (A : Option Addr) (n cap : Nat) (xs : List Int) (w : World) {B : Nat} (h : RI w B A n xs) (hn : n ≤ 1048576) :
    Calls Try.prog 207 #[.slice A n cap, .func (.func 208) #[] #[]] w (EV (.int .i64 (fcI xs)) w) := by
  have hlen := h.len
  have hlx : xs.length ≤ n ∧ n ≤ xs.length := by omega
  have H := Lib.hid h
  clear h hlen
  go_enter Try.func207, Try.ntmps207
  go_wp2_with fail
  go_loop [8] (fun v => ∃ k : Nat, v = .int .i64 k ∧ k ≤ n ∧ Zs xs k) (fun v => n - (intOf v).toNat)
  case atStart => exact ⟨0, rfl, Nat.zero_le _, fun j h => absurd h (by omega)⟩
  case round =>
    obtain ⟨k, rfl, hk, hz⟩ := hrel
    have HZ := Lib.hid hz
    clear hz
    by_cases hlt : k < n
    · obtain ⟨b, o, rfl, hbb, hcells⟩ := H.out.2 (by omega)
      have c1 := hcells k hlt
      clear hcells
      by_cases hx : xs.getD k 0 = 0
      · have hxb : (xs.getD k 0 != 0) = false := by simpa using hx
        have hnz := Lib.hid (HZ.out.succ hx)
        clear hx
        generalize xs.getD k 0 = x at c1 hxb
        go_wp2_with fail
        refine (firstCell_cl x _).mono ?_
        rw [hxb]
        rintro e w' ⟨rfl, rfl⟩
        go_wp2_with fail
        go_round
        case rel => exact ⟨k + 1, by go_num, by omega, hnz.out⟩
        case measure => simp only [intOf]; omega
      · have hxb : (xs.getD k 0 != 0) = true := by simpa using hx
        have hfc := Lib.hid (show fcI xs = k by
          have := fcN_eq (show k ≤ xs.length by omega) HZ.out (fun _ => hx)
          unfold fcI; rw [this, if_pos (by omega)])
        clear hx
        generalize xs.getD k 0 = x at c1 hxb
        go_wp2_with fail
        refine (firstCell_cl x _).mono ?_
        rw [hxb]
        rintro e w' ⟨rfl, rfl⟩
        go_wp2_with fail
        go_ret
        exact EV.mk (vint hfc.out.symm)
    · have hfc := Lib.hid (show fcI xs = -1 by
        obtain rfl : k = n := by omega
        have := fcN_eq (show k ≤ xs.length by omega) HZ.out (fun h => absurd h (by omega))
        unfold fcI; rw [this, if_neg (by omega)])
      go_wp2_with fail
      go_ret
      exact EV.mk (vint hfc.out.symm)

theorem impl_firstCell (A : Option Addr) (n cap : Nat) (xs : List Int) (w : World) {B : Nat} (h : RI w B A n xs) (hn : n ≤ 1048576) :
    Calls Try.prog 159 #[.slice A n cap] w (EV (.int .i64 (fcI xs)) w) := by
  have H := Lib.hid h
  clear h
  go_enter Try.func159, Try.ntmps159
  go_wp2_with (go_at_call 207; refine (IndexFunc_firstCell A n cap xs _ H.out hn).mono ?_; rintro e w' ⟨rfl, rfl⟩)
  go_ret
  exact EV.mk rfl
end Go.Proofs.Ytmcbhpaajjlmmaa

/-
  DERIVED. Sums of products of ratios. No program in sight.
-/
namespace Go.Proofs.Ytmcbhpaajjlmmaa
set_option linter.unusedVariables false
/-- Ratio k of the flat list. -/
def fl (qs : List Int) (k : Nat) : Int × Int := (qs.getD (k * 2) 0, qs.getD (k * 2 + 1) 0)
def rsum (f g : Nat → Int × Int) : Nat → Int × Int
  | 0 => (0, 1)
  | k + 1 => addR (rsum f g k) (mulR (f k) (g k))
theorem rsum_ok (f g : Nat → Int × Int) : ∀ k, (ratOk (rsum f g k).1 (rsum f g k).2 = true) ∨ rsum f g k = (0, 0)
  | 0 => .inl (by show ratOk 0 1 = true; decide +kernel)
  | k + 1 => addR_ok _ _
def ratRow (xs : List Int) (C : Nat) (qs : List Int) (i : Nat) : Int × Int := rsum (fun k => (cel xs C i k, 1)) (fl qs) C
def ratRows (xs : List Int) (R C : Nat) (bs qs : List Int) : Bool := (List.range R).all fun i => decide (ratRow xs C qs i = (bs.getD i 0, 1))
def irB (r c : Int) (xs bs qs : List Int) : Bool := isMat r c xs && decide ((bs.length : Int) = r) && decide ((qs.length : Int) = c * 2) && ratRows xs r.toNat c.toNat bs qs
theorem ir_cases (r c : Int) (xs bs qs : List Int) : (isMat r c xs = false ∧ irB r c xs bs qs = false) ∨ (isMat r c xs = true ∧ ((bs.length : Int) != r) = true ∧ irB r c xs bs qs = false) ∨
    (isMat r c xs = true ∧ ((bs.length : Int) != r) = false ∧ ¬ (qs.length : Int) = c * 2 ∧ irB r c xs bs qs = false) ∨ (isMat r c xs = true ∧ ((bs.length : Int) != r) = false ∧ (qs.length : Int) = c * 2 ∧ irB r c xs bs qs = ratRows xs r.toNat c.toNat bs qs) := by
  unfold irB
  rcases isMat r c xs with _ | _
  · left; simp
  · right
    by_cases h : (bs.length : Int) = r
    · right
      by_cases h2 : (qs.length : Int) = c * 2
      · right; exact ⟨rfl, by simp [h], h2, by simp [h, h2]⟩
      · left; exact ⟨rfl, by simp [h], h2, by simp [h2]⟩
    · left; simp [h]
theorem ratRows_no {xs : List Int} {R C : Nat} {bs qs : List Int} {i : Nat} (hi : i < R) (h : ¬ ratRow xs C qs i = (bs.getD i 0, 1)) : ratRows xs R C bs qs = false := by
  unfold ratRows
  rw [List.all_eq_false]
  exact ⟨i, List.mem_range.2 hi, by rw [decide_eq_false h]; simp⟩
theorem ratRows_yes {xs : List Int} {R C : Nat} {bs qs : List Int} (h : ∀ i, i < R → ratRow xs C qs i = (bs.getD i 0, 1)) : ratRows xs R C bs qs = true := by
  unfold ratRows
  rw [List.all_eq_true]
  intro i hi
  exact decide_eq_true (h i (List.mem_range.1 hi))
end Go.Proofs.Ytmcbhpaajjlmmaa

/-
  DERIVED. The contract of row; rows as lists.
-/
namespace Go.Proofs.Ytmcbhpaajjlmmaa
open Go.RowKit
set_option linter.unusedVariables false
/-- Row i of rows of C cells. -/
def rowL (xs : List Int) (C i : Nat) : List Int := (xs.drop (i * C)).take C
theorem rowL_len {xs : List Int} {C i : Nat} (h : i * C + C ≤ xs.length) : (rowL xs C i).length = C := by
  simp [rowL]; omega
theorem rowL_getD {xs : List Int} {C i j : Nat} (hj : j < C) : (rowL xs C i).getD j 0 = cel xs C i j := by
  unfold rowL cel
  have e : ((i : Int) * (C : Int) + (j : Int)).toNat = i * C + j := by
    rw [← Int.natCast_mul, ← Int.natCast_add, Int.toNat_natCast]
  rw [e]
  simp [List.getD, hj, List.getElem?_drop]
/-- The call returned a slice that lies below block B and reads as ys. -/
def RowV (B C : Nat) (ys : List Int) (w : World) (e : Ending) (w' : World) : Prop := ∃ A' cap', e = .returned (.slice A' C cap') ∧ RI w' B A' C ys ∧ Below w.heap.size w w' ∧ C ≤ cap' ∧ cap' ≤ 9223372036854775807
theorem addr_add (b o k : Nat) : (⟨b, o, none⟩ : Addr).add k = ⟨b, o + k, none⟩ := by
  unfold Addr.add; split <;> simp_all
theorem RI.row {w : World} {B n C i : Nat} {A : Option Addr} {xs : List Int} (h : RI w B A n xs) (hk : i * C + C ≤ n) : RI w B (A.map fun x => x.add (i * C)) C (rowL xs C i) := by
  refine ⟨rowL_len (by rw [h.len]; exact hk), fun hC => ?_⟩
  obtain ⟨b, o, rfl, hb, hc⟩ := h.2 (by omega)
  refine ⟨b, o + i * C, by simp [addr_add], hb, fun k hk2 => ?_⟩
  rw [Nat.add_assoc, hc (i * C + k) (by omega), rowL_getD hk2]
  unfold cel
  rw [show ((i : Int) * (C : Int) + (k : Int)).toNat = i * C + k by rw [← Int.natCast_mul, ← Int.natCast_add, Int.toNat_natCast]]
theorem sub_mul_row (i C : Nat) : (i + 1) * C - i * C = C := by rw [Nat.add_mul, Nat.one_mul]; omega
theorem impl_row (r : Int) (C i : Nat) (A : Option Addr) (n cap : Nat) (xs : List Int) (w : World) {B : Nat} (h : RI w B A n xs) (hB : B ≤ w.heap.size) (hnc : n ≤ cap) (hcap : cap ≤ 9223372036854775807) (hC : C ≤ 1000) (hi : i ≤ 1000) (hk : i * C + C ≤ n) :
    Calls Try.prog 96 #[.agg #[.int .i64 r, .int .i64 C, .slice A n cap], .int .i64 i] w
      (RowV B C (rowL xs C i) w) := by
  have hlen := h.len
  have e1 : (i : Int) * (C : Int) = ((i * C : Nat) : Int) := by rw [Int.natCast_mul]
  have e2 : ((i : Int) + 1) * (C : Int) = ((i * C + C : Nat) : Int) := by rw [Int.add_mul, e1, Int.one_mul, ← Int.natCast_add]
  have hm : i * C ≤ 1000 * 1000 := Nat.mul_le_mul hi hC
  have E1 := Lib.hid e1
  have E2 := Lib.hid e2
  have b1 : 0 ≤ (i : Int) * (C : Int) := by omega
  have b2 : (i : Int) * (C : Int) ≤ 1000000 := by omega
  have b3 : 0 ≤ ((i : Int) + 1) * (C : Int) := by omega
  have b4 : ((i : Int) + 1) * (C : Int) ≤ 1001000 := by omega
  have b5 : (i : Int) * (C : Int) ≤ ((i : Int) + 1) * (C : Int) := by omega
  have b6 : ((i : Int) + 1) * (C : Int) ≤ cap := by omega
  have H := Lib.hid h
  clear h e1 e2 hlen
  go_enter Try.func96, Try.ntmps96
  go_wp2_with fail
  · go_ret
    have h0 : C = 0 := by omega
    refine ⟨A, 0, ?_, ?_, by (repeat (first | (with_reducible (first | exact Below.refl _ _ | assumption | refine below_drewN ?_ _ | refine Below.drew ?_ | refine Below.alloc ?_ ?_ _ | refine Below.setCell ?_ ?_ _ | refine below_i ?_)) | go_size)), by omega, by omega⟩
    · show Ending.returned (.slice A ((i + 1) * C - i * C) 0) = _
      rw [sub_mul_row]
    · subst h0
      exact ⟨by simp [rowL], fun h => absurd h (by omega)⟩
  · go_ret
    refine ⟨A.map fun x => x.add (i * C), cap - i * C, ?_, (H.out.row hk).alloc hB _, by (repeat (first | (with_reducible (first | exact Below.refl _ _ | assumption | refine below_drewN ?_ _ | refine Below.drew ?_ | refine Below.alloc ?_ ?_ _ | refine Below.setCell ?_ ?_ _ | refine below_i ?_)) | go_size)), by omega, by omega⟩
    show Ending.returned (.slice (A.map fun x => x.add (i * C)) ((i + 1) * C - i * C) (cap - i * C)) = _
    rw [sub_mul_row]
end Go.Proofs.Ytmcbhpaajjlmmaa

/-
  DERIVED. What a Hermite form asks, row by row: no program in sight.
-/
namespace Go.Proofs.Ytmcbhpaajjlmmaa
set_option linter.unusedVariables false
/-- The pivot of row i: the first column that is not 0, or the number of columns. -/
def pv (xs : List Int) (C i : Nat) : Nat := fcN (rowL xs C i)
def lastP (xs : List Int) (C i : Nat) : Int := if i = 0 then -1 else pv xs C (i - 1)
def hcA (xs : List Int) (C i k : Nat) : Bool := decide (0 ≤ cel xs C k (pv xs C i)) && decide (cel xs C k (pv xs C i) < cel xs C i (pv xs C i))
def hrow (xs : List Int) (C i : Nat) : Bool :=
  if pv xs C i < C then decide (lastP xs C i < pv xs C i) && decide (0 ≤ cel xs C i (pv xs C i)) && (List.range i).all (hcA xs C i) else true
def hcS (xs : List Int) (C i k : Nat) : Bool := if k < i then hcA xs C i k else if k = i then true else decide (cel xs C k (pv xs C i) = 0)
def hrowS (xs : List Int) (R C i : Nat) : Bool :=
  if pv xs C i < C then decide (lastP xs C i < pv xs C i) && decide (0 ≤ cel xs C i (pv xs C i)) && (List.range R).all (hcS xs C i) else true
def hermB (r c : Int) (xs : List Int) : Bool := isMat r c xs && (List.range r.toNat).all (hrow xs c.toNat)
theorem pv_le {xs : List Int} {R C i : Nat} (hl : xs.length = R * C) (hi : i < R) : pv xs C i ≤ C := by
  have h := fcN_le (rowL xs C i)
  rw [rowL_len (by rw [hl]; have := Nat.mul_le_mul_right C (show i + 1 ≤ R by omega); rw [Nat.add_mul, Nat.one_mul] at this; exact this)] at h
  exact h
theorem lastP_zero (xs : List Int) (C : Nat) : lastP xs C 0 = -1 := by simp [lastP]
theorem lastP_succ (xs : List Int) (C i : Nat) : lastP xs C (i + 1) = pv xs C i := by simp [lastP]
theorem pv_zero {xs : List Int} {C i j : Nat} (h : j < pv xs C i) (hj : j < C) : cel xs C i j = 0 := by
  rw [← rowL_getD hj]; exact fcN_zero _ _ h
theorem pv_inc {xs : List Int} {R C : Nat} (hl : xs.length = R * C) (h : (List.range R).all (hrow xs C) = true) {i : Nat} : ∀ k, i < k → k < R → pv xs C k < C → pv xs C i < pv xs C k := by
  intro k
  induction k with
  | zero => intro h1; omega
  | succ k ih =>
    intro h1 h2 h3
    have hk : hrow xs C (k + 1) = true := List.all_eq_true.1 h _ (List.mem_range.2 h2)
    unfold hrow at hk
    rw [if_pos h3, lastP_succ] at hk
    simp only [Bool.and_eq_true, decide_eq_true_eq] at hk
    have h4 := hk.1.1
    by_cases hik : i = k
    · subst hik; omega
    · have := ih (by omega) (by omega) (by omega); omega
theorem herm_iff {xs : List Int} {R C : Nat} (hl : xs.length = R * C) : (List.range R).all (hrow xs C) = (List.range R).all (hrowS xs R C) := by
  rw [Bool.eq_iff_iff]
  constructor
  · intro h
    rw [List.all_eq_true]
    intro i hi
    have hi' := List.mem_range.1 hi
    have h1 : hrow xs C i = true := List.all_eq_true.1 h _ hi
    unfold hrow at h1
    unfold hrowS
    split
    · rename_i hp
      rw [if_pos hp] at h1
      simp only [Bool.and_eq_true] at h1 ⊢
      refine ⟨h1.1, ?_⟩
      rw [List.all_eq_true]
      intro k hk
      have hk' := List.mem_range.1 hk
      unfold hcS
      split
      · rename_i hki
        exact List.all_eq_true.1 h1.2 k (List.mem_range.2 hki)
      · split
        · rfl
        · rw [decide_eq_true_eq]
          apply pv_zero _ hp
          by_cases hc : pv xs C k < C
          · exact pv_inc hl h k (by omega) hk' hc
          · have := pv_le hl hk'; omega
    · rfl
  · intro h
    rw [List.all_eq_true]
    intro i hi
    have hi' := List.mem_range.1 hi
    have h1 : hrowS xs R C i = true := List.all_eq_true.1 h _ hi
    unfold hrowS at h1
    unfold hrow
    split
    · rename_i hp
      rw [if_pos hp] at h1
      simp only [Bool.and_eq_true] at h1 ⊢
      refine ⟨h1.1, ?_⟩
      rw [List.all_eq_true]
      intro k hk
      have hk' := List.mem_range.1 hk
      have h2 : hcS xs C i k = true := List.all_eq_true.1 h1.2 k (List.mem_range.2 (by omega))
      unfold hcS at h2
      rw [if_pos hk'] at h2
      exact h2
    · rfl
theorem hermB_S (r c : Int) (xs : List Int) : hermB r c xs = (isMat r c xs && (List.range r.toNat).all (hrowS xs r.toNat c.toNat)) := by
  unfold hermB
  rcases hm : isMat r c xs with _ | _
  · rfl
  · have M := isMat_iff.1 hm
    rw [herm_iff]
    have h1 := M.len; have h2 := M.r0; have h3 := M.c0
    obtain ⟨R, rfl⟩ := nat_of h2
    obtain ⟨C, rfl⟩ := nat_of h3
    simp only [Int.toNat_natCast]
    rw [← Int.natCast_mul] at h1; omega
end Go.Proofs.Ytmcbhpaajjlmmaa

/-
  DERIVED. Primitive rows: no program in sight.
-/
namespace Go.Proofs.Ytmcbhpaajjlmmaa
set_option linter.unusedVariables false
/-- The greatest common divisor of a list. -/
def gcdL (l : List Int) : Nat := l.foldl (fun (g : Nat) (x : Int) => Int.gcd g x) 0
theorem gcdL_nil : gcdL [] = 0 := rfl
theorem gcdL_take {l : List Int} {k : Nat} (h : k < l.length) : gcdL (l.take (k + 1)) = Int.gcd (gcdL (l.take k)) (l.getD k 0) := by
  have e : l[k]? = some (l.getD k 0) := by simp [List.getD, h]
  rw [List.take_add_one, e]
  simp [gcdL, List.foldl_append]
theorem gcdF_dvd (l : List Int) : ∀ a : Nat, (l.foldl (fun (g : Nat) (x : Int) => Int.gcd g x) a) ∣ a ∧ ∀ x ∈ l, ((l.foldl (fun (g : Nat) (x : Int) => Int.gcd g x) a : Nat) : Int) ∣ x := by
  induction l with
  | nil => intro a; simp
  | cons y l ih =>
    intro a
    obtain ⟨h1, h2⟩ := ih (Int.gcd a y)
    have h3 : Int.gcd a y ∣ a := by
      have := Int.gcd_dvd_left (a := (a : Int)) (b := y); exact Int.natCast_dvd_natCast.1 this
    have h4 : ((Int.gcd a y : Nat) : Int) ∣ y := Int.gcd_dvd_right ..
    refine ⟨Nat.dvd_trans h1 h3, fun x hx => ?_⟩
    rcases List.mem_cons.1 hx with rfl | hx
    · exact Int.dvd_trans (Int.natCast_dvd_natCast.2 h1) h4
    · exact h2 x hx
theorem gcdL_dvd {l : List Int} {x : Int} (h : x ∈ l) : (gcdL l : Int) ∣ x := (gcdF_dvd l 0).2 x h
theorem gcdF_greatest (l : List Int) : ∀ (a d : Nat), d ∣ a → (∀ x ∈ l, (d : Int) ∣ x) → d ∣ l.foldl (fun (g : Nat) (x : Int) => Int.gcd g x) a := by
  induction l with
  | nil => intro a d h _; simpa using h
  | cons y l ih =>
    intro a d h h2
    refine ih _ d ?_ (fun x hx => h2 x (List.mem_cons_of_mem _ hx))
    exact Int.natCast_dvd_natCast.1 (Int.dvd_coe_gcd (Int.natCast_dvd_natCast.2 h) (h2 y (List.mem_cons_self ..)))
theorem dvd_gcdL {l : List Int} {d : Nat} (h : ∀ x ∈ l, (d : Int) ∣ x) : d ∣ gcdL l := gcdF_greatest l 0 d (Nat.dvd_zero _) h
theorem gcdL_zero {l : List Int} : gcdL l = 0 ↔ ∀ x ∈ l, x = 0 := by
  constructor
  · intro h x hx
    have := gcdL_dvd hx
    rw [h] at this
    simpa using this
  · intro h
    have : (0 : Nat) ∣ gcdL l := dvd_gcdL fun x hx => by rw [h x hx]; exact Int.dvd_zero _
    simpa using this
theorem mem_getD {l : List Int} {k : Nat} (h : k < l.length) : l.getD k 0 ∈ l := by
  have : l.getD k 0 = l[k] := by simp [List.getD, h]
  rw [this]; exact List.getElem_mem h
theorem fcN_lt_iff {l : List Int} : fcN l < l.length ↔ gcdL l ≠ 0 := by
  constructor
  · intro h h0
    exact fcN_ne l h (gcdL_zero.1 h0 _ (mem_getD h))
  · intro h
    apply Classical.byContradiction
    intro h1
    apply h
    rw [gcdL_zero]
    intro x hx
    obtain ⟨i, hi, rfl⟩ := List.mem_iff_getElem.1 hx
    have := fcN_zero l i (by have := fcN_le l; omega)
    simpa [List.getD, hi] using this
/-- The divisor of a row: its cells' greatest common divisor, with the sign of the first cell that is not 0. -/
def divL (l : List Int) : Int := if l.getD (fcN l) 0 < 0 then -(gcdL l : Int) else gcdL l
/-- The primitive row. -/
def primL (l : List Int) : List Int := if gcdL l = 0 then l else l.map (·.tdiv (divL l))
theorem primL_len (l : List Int) : (primL l).length = l.length := by unfold primL; split <;> simp
theorem divL_dvd {l : List Int} {x : Int} (h : x ∈ l) : divL l ∣ x := by
  unfold divL
  split
  · exact Int.neg_dvd.2 (gcdL_dvd h)
  · exact gcdL_dvd h
theorem divL_abs (l : List Int) : (divL l).natAbs = gcdL l := by unfold divL; split <;> omega
theorem map_tdiv_one {l : List Int} : l.map (·.tdiv 1) = l := by simp
/-- A row is primitive exactly if it is zeros or has no common divisor and begins with a positive number. -/
theorem primL_eq_iff (l : List Int) : primL l = l ↔ gcdL l = 0 ∨ (gcdL l = 1 ∧ 0 ≤ l.getD (fcN l) 0) := by
  unfold primL
  by_cases h0 : gcdL l = 0
  · simp [h0]
  · rw [if_neg h0]
    have hlt := fcN_lt_iff.2 h0
    have hm := mem_getD hlt
    have hne := fcN_ne l hlt
    constructor
    · intro h
      right
      have h1 : (l.map (·.tdiv (divL l))).getD (fcN l) 0 = l.getD (fcN l) 0 := by rw [h]
      have h2 : (l.map (·.tdiv (divL l))).getD (fcN l) 0 = (l.getD (fcN l) 0).tdiv (divL l) := by simp [List.getD, hlt]
      rw [h2] at h1
      obtain ⟨q, hq⟩ := divL_dvd hm
      have hd0 : divL l ≠ 0 := by
        intro e; have := divL_abs l; rw [e] at this; simp at this; omega
      have h3 : (l.getD (fcN l) 0).tdiv (divL l) = q := by rw [hq]; exact Int.mul_tdiv_cancel_left q hd0
      rw [h3] at h1
      have h4 : divL l = 1 := by
        have hq0 : q ≠ 0 := by rw [h1]; exact hne
        have : divL l * q = 1 * q := by rw [Int.one_mul, ← hq, h1]
        exact Int.eq_of_mul_eq_mul_right hq0 this
      have h5 := divL_abs l
      rw [h4] at h5
      refine ⟨by simpa using h5.symm, ?_⟩
      rcases Int.lt_or_le (l.getD (fcN l) 0) 0 with h6 | h6
      · unfold divL at h4; rw [if_pos h6] at h4; omega
      · exact h6
    · rintro (h | ⟨h1, h2⟩)
      · exact absurd h h0
      · have h3 : divL l = 1 := by unfold divL; rw [if_neg (by omega), h1]; rfl
        rw [h3, map_tdiv_one]
end Go.Proofs.Ytmcbhpaajjlmmaa

/-
  DERIVED. A window of a list: what lies from off on, m of them; the window put back. No program in sight.
-/
namespace Go.Proofs.Ytmcbhpaajjlmmaa
set_option linter.unusedVariables false
def winL (xs : List Int) (off m : Nat) : List Int := (xs.drop off).take m
/-- xs with ys from off on. -/
def splL (xs : List Int) (off : Nat) (ys : List Int) : List Int := xs.take off ++ ys ++ xs.drop (off + ys.length)
theorem winL_len {xs : List Int} {off m : Nat} (h : off + m ≤ xs.length) : (winL xs off m).length = m := by simp [winL]; omega
theorem winL_getD {xs : List Int} {off m k : Nat} (hk : k < m) : (winL xs off m).getD k 0 = xs.getD (off + k) 0 := by
  simp [winL, List.getD, hk, List.getElem?_drop]
theorem splL_len {xs ys : List Int} {off : Nat} (h : off + ys.length ≤ xs.length) : (splL xs off ys).length = xs.length := by
  simp [splL]; omega
theorem splL_win {xs : List Int} {off m : Nat} (h : off + m ≤ xs.length) : splL xs off (winL xs off m) = xs := by
  unfold splL
  rw [winL_len h]
  unfold winL
  rw [List.append_assoc, ← List.drop_drop, List.take_append_drop, List.take_append_drop]
theorem splL_getD {xs ys : List Int} {off k : Nat} (h : off + ys.length ≤ xs.length) (hk : k < ys.length) : (splL xs off ys).getD (off + k) 0 = ys.getD k 0 := by
  unfold splL
  simp only [List.getD]
  rw [List.append_assoc, List.getElem?_append_right (by simp; omega)]
  rw [List.getElem?_append_left (by simp; omega)]
  congr 2
  simp; omega
theorem splL_set {xs ys : List Int} {off k : Nat} {v : Int} (h : off + ys.length ≤ xs.length) (hk : k < ys.length) : (splL xs off ys).set (off + k) v = splL xs off (ys.set k v) := by
  unfold splL
  rw [List.length_set, List.append_assoc, List.append_assoc, List.set_append_right _ _ (by simp; omega)]
  congr 1
  have e : off + k - (xs.take off).length = k := by simp; omega
  rw [e, List.set_append_left _ _ hk]
/-- The first k of ys, then the rest of zs. -/
def mixL (ys zs : List Int) (k : Nat) : List Int := ys.take k ++ zs.drop k
theorem mixL_len {ys zs : List Int} {k : Nat} (h : ys.length = zs.length) (hk : k ≤ zs.length) : (mixL ys zs k).length = zs.length := by simp [mixL]; omega
theorem mixL_zero (ys zs : List Int) : mixL ys zs 0 = zs := by simp [mixL]
theorem mixL_all {ys zs : List Int} {k : Nat} (h : ys.length = zs.length) (hk : zs.length ≤ k) : mixL ys zs k = ys := by
  simp [mixL, List.drop_of_length_le hk, List.take_of_length_le (show ys.length ≤ k by omega)]
theorem mixL_at {ys zs : List Int} {k : Nat} (h : ys.length = zs.length) (hk : k < zs.length) : (mixL ys zs k).getD k 0 = zs.getD k 0 := by
  simp only [mixL, List.getD]
  rw [List.getElem?_append_right (by simp; omega)]
  simp [Nat.min_eq_left (show k ≤ ys.length by omega)]
theorem mixL_set {ys zs : List Int} {k : Nat} (h : ys.length = zs.length) (hk : k < zs.length) : (mixL ys zs k).set k (ys.getD k 0) = mixL ys zs (k + 1) := by
  unfold mixL
  apply List.ext_getElem?
  intro i
  grind
theorem primL_getD {l : List Int} {k : Nat} (hk : k < l.length) (hg : gcdL l ≠ 0) : (primL l).getD k 0 = (l.getD k 0).tdiv (divL l) := by
  unfold primL
  rw [if_neg hg]
  simp [List.getD, hk]
end Go.Proofs.Ytmcbhpaajjlmmaa

/-
  DERIVED. Products of matrices, turned matrices, as lists of cells: no program in sight.
-/
namespace Go.Proofs.Ytmcbhpaajjlmmaa
set_option linter.unusedVariables false
/-- The sum of f from 0 on, k of them. -/
def sumTo (f : Nat → Int) : Nat → Int
  | 0 => 0
  | k + 1 => sumTo f k + f k
/-- A list of n numbers, place by place. -/
def tab (n : Nat) (f : Nat → Int) : List Int := (List.range n).map f
theorem tab_len (n : Nat) (f : Nat → Int) : (tab n f).length = n := by simp [tab]
theorem tab_getD {n : Nat} {f : Nat → Int} {k : Nat} (h : k < n) : (tab n f).getD k 0 = f k := by simp [tab, List.getD, h]
def prodAt (xs : List Int) (c : Nat) (ys : List Int) (c2 i j : Nat) : Int := sumTo (fun k => cel xs c i k * cel ys c2 k j) c
/-- The product of r rows of c cells and c rows of c2 cells. -/
def mulL (xs : List Int) (r c : Nat) (ys : List Int) (c2 : Nat) : List Int := tab (r * c2) fun q => prodAt xs c ys c2 (q / c2) (q % c2)
theorem mulL_len (xs : List Int) (r c : Nat) (ys : List Int) (c2 : Nat) : (mulL xs r c ys c2).length = r * c2 := tab_len _ _
theorem idx_nat {r c i j : Nat} (hi : i < r) (hj : j < c) : i * c + j < r * c := by
  have h3 := Nat.mul_le_mul_right c (show i + 1 ≤ r by omega)
  rw [Nat.add_mul, Nat.one_mul] at h3; omega
theorem idx_div {c i j : Nat} (hj : j < c) : (i * c + j) / c = i ∧ (i * c + j) % c = j := by
  have hc : 0 < c := by omega
  rw [Nat.mul_comm]
  exact ⟨by rw [Nat.mul_add_div hc, Nat.div_eq_of_lt hj, Nat.add_zero], by rw [Nat.mul_add_mod, Nat.mod_eq_of_lt hj]⟩
theorem mulL_at {xs ys : List Int} {r c c2 i j : Nat} (hi : i < r) (hj : j < c2) : (mulL xs r c ys c2).getD (i * c2 + j) 0 = prodAt xs c ys c2 i j := by
  unfold mulL
  rw [tab_getD (idx_nat hi hj), (idx_div hj).1, (idx_div hj).2]
theorem sumTo_bd {f : Nat → Int} {b : Int} (hb : 0 ≤ b) : ∀ k, (∀ i, i < k → -b ≤ f i ∧ f i ≤ b) → -(b * k) ≤ sumTo f k ∧ sumTo f k ≤ b * k
  | 0, _ => by simp [sumTo]
  | k + 1, h => by
    obtain ⟨h1, h2⟩ := sumTo_bd hb k (fun i hi => h i (by omega))
    obtain ⟨h3, h4⟩ := h k (by omega)
    have e : b * ((k + 1 : Nat) : Int) = b * k + b := by
      rw [show ((k + 1 : Nat) : Int) = (k : Int) + 1 by omega, Int.mul_add, Int.mul_one]
    simp only [sumTo]
    omega
/-- Rows and columns exchanged. -/
def turnL (xs : List Int) (r c : Nat) : List Int := tab (c * r) fun q => cel xs c (q % r : Nat) (q / r : Nat)
theorem turnL_len (xs : List Int) (r c : Nat) : (turnL xs r c).length = c * r := tab_len _ _
theorem turnL_at {xs : List Int} {r c i j : Nat} (hi : i < r) (hj : j < c) : (turnL xs r c).getD (j * r + i) 0 = cel xs c i j := by
  unfold turnL
  rw [tab_getD (idx_nat hj hi), (idx_div hi).1, (idx_div hi).2]
/-- The product, if both are matrices that fit, and it is one. -/
def mulB (r c : Int) (xs : List Int) (r2 c2 : Int) (ys : List Int) : Bool :=
  isMat r c xs && isMat r2 c2 ys && decide (c = r2) && isMat r c2 (mulL xs r.toNat c.toNat ys c2.toNat)
def mulM (r c : Int) (xs : List Int) (r2 c2 : Int) (ys : List Int) : Mx := if mulB r c xs r2 c2 ys then ⟨r, c2, mulL xs r.toNat c.toNat ys c2.toNat⟩ else .none
theorem cel_nat (xs : List Int) (C i j : Nat) : cel xs C i j = xs.getD (i * C + j) 0 := by
  unfold cel
  rw [show ((i : Int) * (C : Int) + (j : Int)).toNat = i * C + j by rw [← Int.natCast_mul, ← Int.natCast_add, Int.toNat_natCast]]
end Go.Proofs.Ytmcbhpaajjlmmaa

/-
  DERIVED. A matrix as a function of row and column: no program in sight.
-/
namespace Go.Proofs.Ytmcbhpaajjlmmaa
set_option linter.unusedVariables false
/-- R rows of C cells. -/
def tb (R C : Nat) (f : Nat → Nat → Int) : List Int := tab (R * C) fun q => f (q / C) (q % C)
theorem tb_len (R C : Nat) (f : Nat → Nat → Int) : (tb R C f).length = R * C := tab_len _ _
theorem tb_at {R C i j : Nat} {f : Nat → Nat → Int} (hi : i < R) (hj : j < C) : (tb R C f).getD (i * C + j) 0 = f i j := by
  unfold tb
  rw [tab_getD (idx_nat hi hj), (idx_div hj).1, (idx_div hj).2]
theorem cel_tb {R C i j : Nat} {f : Nat → Nat → Int} (hi : i < R) (hj : j < C) : cel (tb R C f) C i j = f i j := by
  rw [cel_nat, tb_at hi hj]
theorem tb_ext {R C : Nat} {f g : Nat → Nat → Int} (h : ∀ i j, i < R → j < C → f i j = g i j) : tb R C f = tb R C g := by
  unfold tb tab
  apply List.map_congr_left
  intro q hq
  have hq' := List.mem_range.1 hq
  have hC : 0 < C := by
    rcases Nat.eq_zero_or_pos C with h0 | h0
    · subst h0; simp at hq'
    · exact h0
  exact h _ _ (Nat.div_lt_of_lt_mul (by rw [Nat.mul_comm]; exact hq')) (Nat.mod_lt _ hC)
/-- One cell anew. -/
def upd (f : Nat → Nat → Int) (i j : Nat) (v : Int) : Nat → Nat → Int := fun a b => if a = i ∧ b = j then v else f a b
theorem tb_set {R C i j : Nat} {f : Nat → Nat → Int} {v : Int} (hi : i < R) (hj : j < C) : (tb R C f).set (i * C + j) v = tb R C (upd f i j v) := by
  unfold tb tab
  apply List.ext_getElem?
  intro q
  rw [List.getElem?_set]
  have hC : 0 < C := by omega
  have hd := idx_div (i := i) hj
  have hlt := idx_nat hi hj
  by_cases hq : i * C + j = q
  · subst hq
    simp [hlt, upd, hd.1, hd.2]
  · rw [if_neg hq]
    by_cases hqs : q < R * C
    · have e : ¬ (q / C = i ∧ q % C = j) := by
        rintro ⟨rfl, rfl⟩
        exact hq (by rw [Nat.mul_comm]; exact Nat.div_add_mod q C)
      simp [hqs, upd, e]
    · simp [hqs]
theorem tb_of {xs : List Int} {R C : Nat} (h : xs.length = R * C) : xs = tb R C (fun i j => cel xs C i j) := by
  apply List.ext_getElem?
  intro q
  by_cases hq : q < R * C
  · have hC : 0 < C := by
      rcases Nat.eq_zero_or_pos C with h0 | h0
      · subst h0; simp at hq
      · exact h0
    have e1 : q / C * C + q % C = q := by rw [Nat.mul_comm]; exact Nat.div_add_mod q C
    unfold tb tab
    simp only [List.getElem?_map, List.getElem?_range hq, Option.map_some, cel_nat, e1]
    simp [List.getD, show q < xs.length by omega]
  · rw [List.getElem?_eq_none (by omega), List.getElem?_eq_none (by rw [tb_len]; omega)]
theorem tb_mem {R C : Nat} {f : Nat → Nat → Int} {P : Int → Prop} (h : ∀ i j, i < R → j < C → P (f i j)) : ∀ x ∈ tb R C f, P x := by
  intro x hx
  unfold tb tab at hx
  obtain ⟨q, hq, rfl⟩ := List.mem_map.1 hx
  have hq' := List.mem_range.1 hq
  have hC : 0 < C := by
    rcases Nat.eq_zero_or_pos C with h0 | h0
    · subst h0; simp at hq'
    · exact h0
  exact h _ _ (Nat.div_lt_of_lt_mul (by rw [Nat.mul_comm]; exact hq')) (Nat.mod_lt _ hC)
/-- Rows p and t exchanged. -/
def swF (f : Nat → Nat → Int) (p t : Nat) : Nat → Nat → Int := fun i k => f (if i = p then t else if i = t then p else i) k
theorem swF_same (f : Nat → Nat → Int) (t : Nat) : swF f t t = f := by
  funext i k
  unfold swF
  split
  · rename_i h; rw [h]
  · rfl
theorem swF_t (f : Nat → Nat → Int) (k t c : Nat) : swF f k t t c = f k c := by
  unfold swF
  split
  · rename_i h; rw [h]
  · rw [if_pos rfl]
/-- Exchanged in the first k columns. -/
def swK (f : Nat → Nat → Int) (p t k : Nat) : Nat → Nat → Int := fun i c => if c < k then swF f p t i c else f i c
theorem swK_zero (f : Nat → Nat → Int) (p t : Nat) : swK f p t 0 = f := by funext i c; simp [swK]
theorem swK_step {f : Nat → Nat → Int} {p t k : Nat} (h : p ≠ t) : upd (upd (swK f p t k) p k (f t k)) t k (f p k) = swK f p t (k + 1) := by
  funext i c
  unfold upd swK swF
  grind
theorem swK_end {R C : Nat} (f : Nat → Nat → Int) (p t : Nat) : tb R C (swK f p t C) = tb R C (swF f p t) := tb_ext fun i j hi hj => by unfold swK; rw [if_pos hj]
/-- The first row from k on, n of them, that has something in column j. -/
def fnd (f : Nat → Nat → Int) (j : Nat) : Nat → Nat → Nat
  | 0, k => k
  | n + 1, k => if f k j = 0 then fnd f j n (k + 1) else k
theorem fnd_le (f : Nat → Nat → Int) (j : Nat) : ∀ n k, k ≤ fnd f j n k ∧ fnd f j n k ≤ k + n
  | 0, k => ⟨Nat.le_refl _, Nat.le_refl _⟩
  | n + 1, k => by
    unfold fnd
    have := fnd_le f j n (k + 1)
    split <;> omega
theorem fnd_ne (f : Nat → Nat → Int) (j : Nat) : ∀ n k, fnd f j n k < k + n → f (fnd f j n k) j ≠ 0
  | 0, k, h => by simp [fnd] at h
  | n + 1, k, h => by
    unfold fnd at h ⊢
    split
    · rename_i h0
      rw [if_pos h0] at h
      exact fnd_ne f j n (k + 1) (by omega)
    · rename_i h0
      exact h0
theorem fnd_next {f : Nat → Nat → Int} {j R k : Nat} (hk : k < R) (h0 : f k j = 0) : fnd f j (R - k) k = fnd f j (R - (k + 1)) (k + 1) := by
  rw [show R - k = (R - (k + 1)) + 1 by omega]
  conv => lhs; unfold fnd
  rw [if_pos h0]
theorem fnd_here {f : Nat → Nat → Int} {j R k : Nat} (hk : k < R) (h0 : f k j ≠ 0) : fnd f j (R - k) k = k := by
  rw [show R - k = (R - (k + 1)) + 1 by omega]
  unfold fnd
  rw [if_neg h0]
theorem fnd_end (f : Nat → Nat → Int) (j R : Nat) : fnd f j (R - R) R = R := by rw [Nat.sub_self]; rfl
end Go.Proofs.Ytmcbhpaajjlmmaa

/-
  DERIVED. What an echelon form asks, row by row: no program in sight.
-/
namespace Go.Proofs.Ytmcbhpaajjlmmaa
set_option linter.unusedVariables false
def ezc (xs : List Int) (C i k : Nat) : Bool := decide (k = i) || decide (cel xs C k (pv xs C i) = 0)
def erow (xs : List Int) (R C i : Nat) : Bool :=
  if pv xs C i < C then decide (lastP xs C i < pv xs C i) && decide (0 ≤ cel xs C i (pv xs C i)) && decide (gcdL (rowL xs C i) = 1) && (List.range R).all (ezc xs C i) else true
def echB (r c : Int) (xs : List Int) : Bool := isMat r c xs && (List.range r.toNat).all (erow xs r.toNat c.toNat)
/-- The row is primitive exactly if the reference finds nothing wrong with it. -/
theorem prim_row {xs : List Int} {C i : Nat} (hl : (rowL xs C i).length = C) (hp : pv xs C i < C) : primL (rowL xs C i) = rowL xs C i ↔ (gcdL (rowL xs C i) = 1 ∧ 0 ≤ cel xs C i (pv xs C i)) := by
  have h1 := primL_eq_iff (rowL xs C i)
  have h2 : gcdL (rowL xs C i) ≠ 0 := fcN_lt_iff.1 (by rw [hl]; exact hp)
  rw [h1, ← rowL_getD hp]
  simp only [h2, false_or]
  exact Iff.rfl
theorem prim_row0 {xs : List Int} {C i : Nat} (hl : (rowL xs C i).length = C) (hp : ¬ pv xs C i < C) : primL (rowL xs C i) = rowL xs C i := by
  have h1 := primL_eq_iff (rowL xs C i)
  rw [h1]
  left
  apply Classical.byContradiction
  intro h
  exact hp (by have := fcN_lt_iff.2 h; rw [hl] at this; exact this)
theorem spl_all {xs : List Int} {n : Nat} (h : xs.length = n) : splL xs 0 (primL (winL xs 0 n)) = primL xs := by
  have e : winL xs 0 n = xs := by simp [winL, ← h]
  rw [e]
  simp [splL, primL_len]
theorem gcdF_le' (l : List Int) (M : Nat) (h : ∀ x ∈ l, x.natAbs ≤ M) : ∀ a : Nat, a ≤ M → l.foldl (fun (g : Nat) (x : Int) => Int.gcd g x) a ≤ M := by
  induction l with
  | nil => intro a ha; simpa using ha
  | cons y l ih =>
    intro a ha
    refine ih (fun x hx => h x (List.mem_cons_of_mem _ hx)) _ ?_
    show Int.gcd a y ≤ M
    by_cases hy : y = 0
    · subst hy; simpa using ha
    · have h1 : Int.gcd a y ∣ y.natAbs := Int.gcd_dvd_natAbs_right ..
      have h2 := Nat.le_of_dvd (by omega) h1
      have := h y (List.mem_cons_self ..)
      omega
end Go.Proofs.Ytmcbhpaajjlmmaa

/-
  DERIVED. The reduced echelon form with primitive rows: no program in sight.
-/
namespace Go.Proofs.Ytmcbhpaajjlmmaa
set_option linter.unusedVariables false
/-- Row i, as a list. -/
def rw_ (C : Nat) (f : Nat → Nat → Int) (i : Nat) : List Int := tab C (f i)
theorem rw_len (C : Nat) (f : Nat → Nat → Int) (i : Nat) : (rw_ C f i).length = C := tab_len _ _
theorem rw_at {C : Nat} {f : Nat → Nat → Int} {i c : Nat} (h : c < C) : (rw_ C f i).getD c 0 = f i c := tab_getD h
theorem win_tb {R C i : Nat} {f : Nat → Nat → Int} (hi : i < R) : winL (tb R C f) (i * C) C = rw_ C f i := by
  have hl : i * C + C ≤ (tb R C f).length := by
    rw [tb_len]; have h3 := Nat.mul_le_mul_right C (show i + 1 ≤ R by omega); rw [Nat.add_mul, Nat.one_mul] at h3; exact h3
  apply List.ext_getElem?
  intro c
  by_cases hc : c < C
  · have h1 : (winL (tb R C f) (i * C) C).getD c 0 = f i c := by rw [winL_getD hc, tb_at hi hc]
    have h2 := rw_at (f := f) (i := i) hc
    have l1 := winL_len hl
    have l2 := rw_len C f i
    rw [List.getElem?_eq_getElem (by omega), List.getElem?_eq_getElem (by omega)]
    simp [List.getD, show c < (winL (tb R C f) (i * C) C).length by omega] at h1
    simp [List.getD, show c < (rw_ C f i).length by omega] at h2
    rw [h1, h2]
  · rw [List.getElem?_eq_none (by rw [winL_len hl]; omega), List.getElem?_eq_none (by rw [rw_len]; omega)]
/-- Row i anew. -/
def setR (f : Nat → Nat → Int) (i : Nat) (ys : List Int) : Nat → Nat → Int := fun a c => if a = i then ys.getD c 0 else f a c
theorem spl_tb {R C i : Nat} {f : Nat → Nat → Int} {ys : List Int} (hi : i < R) (hy : ys.length = C) : splL (tb R C f) (i * C) ys = tb R C (setR f i ys) := by
  have hl : i * C + C ≤ R * C := by
    have h3 := Nat.mul_le_mul_right C (show i + 1 ≤ R by omega); rw [Nat.add_mul, Nat.one_mul] at h3; exact h3
  have hlen : (splL (tb R C f) (i * C) ys).length = R * C := by rw [splL_len (by rw [tb_len, hy]; exact hl), tb_len]
  rw [tb_of hlen]
  apply tb_ext
  intro a c ha hc
  rw [cel_nat]
  unfold setR
  by_cases hai : a = i
  · subst hai
    rw [if_pos rfl, splL_getD (by rw [tb_len, hy]; exact hl) (by omega)]
  · rw [if_neg hai]
    have hq := idx_nat ha hc
    rw [← tb_at (f := f) ha hc]
    have htl : ((tb R C f).take (i * C)).length = i * C := by rw [List.length_take, tb_len]; omega
    unfold splL
    simp only [List.getD]
    congr 1
    rcases Nat.lt_or_gt_of_ne hai with h | h
    · have h1 : a * C + c < i * C := by
        have h3 := Nat.mul_le_mul_right C (show a + 1 ≤ i by omega); rw [Nat.add_mul, Nat.one_mul] at h3; omega
      rw [List.append_assoc, List.getElem?_append_left (by rw [htl]; exact h1), List.getElem?_take_of_lt h1]
    · have h1 : i * C + C ≤ a * C + c := by
        have h3 := Nat.mul_le_mul_right C (show i + 1 ≤ a by omega); rw [Nat.add_mul, Nat.one_mul] at h3; omega
      rw [List.getElem?_append_right (by rw [List.length_append, htl, hy]; exact h1), List.getElem?_drop, List.length_append, htl, hy]
      congr 1
      omega
/-- The primitive row i. -/
def prF (C : Nat) (f : Nat → Nat → Int) (i : Nat) : Nat → Nat → Int := setR f i (primL (rw_ C f i))
def prK (C : Nat) (f : Nat → Nat → Int) (m : Nat) : Nat → Nat → Int := fun i c => if i < m then (primL (rw_ C f i)).getD c 0 else f i c
theorem prK_zero (C : Nat) (f : Nat → Nat → Int) : prK C f 0 = f := by funext i c; simp [prK]
theorem rw_ext {C : Nat} {f g : Nat → Nat → Int} {i k : Nat} (h : ∀ c, c < C → f i c = g k c) : rw_ C f i = rw_ C g k := by
  unfold rw_ tab
  apply List.map_congr_left
  intro c hc
  exact h c (List.mem_range.1 hc)
theorem prK_step (C : Nat) (f : Nat → Nat → Int) (m : Nat) : prF C (prK C f m) m = prK C f (m + 1) := by
  have e : rw_ C (prK C f m) m = rw_ C f m := rw_ext fun c hc => by simp [prK]
  funext i c
  unfold prF setR
  rw [e]
  unfold prK
  by_cases h : i = m
  · subst h; simp
  · rw [if_neg h]
    by_cases h2 : i < m
    · rw [if_pos h2, if_pos (by omega)]
    · rw [if_neg h2, if_neg (by omega)]
theorem rw_prK {C : Nat} {f : Nat → Nat → Int} {m i : Nat} (h : i < m) : rw_ C (prK C f m) i = primL (rw_ C f i) := by
  apply List.ext_getElem?
  intro c
  by_cases hc : c < C
  · have h1 := rw_at (f := prK C f m) (i := i) hc
    have h2 : prK C f m i c = (primL (rw_ C f i)).getD c 0 := by simp [prK, h]
    rw [h2] at h1
    have l1 := rw_len C (prK C f m) i
    have l2 := primL_len (rw_ C f i)
    rw [rw_len] at l2
    rw [List.getElem?_eq_getElem (by omega), List.getElem?_eq_getElem (by omega)]
    simp [List.getD, show c < (rw_ C (prK C f m) i).length by omega, show c < (primL (rw_ C f i)).length by omega] at h1
    rw [h1]
  · rw [List.getElem?_eq_none (by rw [rw_len]; omega), List.getElem?_eq_none (by rw [primL_len, rw_len]; omega)]
theorem rw_setR {C : Nat} {f : Nat → Nat → Int} {i : Nat} {ys : List Int} (hy : ys.length = C) : rw_ C (setR f i ys) i = ys := by
  apply List.ext_getElem?
  intro c
  by_cases hc : c < C
  · have h1 := rw_at (f := setR f i ys) (i := i) hc
    have h2 : setR f i ys i c = ys.getD c 0 := by simp [setR]
    rw [h2] at h1
    have l1 := rw_len C (setR f i ys) i
    rw [List.getElem?_eq_getElem (by omega), List.getElem?_eq_getElem (by omega)]
    simp [List.getD, show c < (rw_ C (setR f i ys) i).length by omega, show c < ys.length by omega] at h1
    rw [h1]
  · rw [List.getElem?_eq_none (by rw [rw_len]; omega), List.getElem?_eq_none (by omega)]
theorem rw_setR_ne {C : Nat} {f : Nat → Nat → Int} {i k : Nat} {ys : List Int} (h : k ≠ i) : rw_ C (setR f i ys) k = rw_ C f k := rw_ext fun c hc => by simp [setR, h]
theorem primL_idem (l : List Int) : primL (primL l) = primL l := by
  by_cases h0 : gcdL l = 0
  · have e : primL l = l := (primL_eq_iff l).2 (.inl h0)
    rw [e, e]
  · rw [primL_eq_iff]
    right
    have hlt := fcN_lt_iff.2 h0
    have hd0 : divL l ≠ 0 := by intro e; have := divL_abs l; rw [e] at this; simp at this; omega
    have hab := divL_abs l
    have hmem : ∀ x ∈ l, ∃ q, x = divL l * q ∧ x.tdiv (divL l) = q := fun x hx => by
      obtain ⟨q, hq⟩ := divL_dvd hx
      exact ⟨q, hq, by rw [hq]; exact Int.mul_tdiv_cancel_left q hd0⟩
    have hfc : fcN (primL l) = fcN l := by
      refine fcN_eq (by rw [primL_len]; omega) (fun j hj => ?_) (fun _ => ?_)
      · rw [primL_getD (by omega) h0, fcN_zero l j hj]; simp
      · rw [primL_getD hlt h0]
        obtain ⟨q, hq, hq2⟩ := hmem _ (mem_getD hlt)
        rw [hq2]
        intro e
        rw [e, Int.mul_zero] at hq
        exact fcN_ne l hlt hq
    obtain ⟨q0, hq0, hq02⟩ := hmem _ (mem_getD hlt)
    have hpos : 0 < q0 := by
      have hne := fcN_ne l hlt
      have hg : (0 : Int) < gcdL l := by omega
      by_cases hneg : l.getD (fcN l) 0 < 0
      · have e : divL l = -(gcdL l : Int) := by unfold divL; rw [if_pos hneg]
        rw [e] at hq0
        apply Classical.byContradiction
        intro h
        have h1 : 0 ≤ (gcdL l : Int) * -q0 := Int.mul_nonneg (by omega) (by omega)
        rw [Int.mul_neg] at h1
        rw [Int.neg_mul] at hq0
        omega
      · have e : divL l = (gcdL l : Int) := by unfold divL; rw [if_neg hneg]
        rw [e] at hq0
        apply Classical.byContradiction
        intro h
        have h1 : 0 ≤ (gcdL l : Int) * -q0 := Int.mul_nonneg (by omega) (by omega)
        rw [Int.mul_neg] at h1
        omega
    refine ⟨?_, ?_⟩
    · have hdv : gcdL (primL l) * gcdL l ∣ gcdL l := dvd_gcdL fun x hx => by
        obtain ⟨q, hq, hq2⟩ := hmem x hx
        have hxm : x.tdiv (divL l) ∈ primL l := by unfold primL; rw [if_neg h0]; exact List.mem_map.2 ⟨x, hx, rfl⟩
        have h1 := gcdL_dvd hxm
        rw [hq2] at h1
        rw [hq, Int.natCast_mul, Int.mul_comm]
        refine Int.mul_dvd_mul ?_ h1
        rw [← hab]
        exact Int.natAbs_dvd.2 (Int.dvd_refl _)
      have hle := Nat.le_of_dvd (by omega) hdv
      have hne : gcdL (primL l) ≠ 0 := by
        rw [← fcN_lt_iff, hfc, primL_len]; exact hlt
      have h2 : gcdL (primL l) * gcdL l ≤ 1 * gcdL l := by omega
      have h3 := Nat.le_of_mul_le_mul_right h2 (by omega)
      omega
    · rw [hfc, primL_getD hlt h0, hq02]; omega
theorem primL_bd {l : List Int} {M : Nat} (h : ∀ k, (l.getD k 0).natAbs ≤ M) (k : Nat) : ((primL l).getD k 0).natAbs ≤ M := by
  by_cases h0 : gcdL l = 0
  · rw [(primL_eq_iff l).2 (.inl h0)]; exact h k
  · by_cases hk : k < l.length
    · rw [primL_getD hk h0, Int.natAbs_tdiv]
      exact Nat.le_trans (Nat.div_le_self _ _) (h k)
    · simp [List.getD, List.getElem?_eq_none (show (primL l).length ≤ k by rw [primL_len]; omega)]
end Go.Proofs.Ytmcbhpaajjlmmaa

/-
  DERIVED. A part of a row anew; a matrix of zeros. No program in sight.
-/
namespace Go.Proofs.Ytmcbhpaajjlmmaa
set_option linter.unusedVariables false
theorem splL_get {xs ys : List Int} {off q : Nat} (h : off + ys.length ≤ xs.length) : (splL xs off ys).getD q 0 = if off ≤ q ∧ q < off + ys.length then ys.getD (q - off) 0 else xs.getD q 0 := by
  by_cases h1 : off ≤ q ∧ q < off + ys.length
  · rw [if_pos h1]
    have := splL_getD (xs := xs) (ys := ys) (off := off) (k := q - off) h (by omega)
    rw [show off + (q - off) = q by omega] at this
    exact this
  · rw [if_neg h1]
    have htl : (xs.take off).length = off := by rw [List.length_take]; omega
    unfold splL
    simp only [List.getD]
    congr 1
    by_cases h2 : q < off
    · rw [List.append_assoc, List.getElem?_append_left (by omega), List.getElem?_take_of_lt h2]
    · rw [List.getElem?_append_right (by rw [List.length_append, htl]; omega), List.getElem?_drop, List.length_append, htl]
      congr 1
      omega
/-- Row i anew from place o on. -/
def setW (f : Nat → Nat → Int) (i o : Nat) (ys : List Int) : Nat → Nat → Int := fun a c => if a = i ∧ o ≤ c ∧ c < o + ys.length then ys.getD (c - o) 0 else f a c
theorem spl_tbo {R C i o : Nat} {f : Nat → Nat → Int} {ys : List Int} (hi : i < R) (hy : o + ys.length ≤ C) : splL (tb R C f) (i * C + o) ys = tb R C (setW f i o ys) := by
  have hl : i * C + C ≤ R * C := by
    have h3 := Nat.mul_le_mul_right C (show i + 1 ≤ R by omega); rw [Nat.add_mul, Nat.one_mul] at h3; exact h3
  have hf : i * C + o + ys.length ≤ (tb R C f).length := by rw [tb_len]; omega
  have hlen : (splL (tb R C f) (i * C + o) ys).length = R * C := by rw [splL_len hf, tb_len]
  rw [tb_of hlen]
  apply tb_ext
  intro a c ha hc
  rw [cel_nat, splL_get hf]
  unfold setW
  rcases Nat.lt_trichotomy a i with h | h | h
  · have h3 := Nat.mul_le_mul_right C (show a + 1 ≤ i by omega)
    rw [Nat.add_mul, Nat.one_mul] at h3
    rw [if_neg (by omega), if_neg (by omega), tb_at ha hc]
  · subst h
    by_cases h4 : o ≤ c ∧ c < o + ys.length
    · rw [if_pos (by omega), if_pos ⟨rfl, h4⟩]
      congr 1
      omega
    · rw [if_neg (by omega), if_neg (by omega), tb_at ha hc]
  · have h3 := Nat.mul_le_mul_right C (show i + 1 ≤ a by omega)
    rw [Nat.add_mul, Nat.one_mul] at h3
    rw [if_neg (by omega), if_neg (by omega), tb_at ha hc]
theorem tb_zeros (R C : Nat) : tb R C (fun _ _ => 0) = List.replicate (R * C) 0 := by
  unfold tb tab
  apply List.ext_getElem?
  intro i
  by_cases h : i < R * C <;> simp [h]
end Go.Proofs.Ytmcbhpaajjlmmaa

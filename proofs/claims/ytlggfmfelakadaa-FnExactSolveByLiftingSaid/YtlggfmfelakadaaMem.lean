/-
  DERIVED. What a slice of ints reads as, and how that is kept from world to world.
-/
import Derived.Test.YtlggfmfelakadaaBase
namespace Go.Proofs.Ytlggfmfelakadaa
open Go.RowKit
set_option linter.unusedVariables false

/-- In world w the slice value '.slice A n _' reads as the list xs; its memory lies below block B. -/
def RI (w : World) (B : Nat) (A : Option Addr) (n : Nat) (xs : List Int) : Prop :=
  xs.length = n ∧ (0 < n → ∃ b o, A = some ⟨b, o, none⟩ ∧ b < B ∧ ∀ k, k < n → w.cell? ⟨b, o + k, none⟩ = some (.int .i64 (xs.getD k 0)))

section
variable {w w' : World} {B B' n : Nat} {A : Option Addr} {xs : List Int}
theorem RI.len (h : RI w B A n xs) : xs.length = n := h.1
theorem RI.nil_ (w : World) (B : Nat) (A : Option Addr) : RI w B A 0 [] := ⟨rfl, fun h => absurd h (by omega)⟩
theorem RI.keep (h : RI w B A n xs) (hk : ∀ p : Addr, p.block < B → w'.cell? p = w.cell? p) : RI w' B A n xs :=
  ⟨h.1, fun hn => by
    obtain ⟨b, o, e, hb, hc⟩ := h.2 hn
    exact ⟨b, o, e, hb, fun k hkn => (hk ⟨b, o + k, none⟩ hb).trans (hc k hkn)⟩⟩
theorem RI.more (h : RI w B A n xs) (hB : B ≤ B') : RI w B' A n xs :=
  ⟨h.1, fun hn => by
    obtain ⟨b, o, e, hb, hc⟩ := h.2 hn
    exact ⟨b, o, e, by omega, hc⟩⟩
theorem RI.below {C : Nat} (h : RI w B A n xs) (hb : Below C w w') (hC : B ≤ C) : RI w' B A n xs := h.keep fun _ hp => hb.cell (by omega)
theorem RI.drew (h : RI w B A n xs) : RI w.drew B A n xs := h
theorem RI.drewN (h : RI w B A n xs) (k : Nat) : RI (w.drewN k) B A n xs := h
theorem RI.alloc (h : RI w B A n xs) (hB : B ≤ w.heap.size) (o : Obj) : RI (w.alloc o) B A n xs := h.keep fun p hp => World.cell?_alloc_lt w o p (by omega)
theorem RI.setCell (h : RI w B A n xs) {p : Addr} (hB : B ≤ p.block) (u : Value) : RI (w.setCell p u) B A n xs :=
  h.keep fun q hq => World.cell?_setCell_other w p q u (fun e => by subst e; omega)
theorem RI.grown (h : RI w B A n xs) {row : Option Nat} (hg : w.grownBy w' row) (hB : B ≤ w.heap.size) (hr : ∀ g, row = some g → B ≤ g) : RI w' B A n xs :=
  h.keep fun p hp => World.cell?_of_block (hg.block p.block (by omega) (fun e => by have := hr _ e.symm; omega))
end
theorem getD_nat (xs : List Int) (k : Nat) : xs.getD k 0 = xs[k]?.getD 0 := by simp [List.getD]


/-- The int's row of the table. -/
theorem int_info : (Try.prog.info? 3).map (fun i => (i.zero, i.size, i.bytes)) = some (some (.int .i64 0), 1, 8) := by kernel_rfl
/-- From block B on, the slice value v owns just the numbers xs. -/
def OR (w : World) (B : Nat) (v : Value) (xs : List Int) : Prop := w.ownsRow B 3 1 v xs.length (xs.map (Value.int .i64))
/-- The slice value is nil (and there is nothing) or begins a block of its own. -/
theorem OR.form {w : World} {B : Nat} {v : Value} {xs : List Int} (h : OR w B v xs) : (v = .slice none 0 0 ∧ xs = []) ∨ ∃ g cap, v = .slice (some ⟨g, 0, none⟩) xs.length cap ∧ B ≤ g ∧ g < w.heap.size ∧ xs.length ≤ cap ∧ cap ≤ maxLen := by
  rcases h.2 with ⟨h1, h2⟩ | ⟨g, cap, cur, h1, h2, h3, h4, h5, _⟩
  · exact .inl ⟨h1, List.eq_nil_of_length_eq_zero h2⟩
  · refine .inr ⟨g, cap, h1, h2, ?_, h4, h5⟩
    rcases Nat.lt_or_ge g w.heap.size with hlt | hge
    · exact hlt
    · rw [Array.getElem?_eq_none hge] at h3; cases h3
theorem OR.cell {w : World} {B g n cap : Nat} {xs : List Int} (h : OR w B (.slice (some ⟨g, 0, none⟩) n cap) xs) (k : Nat) (hk : k < xs.length) : w.cell? ⟨g, k, none⟩ = some (.int .i64 (xs.getD k 0)) := by
  have hn : n = xs.length := by
    rcases h.2 with ⟨h1, _⟩ | ⟨g', cap', cur, h1, _⟩
    · cases h1
    · injection h1
  subst hn
  have := World.ownsRow.cellAt h k (by omega)
  rw [this]
  simp [hk]
theorem OR.frozen {w : World} {B g n cap : Nat} {xs : List Int} (h : OR w B (.slice (some ⟨g, 0, none⟩) n cap) xs) (k : Nat) : w.frozen? ⟨g, k, none⟩ = false := by
  have hn : n = xs.length := by
    rcases h.2 with ⟨h1, _⟩ | ⟨g', cap', cur, h1, _⟩
    · cases h1
    · injection h1
  subst hn
  exact World.ownsRow.frozenAt h k
theorem OR.set_ {w : World} {B g n cap : Nat} {xs : List Int} (h : OR w B (.slice (some ⟨g, 0, none⟩) n cap) xs) (k : Nat) (u : Int) :
    OR (w.setCell ⟨g, k, none⟩ (.int .i64 u)) B (.slice (some ⟨g, 0, none⟩) n cap) (xs.set k u) := by
  have hn : n = xs.length := by
    rcases h.2 with ⟨h1, _⟩ | ⟨g', cap', cur, h1, _⟩
    · cases h1
    · injection h1
  subst hn
  have := (World.ownsRow.stored h k (.int .i64 u)).1
  unfold OR
  rw [List.length_set, List.map_set]
  exact this
theorem OR.kept {w w' : World} {B : Nat} {v : Value} {xs : List Int} {row : Option Nat} (h : OR w B v xs) (hg : w.grownBy w' row) (hne : v.ownBlock = none ∨ v.ownBlock ≠ row) : OR w' B v xs :=
  World.ownsRow.kept h hg hne
theorem OR.alloc {w : World} {B : Nat} {v : Value} {xs : List Int} (h : OR w B v xs) (o : Obj) : OR (w.alloc o) B v xs := World.ownsRow.alloc h o
theorem OR.drew {w : World} {B : Nat} {v : Value} {xs : List Int} (h : OR w B v xs) : OR w.drew B v xs := h
theorem OR.drewN {w : World} {B : Nat} {v : Value} {xs : List Int} (h : OR w B v xs) (n : Nat) : OR (w.drewN n) B v xs := h
theorem OR.below {w w' : World} {B C : Nat} {v : Value} {xs : List Int} (h : OR w B v xs) (hb : Below C w w') (hC : w.heap.size ≤ C) : OR w' B v xs :=
  h.kept (row := none) ⟨hb.os, hb.tape, hb.output, hb.size, fun k hk _ => hb.block k (by omega)⟩ (by cases v.ownBlock <;> simp)
/-- A store below the base, or into another block. -/
theorem OR.far {w : World} {B : Nat} {v : Value} {xs : List Int} (h : OR w B v xs) {p : Addr} (hp : v.ownBlock ≠ some p.block) (u : Value) : OR (w.setCell p u) B v xs :=
  h.kept (row := some p.block) ⟨rfl, rfl, rfl, by simp [World.setCell], fun k hk hne => Below.heap_setCell w p u k (fun e => hne (by rw [e]))⟩ (.inr hp)
theorem OR.mono {w : World} {B B' : Nat} {v : Value} {xs : List Int} (h : OR w B v xs) (hB : B' ≤ B) : OR w B' v xs := by
  refine ⟨h.1, ?_⟩
  rcases h.2 with h1 | ⟨g, cap, cur, h1, h2, h3⟩
  · exact .inl h1
  · exact .inr ⟨g, cap, cur, h1, by omega, h3⟩
theorem OR.low {w : World} {B : Nat} {v : Value} {xs : List Int} (h : OR w B v xs) {p : Addr} (hp : p.block < B) (u : Value) : OR (w.setCell p u) B v xs :=
  ownsRow_setCell_below h hp u
/-- What is owned reads as it is. -/
theorem OR.reads {w : World} {B n cap : Nat} {A : Option Addr} {xs : List Int} (h : OR w B (.slice A n cap) xs) : RI w w.heap.size A n xs := by
  rcases h.form with ⟨h1, h2⟩ | ⟨g, cap', h1, h2, h3, _⟩
  · injection h1 with e1 e2 e3
    subst e1; subst e2; subst h2
    exact RI.nil_ _ _ _
  · injection h1 with e1 e2 e3
    subst e1; subst e2
    exact ⟨rfl, fun hn => ⟨g, 0, rfl, h3, fun k hk => by rw [Nat.zero_add]; exact h.cell k hk⟩⟩
theorem made_ints (n : Nat) : (madeCells #[Value.int .i64 0] n).toList = (List.replicate n (0 : Int)).map (Value.int .i64) := by
  rw [List.map_replicate]
  apply List.ext_getElem?
  intro i
  simp only [madeCells]
  by_cases hi : i < n
  · simp [hi, Nat.mod_one]
  · simp [hi]
theorem OR.of_made {w : World} {B g n : Nat} (h : w.ownsRow B 3 1 (.slice (some ⟨g, 0, none⟩) n n) n (madeCells #[Value.int .i64 0] n).toList) :
    OR w B (.slice (some ⟨g, 0, none⟩) n n) (List.replicate n 0) := by
  unfold OR
  rw [← made_ints, List.length_replicate]
  exact h
theorem only_set {a w : World} {g : Nat} (h : a.grownBy w (some g)) (k : Nat) (u : Value) : a.grownBy (w.setCell ⟨g, k, none⟩ u) (some g) :=
  ⟨h.os, h.tape, h.output, by simpa [World.setCell] using h.size, fun i hi hne => (Below.heap_setCell w _ u i (by
    rintro rfl
    exact hne rfl)).trans (h.block i hi hne)⟩
theorem only_alloc {a w : World} {row : Option Nat} (h : a.grownBy w row) (o : Obj) : a.grownBy (w.alloc o) row :=
  ⟨h.os, h.tape, h.output, Nat.le_trans h.size (by simp), fun i hi hne => (Below.heap_alloc w o i (Nat.lt_of_lt_of_le hi h.size)).trans (h.block i hi hne)⟩
theorem only_drew {a w : World} {row : Option Nat} (h : a.grownBy w row) : a.grownBy w.drew row := ⟨h.os, h.tape, h.output, h.size, h.block⟩
theorem only_drewN {a w : World} {row : Option Nat} (h : a.grownBy w row) (n : Nat) : a.grownBy (w.drewN n) row := ⟨h.os, h.tape, h.output, h.size, h.block⟩
theorem only_of_below {a w : World} (h : Below a.heap.size a w) (row : Option Nat) : a.grownBy w row := ⟨h.os, h.tape, h.output, h.size, fun i hi _ => h.block i hi⟩
theorem only_trans {a b c : World} {row : Option Nat} (h : a.grownBy b row) (k : b.grownBy c row) : a.grownBy c row :=
  ⟨k.os.trans h.os, k.tape.trans h.tape, k.output.trans h.output, Nat.le_trans h.size k.size, fun i hi hn => (k.block i (Nat.lt_of_lt_of_le hi h.size) hn).trans (h.block i hi hn)⟩
theorem only_below {a w : World} {row : Option Nat} {B : Nat} (h : a.grownBy w row) (hB : B ≤ a.heap.size) (hr : ∀ g, row = some g → B ≤ g) : Below B a w :=
  (Below.refl B a).grown h hB hr
theorem OR.caps {w : World} {B n cap : Nat} {A : Option Addr} {xs : List Int} (h : OR w B (.slice A n cap) xs) : n ≤ cap ∧ cap ≤ 9223372036854775807 := by
  rcases h.form with ⟨h1, h2⟩ | ⟨g, cap', h1, h2, h3, h4, h5⟩
  · injection h1 with e1 e2 e3
    omega
  · injection h1 with e1 e2 e3
    unfold maxLen at h5
    omega
theorem bkeepB {W w1 : World} {B : Nat} (b : Nat) (hb : Below B W w1) (h : b < B) (h' : b < W.heap.size) :
    (∀ o, w1.cell? ⟨b, o, none⟩ = W.cell? ⟨b, o, none⟩) ∧ (∀ o, w1.frozen? ⟨b, o, none⟩ = W.frozen? ⟨b, o, none⟩) ∧ b < w1.heap.size :=
  ⟨fun o => hb.cell (p := ⟨b, o, none⟩) h, fun o => hb.frozen (p := ⟨b, o, none⟩) h, Nat.lt_of_lt_of_le h' hb.size⟩
/-- An owned slice whose block is known to be there is no nil. -/
theorem OR.notNil {w : World} {B g k : Nat} {v : Value} {xs : List Int} (h : OR w B v xs) (hv : v.ownBlock = some g ∨ v.ownBlock = some k) : ∃ g cap, v = .slice (some ⟨g, 0, none⟩) xs.length cap ∧ B ≤ g ∧ g < w.heap.size := by
  rcases h.form with ⟨h1, h2⟩ | ⟨g, cap', h1, h2, h3, h4, h5⟩
  · rw [h1] at hv; rcases hv with hv | hv <;> cases hv
  · exact ⟨g, cap', h1, h2, h3⟩
end Go.Proofs.Ytlggfmfelakadaa

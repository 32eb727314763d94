/-
  DERIVED. What a slice of ints reads as, and how that is kept from world to world.
-/
import Derived.Test.YtdnooamnjkibgaaBase
namespace Go.Proofs.Ytdnooamnjkibgaa
open Go.RowKit
set_option linter.unusedVariables false

/-- In world w the slice value '.slice A n _' reads as the list xs; its memory lies below block B. -/
def RI (w : World) (B : Nat) (A : Option Addr) (n : Nat) (xs : List Int) : Prop :=
  xs.length = n ∧ (0 < n → ∃ b o, A = some ⟨b, o, none⟩ ∧ b < B ∧ ∀ k, k < n → w.cell? ⟨b, o + k, none⟩ = some (.int .i64 (xs.getD k 0)))

section
variable {w w' : World} {B B' n : Nat} {A : Option Addr} {xs : List Int}
theorem RI.len (h : RI w B A n xs) : xs.length = n := h.1
theorem RI.nil_ (w : World) (B : Nat) (A : Option Addr) : RI w B A 0 [] := ⟨rfl, fun h => absurd h (by omega)⟩
theorem RI.keep (h : RI w B A n xs) (hk : ∀ p : Addr, p.block < B → w'.cell? p = w.cell? p) : RI w' B A n xs :=
  ⟨h.1, fun hn => by
    obtain ⟨b, o, e, hb, hc⟩ := h.2 hn
    exact ⟨b, o, e, hb, fun k hkn => (hk ⟨b, o + k, none⟩ hb).trans (hc k hkn)⟩⟩
theorem RI.more (h : RI w B A n xs) (hB : B ≤ B') : RI w B' A n xs :=
  ⟨h.1, fun hn => by
    obtain ⟨b, o, e, hb, hc⟩ := h.2 hn
    exact ⟨b, o, e, by omega, hc⟩⟩
theorem RI.below {C : Nat} (h : RI w B A n xs) (hb : Below C w w') (hC : B ≤ C) : RI w' B A n xs := h.keep fun _ hp => hb.cell (by omega)
theorem RI.drew (h : RI w B A n xs) : RI w.drew B A n xs := h
theorem RI.drewN (h : RI w B A n xs) (k : Nat) : RI (w.drewN k) B A n xs := h
theorem RI.alloc (h : RI w B A n xs) (hB : B ≤ w.heap.size) (o : Obj) : RI (w.alloc o) B A n xs := h.keep fun p hp => World.cell?_alloc_lt w o p (by omega)
theorem RI.setCell (h : RI w B A n xs) {p : Addr} (hB : B ≤ p.block) (u : Value) : RI (w.setCell p u) B A n xs :=
  h.keep fun q hq => World.cell?_setCell_other w p q u (fun e => by subst e; omega)
theorem RI.grown (h : RI w B A n xs) {row : Option Nat} (hg : w.grownBy w' row) (hB : B ≤ w.heap.size) (hr : ∀ g, row = some g → B ≤ g) : RI w' B A n xs :=
  h.keep fun p hp => World.cell?_of_block (hg.block p.block (by omega) (fun e => by have := hr _ e.symm; omega))
end
theorem getD_nat (xs : List Int) (k : Nat) : xs.getD k 0 = xs[k]?.getD 0 := by simp [List.getD]

section
variable {a w w' : World}
/-- Below a smaller bound, after steps that only made or drew. -/
theorem below_size {B : Nat} (h : Below B a w) : a.heap.size ≤ w.heap.size := h.size
theorem Below.into {B : Nat} (h : Below B a w) (k : Below w.heap.size w w') (hB : B ≤ w.heap.size) : Below B a w' := h.trans (k.mono hB)
end
end Go.Proofs.Ytdnooamnjkibgaa

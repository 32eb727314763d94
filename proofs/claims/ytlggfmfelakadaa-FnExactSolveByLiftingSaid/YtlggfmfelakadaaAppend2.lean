/-
  DERIVED. append of one int onto a slice of the call's own.
-/
import Derived.Test.YtlggfmfelakadaaAppend
import Derived.Test.YtlggfmfelakadaaOwn
namespace Go.Proofs.Ytlggfmfelakadaa
open Go.RowKit
set_option linter.unusedVariables false
theorem RI.one {w : World} {g : Nat} {y : Int} (hc : w.cell? ⟨g, 0, none⟩ = some (.int .i64 y)) : RI w (g + 1) (some ⟨g, 0, none⟩) 1 [y] :=
  ⟨rfl, fun _ => ⟨g, 0, rfl, by omega, fun k hk => by
    obtain rfl : k = 0 := by omega
    simpa using hc⟩⟩
/-- Two slice values own no block in common. -/
def Apart (v v' : Value) : Prop := ∀ g, v.ownBlock = some g → v'.ownBlock ≠ some g
theorem Apart.symm {v v' : Value} (h : Apart v v') : Apart v' v := fun g h1 h2 => h g h2 h1
theorem Apart.ne {v v' : Value} (h : Apart v v') : v.ownBlock = none ∨ v.ownBlock ≠ v'.ownBlock := by
  cases h1 : v.ownBlock with
  | none => exact .inl rfl
  | some g => exact .inr fun e => h g h1 e.symm
theorem Apart.of_own {v v' : Value} {lo hi lo' hi' : Nat} (a : Own v lo hi) (b : Own v' lo' hi') (hd : hi ≤ lo' ∨ hi' ≤ lo) : Apart v v' := fun g h1 h2 => by
  have := a g h1; have := b g h2; omega
/-- Behind an append: the new value is apart from whatever the old one was apart from and that was there. -/
theorem Apart.grown {v v' u : Value} {w : World} {B : Nat} {us : List Int} (h : Apart v u) (hu : OR w B u us) (hat : v'.ownBlock = v.ownBlock ∨ v'.ownBlock = some w.heap.size) : Apart v' u := fun g h1 h2 => by
  rcases hat with e | e
  · exact h g (e ▸ h1) h2
  · have h3 := (hu.own g h2).2
    rw [e] at h1
    injection h1 with h1
    omega
theorem OR.ne_low {w : World} {B b : Nat} {v : Value} {xs : List Int} (h : OR w B v xs) (hb : b < B) : some b ≠ v.ownBlock := fun e => by
  have := (h.own b e.symm).1; omega
theorem OR.below_grown {w w' : World} {B : Nat} {v : Value} {xs : List Int} (h : OR w B v xs) (hg : w.grownBy w' v.ownBlock) (hB : B ≤ w.heap.size) : Below B w w' :=
  only_below hg hB fun g e => (h.own g e).1
section
variable (w : World)
theorem wpList_append_one {ops : Array Oper} {rest : List Oper} {o : Oper} {a : Act} {Q : Exit → Act → World → Prop} (hgd : o.guard = none) (s x : Operand)
    (ho : o.op = .call { callee := .builtin .append, args := #[s, x], argTypes := #[24, 24] })
    (B : Nat) (v : Value) (xs : List Int) (hs : a.eval s = v) (hown : OR w B v xs) (g : Nat) (y : Int) (hx : a.eval x = .slice (some ⟨g, 0, none⟩) 1 1) (hc : w.cell? ⟨g, 0, none⟩ = some (.int .i64 y))
    (h63 : xs.length ≤ 100000000000) (hbase : B ≤ w.heap.size)
    (h : ∀ v' w', OR w' B v' (xs ++ [y]) → w.grownBy w' v.ownBlock → (v'.ownBlock = v.ownBlock ∨ v'.ownBlock = some w.heap.size) → wpList Try.prog ops Q rest (a.put o.dst v') w') : wpList Try.prog ops Q (o :: rest) a w :=
  wpList_append_ints w hgd s x ho B v xs hs hown (g + 1) (some ⟨g, 0, none⟩) 1 1 [y] hx (RI.one hc) (by omega) hbase h
theorem step_append_one {ops : Array Oper} {o : Oper} {a : Act} {K : Act → World → Prop} {Q : Exit → Act → World → Prop} {E : Prop} (hgd : o.guard = none) (s x : Operand)
    (ho : o.op = .call { callee := .builtin .append, args := #[s, x], argTypes := #[24, 24] })
    (B : Nat) (v : Value) (xs : List Int) (hs : a.eval s = v) (hown : OR w B v xs) (g : Nat) (y : Int) (hx : a.eval x = .slice (some ⟨g, 0, none⟩) 1 1) (hc : w.cell? ⟨g, 0, none⟩ = some (.int .i64 y))
    (h63 : xs.length ≤ 100000000000) (hbase : B ≤ w.heap.size)
    (h : ∀ v' w', OR w' B v' (xs ++ [y]) → w.grownBy w' v.ownBlock → (v'.ownBlock = v.ownBlock ∨ v'.ownBlock = some w.heap.size) → K (a.put o.dst v') w') :
    if Region.wanted o (yielded ops a.tmps) = true then Oper.wp Try.prog o a w K Q else E :=
  step_append_ints w hgd s x ho B v xs hs hown (g + 1) (some ⟨g, 0, none⟩) 1 1 [y] hx (RI.one hc) (by omega) hbase h
end
end Go.Proofs.Ytlggfmfelakadaa

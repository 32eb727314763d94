/-
  DERIVED. Several small texts in one: CopyS, Lawkit, Append2.
-/
import Derived.Test.YtlggfmfelakadaaU1
import Derived.Deep.RegionLaw
/-
  DERIVED. The contract of l3Copy.
-/
namespace Go.Proofs.Ytlggfmfelakadaa
open Go.RowKit
set_option linter.unusedVariables false
set_option maxHeartbeats 4000000 in
theorem spec_l3Copy (r c : Int) (A : Option Addr) (n cap : Nat) (xs : List Int) (w : World) {B : Nat} (h : RI w B A n xs) (hB : B ≤ w.heap.size) (hn : n ≤ 1048576) :
    Calls Try.prog 118 #[.agg #[.int .i64 r, .int .i64 c, .slice A n cap]] w (MV r c xs w) := by
  have H2 := Lib.hid (h.more hB)
  clear h
  go_enter Try.func118, Try.ntmps118
  go_wp2
  go_region_held3 (fun w' => w'.cell? ⟨w.heap.size, 0, none⟩ = some (.int .i64 r) ∧ w'.cell? ⟨w.heap.size, 1, none⟩ = some (.int .i64 c) ∧ w'.cell? ⟨w.heap.size, 2, none⟩ = some (.slice A n cap)) (first | go_keep | exact ⟨k00, k01, k02⟩) ((refine step_append_ints _ rfl (.tmp 7) (.tmp 9) rfl (w.heap.size + 1 + 1) _ [] rfl (by exact OR.drew (OR.empty' _ (w.heap.size + 1 + 1) (by simp) Ks)) w.heap.size A n cap xs rfl (Kr H2.out) (by first | omega | (simp; omega)) (by exact Ks) ?_; intro v1 w1 hown hgr hat; simp only [List.nil_append] at hown; go_loud (obtain ⟨g, cap1, rfl, hg1, hg2⟩ := hown.notNil hat); go_loud (have hb1 : Below (w.heap.size + 1 + 1) _ w1 := only_below hgr Ks (by intro g h; cases h; exact Nat.le_refl _)); obtain ⟨k0, f0, l0⟩ := bkeepB w.heap.size hb1 (by omega) Ks; obtain ⟨k1, f1, l1⟩ := bkeepB (w.heap.size + 1) hb1 (by omega) Ks; clear hgr hat; have k00 : w1.cell? ⟨w.heap.size, 0, none⟩ = some (.int .i64 r) := (k0 _).trans (by first | rfl | (simp [go_sem]; done)); have k01 : w1.cell? ⟨w.heap.size, 1, none⟩ = some (.int .i64 c) := (k0 _).trans (by first | rfl | (simp [go_sem]; done)); have k02 : w1.cell? ⟨w.heap.size, 2, none⟩ = some (.slice A n cap) := (k0 _).trans (by first | rfl | (simp [go_sem]; done)); have k10 : w1.cell? ⟨w.heap.size + 1, 0, none⟩ = some (.int .i64 0) := (k1 _).trans (by first | rfl | (simp [go_sem]; done)); have k11 : w1.cell? ⟨w.heap.size + 1, 1, none⟩ = some (.int .i64 0) := (k1 _).trans (by first | rfl | (simp [go_sem]; done)); have k12 : w1.cell? ⟨w.heap.size + 1, 2, none⟩ = some (.slice none 0 0) := (k1 _).trans (by first | rfl | (simp [go_sem]; done)); clear k0 k1))
  all_goals go_wp2
  all_goals (
    have hbw : Below w.heap.size w w1 := by
      refine Below.trans ?_ (hb1.mono (by omega))
      (repeat (first | (with_reducible (first | exact Below.refl _ _ | assumption | refine below_drewN ?_ _ | refine Below.drew ?_ | refine Below.alloc ?_ ?_ _ | refine Below.setCell ?_ ?_ _ | refine below_i ?_)) | go_size))
    refine bodyPost_ret (v := .agg #[.int .i64 r, .int .i64 c, .slice (some ⟨g, 0, none⟩) xs.length cap1]) (by simp [results, Try.results118, go_sem, k10, k11, k12]) rfl ?_
    refine ⟨some ⟨g, 0, none⟩, _, cap1, rfl, rfl, OR.mono (B := w.heap.size + 1 + 1) ?_ (by omega), Kw⟩
    have hown' : OR w1 (w.heap.size + 1 + 1) (.slice (some ⟨g, 0, none⟩) xs.length cap1) xs := by simpa using hown
    (with_reducible (repeat (first | exact hown' | refine OR.drew ?_ | refine OR.drewN ?_ _ | refine OR.alloc ?_ _ | refine OR.b_ ?_ | refine OR.l_ ?_)))
  )
end Go.Proofs.Ytlggfmfelakadaa

/-
  DERIVED. Words for the laws: comparing, marking and holding slices and matrices of the call's own.
-/
namespace Go.Proofs.Ytlggfmfelakadaa
open Go.RowKit
set_option linter.unusedVariables false
theorem eqB_refl (xs : List Int) : eqB xs xs = true := by simp [eqB]
theorem eqM_refl (r c : Int) (xs : List Int) : eqM r c r c xs xs = true := by simp [eqM, eqB]
theorem eqOwnI {A A' : Option Addr} {n n' ca ca' : Nat} {xs : List Int} {w : World} {B B' : Nat} (h : OR w B (.slice A n ca) xs) (h' : OR w B' (.slice A' n' ca') xs) :
    Calls Try.prog 31 #[.slice A n ca, .slice A' n' ca'] w (DV (.bool true) w) := by
  have h1 := h.caps
  have h2 := h'.caps
  have := laws_eqIntS A A' n n' ca ca' xs xs w h.reads h'.reads (by omega) (by omega)
  rw [eqB_refl] at this
  exact this
theorem eqOwnM {r c : Int} {A A' : Option Addr} {n n' ca ca' : Nat} {xs : List Int} {w : World} {B B' : Nat} (h : OR w B (.slice A n ca) xs) (h' : OR w B' (.slice A' n' ca') xs) :
    Calls Try.prog 30 #[.agg #[.int .i64 r, .int .i64 c, .slice A n ca], .agg #[.int .i64 r, .int .i64 c, .slice A' n' ca']] w (BV (.bool true) w) := by
  have h1 := h.caps
  have h2 := h'.caps
  have := laws_eqMatrix r c r c A A' n n' ca ca' xs xs w h.reads h'.reads (by omega) (by omega) (Nat.le_refl _) (Nat.le_refl _)
  rw [eqM_refl] at this
  exact this
/-- The call returned the int, having written just the block of an own slice, which now holds ys. -/
def WI (k : Int) (sv : Value) (B : Nat) (ys : List Int) (w : World) (e : Ending) (w' : World) : Prop :=
  e = .returned (.int .i64 k) ∧ OR w' B sv ys ∧ w.grownBy w' sv.ownBlock ∧ w.heap.size ≤ w'.heap.size
theorem markOwnI {A : Option Addr} {n ca : Nat} {xs : List Int} {k : Int} {w : World} {B : Nat} (h : OR w B (.slice A n ca) xs) (hn2 : n ≤ 1048576) (hk0 : 0 ≤ k) (hk1 : k ≤ 1000000000000) :
    Calls Try.prog 33 #[.slice A n ca, .int .i64 k] w (WI (k + n) (.slice A n ca) B (iota k n) w) :=
  (laws_markIntS A n ca xs k w B h h.lenEq hn2 hk0 hk1).mono fun _ _ ⟨h1, h2, h3⟩ => ⟨h1, h2, h3, h3.size⟩
theorem markOwnM {r c : Int} {A : Option Addr} {n ca : Nat} {xs : List Int} {k : Int} {w : World} {B : Nat} (h : OR w B (.slice A n ca) xs) (hn2 : n ≤ 1048576) (hk0 : 0 ≤ k) (hk1 : k ≤ 1000000000000) :
    Calls Try.prog 32 #[.agg #[.int .i64 r, .int .i64 c, .slice A n ca], .int .i64 k] w (WI (k + n) (.slice A n ca) B (iota k n) w) :=
  (laws_markMatrix r c A n ca xs k w B h h.lenEq hn2 hk0 hk1).mono fun _ _ ⟨h1, h2, h3⟩ => ⟨h1, h2, h3, h3.size⟩
theorem toMatrix_own {r c : Int} {A : Option Addr} {n cap : Nat} {xs : List Int} {w : World} {C : Nat} (h : RI w C A n xs) (hC : C ≤ w.heap.size) (hn : n ≤ 1048576) :
    Calls Try.prog 26 #[.agg #[.int .i64 r, .int .i64 c, .slice A n cap]] w (MR ⟨r, c, xs⟩ w) :=
  (laws_toMatrix r c A n cap xs w h hC hn).mono fun _ _ h => MR.of_MV h
/-- The call returned a slice of its own that holds ys. -/
def IR (ys : List Int) (w : World) (e : Ending) (w' : World) : Prop := ∃ A n cap, e = .returned (.slice A n cap) ∧ OR w' w.heap.size (.slice A n cap) ys ∧ Below w.heap.size w w'
theorem toIntS_own {A : Option Addr} {n cap : Nat} {xs : List Int} {w : World} {C : Nat} (h : RI w C A n xs) (hC : C ≤ w.heap.size) (hn : n ≤ 1048576) :
    Calls Try.prog 27 #[.slice A n cap] w (IR xs w) :=
  (laws_toIntS A n cap xs w h hC hn).mono fun _ _ ⟨g, h1, h2, h3⟩ => ⟨_, _, _, h1, h2, h3⟩
end Go.Proofs.Ytlggfmfelakadaa

/-
  DERIVED. append of one int onto a slice of the call's own.
-/
namespace Go.Proofs.Ytlggfmfelakadaa
open Go.RowKit
set_option linter.unusedVariables false
theorem RI.one {w : World} {g : Nat} {y : Int} (hc : w.cell? ⟨g, 0, none⟩ = some (.int .i64 y)) : RI w (g + 1) (some ⟨g, 0, none⟩) 1 [y] :=
  ⟨rfl, fun _ => ⟨g, 0, rfl, by omega, fun k hk => by
    obtain rfl : k = 0 := by omega
    simpa using hc⟩⟩
/-- Two slice values own no block in common. -/
def Apart (v v' : Value) : Prop := ∀ g, v.ownBlock = some g → v'.ownBlock ≠ some g
theorem Apart.symm {v v' : Value} (h : Apart v v') : Apart v' v := fun g h1 h2 => h g h2 h1
theorem Apart.ne {v v' : Value} (h : Apart v v') : v.ownBlock = none ∨ v.ownBlock ≠ v'.ownBlock := by
  cases h1 : v.ownBlock with
  | none => exact .inl rfl
  | some g => exact .inr fun e => h g h1 e.symm
theorem Apart.of_own {v v' : Value} {lo hi lo' hi' : Nat} (a : Own v lo hi) (b : Own v' lo' hi') (hd : hi ≤ lo' ∨ hi' ≤ lo) : Apart v v' := fun g h1 h2 => by
  have := a g h1; have := b g h2; omega
/-- Behind an append: the new value is apart from whatever the old one was apart from and that was there. -/
theorem Apart.grown {v v' u : Value} {w : World} {B : Nat} {us : List Int} (h : Apart v u) (hu : OR w B u us) (hat : v'.ownBlock = v.ownBlock ∨ v'.ownBlock = some w.heap.size) : Apart v' u := fun g h1 h2 => by
  rcases hat with e | e
  · exact h g (e ▸ h1) h2
  · have h3 := (hu.own g h2).2
    rw [e] at h1
    injection h1 with h1
    omega
theorem OR.ne_low {w : World} {B b : Nat} {v : Value} {xs : List Int} (h : OR w B v xs) (hb : b < B) : some b ≠ v.ownBlock := fun e => by
  have := (h.own b e.symm).1; omega
theorem OR.below_grown {w w' : World} {B : Nat} {v : Value} {xs : List Int} (h : OR w B v xs) (hg : w.grownBy w' v.ownBlock) (hB : B ≤ w.heap.size) : Below B w w' :=
  only_below hg hB fun g e => (h.own g e).1
section
variable (w : World)
theorem wpList_append_one {ops : Array Oper} {rest : List Oper} {o : Oper} {a : Act} {Q : Exit → Act → World → Prop} (hgd : o.guard = none) (s x : Operand)
    (ho : o.op = .call { callee := .builtin .append, args := #[s, x], argTypes := #[24, 24] })
    (B : Nat) (v : Value) (xs : List Int) (hs : a.eval s = v) (hown : OR w B v xs) (g : Nat) (y : Int) (hx : a.eval x = .slice (some ⟨g, 0, none⟩) 1 1) (hc : w.cell? ⟨g, 0, none⟩ = some (.int .i64 y))
    (h63 : xs.length ≤ 100000000000) (hbase : B ≤ w.heap.size)
    (h : ∀ v' w', OR w' B v' (xs ++ [y]) → w.grownBy w' v.ownBlock → (v'.ownBlock = v.ownBlock ∨ v'.ownBlock = some w.heap.size) → wpList Try.prog ops Q rest (a.put o.dst v') w') : wpList Try.prog ops Q (o :: rest) a w :=
  wpList_append_ints w hgd s x ho B v xs hs hown (g + 1) (some ⟨g, 0, none⟩) 1 1 [y] hx (RI.one hc) (by omega) hbase h
theorem step_append_one {ops : Array Oper} {o : Oper} {a : Act} {K : Act → World → Prop} {Q : Exit → Act → World → Prop} {E : Prop} (hgd : o.guard = none) (s x : Operand)
    (ho : o.op = .call { callee := .builtin .append, args := #[s, x], argTypes := #[24, 24] })
    (B : Nat) (v : Value) (xs : List Int) (hs : a.eval s = v) (hown : OR w B v xs) (g : Nat) (y : Int) (hx : a.eval x = .slice (some ⟨g, 0, none⟩) 1 1) (hc : w.cell? ⟨g, 0, none⟩ = some (.int .i64 y))
    (h63 : xs.length ≤ 100000000000) (hbase : B ≤ w.heap.size)
    (h : ∀ v' w', OR w' B v' (xs ++ [y]) → w.grownBy w' v.ownBlock → (v'.ownBlock = v.ownBlock ∨ v'.ownBlock = some w.heap.size) → K (a.put o.dst v') w') :
    if Region.wanted o (yielded ops a.tmps) = true then Oper.wp Try.prog o a w K Q else E :=
  step_append_ints w hgd s x ho B v xs hs hown (g + 1) (some ⟨g, 0, none⟩) 1 1 [y] hx (RI.one hc) (by omega) hbase h
end
end Go.Proofs.Ytlggfmfelakadaa

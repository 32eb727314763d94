/-
  DERIVED. The cursor that draws numbers out of bytes: what the reference's l1New, l1Byte, l1Below, l1Once, l1PickInt, l1Odd, l1Num return, and that they turn the cursor alone.
-/
import Derived.Test.YtlggfmfelakadaaGreatDoorc2
import Derived.Test.YtlggfmfelakadaaGreatDoorc4
namespace Go.Proofs.YtlggfmfelakadaaGreatDoor
open Go.RowKit
set_option linter.unusedVariables false
set_option linter.unusedSimpArgs false
/-- A slice of bytes reads as xs. -/
def RB (w : World) (B : Nat) (A : Option Addr) (n : Nat) (xs : List Int) : Prop :=
  xs.length = n ∧ (0 < n → ∃ b o, A = some ⟨b, o, none⟩ ∧ b < B ∧ ∀ k, k < n → w.cell? ⟨b, o + k, none⟩ = some (.int .u8 (xs.getD k 0))) ∧ ∀ k, 0 ≤ xs.getD k 0 ∧ xs.getD k 0 ≤ 255
section
variable {w w' : World} {B n : Nat} {A : Option Addr} {xs : List Int}
theorem RB.keep (h : RB w B A n xs) (hk : ∀ p : Addr, p.block < B → w'.cell? p = w.cell? p) : RB w' B A n xs :=
  ⟨h.1, fun hn => by
    obtain ⟨b, o, e, hb, hc⟩ := h.2.1 hn
    exact ⟨b, o, e, hb, fun k hk' => (hk _ hb).trans (hc k hk')⟩, h.2.2⟩
theorem RB.below {C : Nat} (h : RB w B A n xs) (hb : Below C w w') (hC : B ≤ C) : RB w' B A n xs := h.keep fun _ hp => hb.cell (by omega)
theorem RB.grown {row : Option Nat} (h : RB w B A n xs) (hg : w.grownBy w' row) (hB : B ≤ w.heap.size) (hr : ∀ g, row = some g → B ≤ g) : RB w' B A n xs :=
  h.keep fun p hp => World.cell?_of_block (hg.block p.block (by omega) (fun e => by have := hr _ e.symm; omega))
theorem RB.drew (h : RB w B A n xs) : RB w.drew B A n xs := h
theorem RB.drewN (h : RB w B A n xs) (k : Nat) : RB (w.drewN k) B A n xs := h
theorem RB.alloc (h : RB w B A n xs) (hB : B ≤ w.heap.size) (o : Obj) : RB (w.alloc o) B A n xs := h.keep fun p hp => World.cell?_alloc_lt w o p (by omega)
theorem RB.setCell (h : RB w B A n xs) {p : Addr} (hB : B ≤ p.block) (u : Value) : RB (w.setCell p u) B A n xs := h.keep fun q hq => by
  have : q.block ≠ p.block := by omega
  exact World.cell?_of_block (Below.heap_setCell w p u q.block this)
end
/-- Block b is a cursor upon the bytes of a slice. -/
def CU (w : World) (b : Nat) (A : Option Addr) (n cap : Nat) : Prop :=
  ∃ i h : Int, (0 ≤ i ∧ i ≤ n) ∧ Blk w b 97 #[.slice A n cap, .int .i64 i, .int .i64 h]
theorem bits_and_bd (x : Int) (m : Nat) (hm : m < 4611686018427387904) : 0 ≤ bits .and .i64 x m ∧ bits .and .i64 x m ≤ m := by
  have h1 : bits .and .i64 x m = IntKind.wrap .i64 ((BitVec.ofInt 64 x &&& BitVec.ofInt 64 (m : Int)).toNat : Int) := rfl
  have h2 : (BitVec.ofInt 64 x &&& BitVec.ofInt 64 (m : Int)).toNat ≤ m := by
    rw [BitVec.toNat_and]
    refine Nat.le_trans Nat.and_le_right ?_
    have : BitVec.ofInt 64 (m : Int) = BitVec.ofNat 64 m := by simp
    rw [this, BitVec.toNat_ofNat]
    exact Nat.mod_le _ _
  rw [h1, IntWalk.i64_in _ (by omega)]
  omega
section
variable {w w' w'' : World} {b n cap : Nat} {A : Option Addr}
theorem CU.lt (h : CU w b A n cap) : b < w.heap.size := by obtain ⟨i, q, _, h⟩ := h; exact h.lt
theorem CU.drew (h : CU w b A n cap) : CU w.drew b A n cap := by obtain ⟨i, q, a, h⟩ := h; exact ⟨i, q, a, h.drew⟩
theorem CU.drewN (h : CU w b A n cap) (k : Nat) : CU (w.drewN k) b A n cap := by obtain ⟨i, q, a, h⟩ := h; exact ⟨i, q, a, h.drewN k⟩
theorem CU.alloc (h : CU w b A n cap) (o : Obj) : CU (w.alloc o) b A n cap := by obtain ⟨i, q, a, h⟩ := h; exact ⟨i, q, a, h.alloc o⟩
theorem CU.grown {row : Option Nat} (h : CU w b A n cap) (hg : w.grownBy w' row) (hne : some b ≠ row) : CU w' b A n cap := by obtain ⟨i, q, a, h⟩ := h; exact ⟨i, q, a, h.grown hg hne⟩
theorem CU.below {D : Nat} (h : CU w b A n cap) (hb : Below D w w') (hD : b < D) : CU w' b A n cap := by obtain ⟨i, q, a, h⟩ := h; exact ⟨i, q, a, h.below hb hD⟩
theorem CU.far (h : CU w b A n cap) {p : Addr} (hp : b ≠ p.block) (u : Value) : CU (w.setCell p u) b A n cap := by obtain ⟨i, q, a, h⟩ := h; exact ⟨i, q, a, h.far hp u⟩
end
theorem grown_setLater {a w : World} {row : Option Nat} (h : a.grownBy w row) {p : Addr} (hp : a.heap.size ≤ p.block) (u : Value) : a.grownBy (w.setCell p u) row :=
  ⟨h.os, h.tape, h.output, by simpa [World.setCell] using h.size, fun i hi hne => (Below.heap_setCell w p u i (by omega)).trans (h.block i hi hne)⟩
/-- From world w0 to world w the cursor alone has turned, and blocks were laid; the cursor's bytes read as they did. -/
structure CT (w0 w : World) (B b n cap : Nat) (A : Option Addr) (xs : List Int) : Prop where
  cu : CU w b A n cap
  rb : RB w B A n xs
  gr : w0.grownBy w (some b)
  hB : B ≤ b
  hb : b < w0.heap.size
  hn : n ≤ 2000000
section
variable {w0 w w' : World} {B b n cap : Nat} {A : Option Addr} {xs : List Int}
theorem CT.self (h : CT w0 w B b n cap A xs) : CT w w B b n cap A xs := ⟨h.cu, h.rb, World.grownBy.refl _ _, h.hB, h.cu.lt, h.hn⟩
theorem CT.trans (h : CT w0 w B b n cap A xs) (k : CT w w' B b n cap A xs) : CT w0 w' B b n cap A xs := ⟨k.cu, k.rb, only_trans h.gr k.gr, h.hB, h.hb, h.hn⟩
theorem CT.size (h : CT w0 w B b n cap A xs) : w0.heap.size ≤ w.heap.size := h.gr.size
theorem CT.drew (h : CT w0 w B b n cap A xs) : CT w0 w.drew B b n cap A xs := ⟨h.cu.drew, h.rb.drew, only_drew h.gr, h.hB, h.hb, h.hn⟩
theorem CT.drewN (h : CT w0 w B b n cap A xs) (k : Nat) : CT w0 (w.drewN k) B b n cap A xs := ⟨h.cu.drewN k, h.rb.drewN k, only_drewN h.gr k, h.hB, h.hb, h.hn⟩
theorem CT.alloc (h : CT w0 w B b n cap A xs) (o : Obj) : CT w0 (w.alloc o) B b n cap A xs :=
  ⟨h.cu.alloc o, h.rb.alloc (by have := h.hB; have := h.cu.lt; omega) o, only_alloc h.gr o, h.hB, h.hb, h.hn⟩
theorem CT.far (h : CT w0 w B b n cap A xs) {p : Addr} (hp : w0.heap.size ≤ p.block) (u : Value) : CT w0 (w.setCell p u) B b n cap A xs :=
  have h1 := h.hb
  have h2 := h.hB
  ⟨h.cu.far (by omega) u, h.rb.setCell (by omega) u, grown_setLater h.gr hp u, h.hB, h.hb, h.hn⟩
theorem CT.below {D : Nat} (h : CT w0 w B b n cap A xs) (hb : Below D w w') (hD : w0.heap.size ≤ D) : CT w0 w' B b n cap A xs :=
  have h1 := h.hb
  have h2 := h.hB
  have hs := h.size
  ⟨h.cu.below hb (by omega), h.rb.below hb (by omega), ⟨hb.os.trans h.gr.os, hb.tape.trans h.gr.tape, hb.output.trans h.gr.output, Nat.le_trans h.gr.size hb.size, fun i hi hne => (hb.block i (by omega)).trans (h.gr.block i hi hne)⟩, h.hB, h.hb, h.hn⟩
theorem CT.grown {g : Nat} (h : CT w0 w B b n cap A xs) (hg : w.grownBy w' (some g)) (hD : w0.heap.size ≤ g) : CT w0 w' B b n cap A xs :=
  have h1 := h.hb
  have h2 := h.hB
  ⟨h.cu.grown hg (by intro e; cases e; omega), h.rb.grown hg (by have := h.cu.lt; omega) (fun q e => by cases e; omega), ⟨hg.os.trans h.gr.os, hg.tape.trans h.gr.tape, hg.output.trans h.gr.output, Nat.le_trans h.gr.size hg.size, fun i hi hne => (hg.block i (by have := h.gr.size; omega) (by intro e; cases e; omega)).trans (h.gr.block i hi hne)⟩, h.hB, h.hb, h.hn⟩
end
/-- A call that turned just the cursor, and returned what P says. -/
def DRV (P : World → Value → Prop) (B b n cap : Nat) (A : Option Addr) (xs : List Int) (w : World) (e : Ending) (w' : World) : Prop :=
  ∃ v, e = .returned v ∧ P w' v ∧ CT w w' B b n cap A xs
/-- A number from 0 on less than k, or 0. -/
def Upto (k : Int) (v : Value) : Prop := ∃ x : Int, v = .int .i64 x ∧ 0 ≤ x ∧ (x < k ∨ x = 0)
/-- An int within some bounds. -/
def I64 (lo hi : Int) (v : Value) : Prop := ∃ x : Int, v = .int .i64 x ∧ lo ≤ x ∧ x ≤ hi
def IsB (v : Value) : Prop := ∃ b : Bool, v = .bool b
theorem wrap64_bd (x : Int) : -9223372036854775808 ≤ wrap64 x ∧ wrap64 x ≤ 9223372036854775807 := by unfold wrap64; omega
set_option maxRecDepth 100000 in
set_option maxHeartbeats 4000000 in
theorem spec_l1Byte (b n cap : Nat) (A : Option Addr) (xs : List Int) (w : World) {B : Nat} (hct : CT w w B b n cap A xs) :
    Calls Tryz.prog 87 #[.pointer (some ⟨b, 0, none⟩)] w (DRV (fun _ => Upto 256) B b n cap A xs w) := by
  have hB := hct.hB
  have hn := hct.hn
  have hby := hct.rb
  obtain ⟨i, h, ⟨h1, h2⟩, hX⟩ := hct.cu
  clear hct
  have HBY := Lib.hid hby
  have x0 := hX.cell 0
  have x1 := hX.cell 1
  have x2 := hX.cell 2
  have xf := hX.frozen
  have hl := hX.lt
  simp at x0 x1 x2
  by_cases hi : i < n
  · obtain ⟨g, o, rfl, hg, hc⟩ := hby.2.1 (by omega)
    have hv := hc i.toNat (by omega)
    obtain ⟨v1, v2⟩ := hby.2.2 i.toNat
    generalize xs.getD i.toNat 0 = v at *
    clear hc hby
    have hgb : ¬ g = b := by omega
    go_enter Tryz.func87, Tryz.ntmps87
    go_wp2_with fail
    have hq := wrap64_bd (wrap64 (h * 6364136223846793005) + 1442695040888963407)
    generalize wrap64 (wrap64 (h * 6364136223846793005) + 1442695040888963407) = q at hq
    go_region
    all_goals go_wp2
    all_goals have hy := bits_and_bd (bits BinOp.xor IntKind.i64 (q / 8589934592) (q / 35184372088832)) 255 (by decide)
    all_goals generalize bits BinOp.and IntKind.i64 (bits BinOp.xor IntKind.i64 (q / 8589934592) (q / 35184372088832)) 255 = y at hy
    go_region
    all_goals go_wp2
    go_region
    all_goals go_wp2
    have hz := bits_and_bd (y + v) 255 (by decide)
    generalize bits BinOp.and IntKind.i64 (y + v) 255 = z at hz
    go_ret
    refine ⟨_, rfl, ⟨z, rfl, by omega, .inl (by omega)⟩, ⟨i + 1, q, by omega, ?_⟩, ?_, ?_, hB, hl, hn⟩
    · exact ((hX.set_ 2 (.int .i64 q)).set_ 1 (.int .i64 (i + 1))).as rfl
    · exact RB.setCell (RB.setCell HBY.out (by simp; omega) _) (by simp; omega) _
    · exact only_drew (only_drew (only_drew (only_set (only_set (World.grownBy.refl w _) 2 _) 1 _)))
  · clear hby
    go_enter Tryz.func87, Tryz.ntmps87
    go_wp2_with fail
    have hq := wrap64_bd (wrap64 (h * 6364136223846793005) + 1442695040888963407)
    generalize wrap64 (wrap64 (h * 6364136223846793005) + 1442695040888963407) = q at hq
    go_region
    all_goals go_wp2
    have hy := bits_and_bd (bits BinOp.xor IntKind.i64 (q / 8589934592) (q / 35184372088832)) 255 (by decide)
    generalize bits BinOp.and IntKind.i64 (bits BinOp.xor IntKind.i64 (q / 8589934592) (q / 35184372088832)) 255 = y at hy
    go_region
    all_goals go_wp2
    go_ret
    refine ⟨_, rfl, ⟨y, rfl, by omega, .inl (by omega)⟩, ⟨i, q, by omega, ?_⟩, ?_, ?_, hB, hl, hn⟩
    · exact (hX.set_ 2 (.int .i64 q)).as rfl
    · exact RB.setCell HBY.out (by simp; omega) _
    · exact only_drew (only_drew (only_set (World.grownBy.refl w _) 2 _))
theorem tmod_bd {x n : Int} (hx : 0 ≤ x) (hn : 0 < n) : 0 ≤ x.tmod n ∧ x.tmod n < n := ⟨Int.tmod_nonneg n hx, Int.tmod_lt_of_pos x hn⟩
set_option maxRecDepth 100000 in
set_option maxHeartbeats 4000000 in
theorem spec_l1Below (b n cap : Nat) (A : Option Addr) (xs : List Int) (k : Int) (w : World) {B : Nat} (hct : CT w w B b n cap A xs) :
    Calls Tryz.prog 72 #[.pointer (some ⟨b, 0, none⟩), .int .i64 k] w (DRV (fun _ => Upto k) B b n cap A xs w) := by
  have hsz := hct.size
  by_cases h0 : k ≤ 0
  · go_enter Tryz.func72, Tryz.ntmps72
    go_wp2_with fail
    go_ret
    exact ⟨_, rfl, ⟨0, rfl, by omega, .inr rfl⟩, by (with_reducible (repeat (first | exact hct | refine CT.drew ?_ | refine CT.drewN ?_ _ | refine CT.alloc ?_ _ | refine CT.far ?_ Ks _ | refine CT.below ?_ (by assumption) Ks)))⟩
  · have hk : ¬ k = 0 := by omega
    by_cases h1 : k ≤ 256
    · go_enter Tryz.func72, Tryz.ntmps72
      go_wp2_with (go_at_call 87; refine (spec_l1Byte b n cap A xs _ (CT.self (w0 := w) (B := B) (by (with_reducible (repeat (first | exact hct | refine CT.drew ?_ | refine CT.drewN ?_ _ | refine CT.alloc ?_ _ | refine CT.far ?_ Ks _ | refine CT.below ?_ (by assumption) Ks)))))).mono ?_; rintro e w1 ⟨v, rfl, ⟨x, rfl, hx0, hx1⟩, hc1⟩; have hct_1 : CT w w1 B b n cap A xs := CT.trans (by (with_reducible (repeat (first | exact hct | refine CT.drew ?_ | refine CT.drewN ?_ _ | refine CT.alloc ?_ _ | refine CT.far ?_ Ks _ | refine CT.below ?_ (by assumption) Ks)))) hc1; clear hct hc1; have hct := hct_1; clear hct_1; have hsz := hct.size)
      have he1 := Int.emod_nonneg x hk
      have he2 := Int.emod_lt_of_pos x (show 0 < k by omega)
      go_ret
      exact ⟨_, rfl, ⟨_, rfl, he1, .inl he2⟩, by (with_reducible (repeat (first | exact hct | refine CT.drew ?_ | refine CT.drewN ?_ _ | refine CT.alloc ?_ _ | refine CT.far ?_ Ks _ | refine CT.below ?_ (by assumption) Ks)))⟩
    · go_enter Tryz.func72, Tryz.ntmps72
      go_wp2_with (go_at_call 87; refine (spec_l1Byte b n cap A xs _ (CT.self (w0 := w) (B := B) (by (with_reducible (repeat (first | exact hct | refine CT.drew ?_ | refine CT.drewN ?_ _ | refine CT.alloc ?_ _ | refine CT.far ?_ Ks _ | refine CT.below ?_ (by assumption) Ks)))))).mono ?_; rintro e w1 ⟨v, rfl, ⟨x, rfl, hx0, hx1⟩, hc1⟩; have hct_1 : CT w w1 B b n cap A xs := CT.trans (by (with_reducible (repeat (first | exact hct | refine CT.drew ?_ | refine CT.drewN ?_ _ | refine CT.alloc ?_ _ | refine CT.far ?_ Ks _ | refine CT.below ?_ (by assumption) Ks)))) hc1; clear hct hc1; have hct := hct_1; clear hct_1; have hsz := hct.size)
      go_ret
      exact ⟨_, rfl, ⟨_, rfl, Int.emod_nonneg _ hk, .inl (Int.emod_lt_of_pos _ (by omega))⟩, by (with_reducible (repeat (first | exact hct | refine CT.drew ?_ | refine CT.drewN ?_ _ | refine CT.alloc ?_ _ | refine CT.far ?_ Ks _ | refine CT.below ?_ (by assumption) Ks)))⟩
theorem spec_l1Once (b n cap : Nat) (A : Option Addr) (xs : List Int) (k : Int) (w : World) {B : Nat} (hct : CT w w B b n cap A xs) :
    Calls Tryz.prog 75 #[.pointer (some ⟨b, 0, none⟩), .int .i64 k] w (DRV (fun _ => IsB) B b n cap A xs w) := by
  have hsz := hct.size
  go_enter Tryz.func75, Tryz.ntmps75
  go_wp2_with (go_at_call 72; refine (spec_l1Below b n cap A xs k _ (CT.self (w0 := w) (B := B) (by (with_reducible (repeat (first | exact hct | refine CT.drew ?_ | refine CT.drewN ?_ _ | refine CT.alloc ?_ _ | refine CT.far ?_ Ks _ | refine CT.below ?_ (by assumption) Ks)))))).mono ?_; rintro e w1 ⟨v, rfl, ⟨x, rfl, hx0, hx1⟩, hc1⟩; have hct_1 : CT w w1 B b n cap A xs := CT.trans (by (with_reducible (repeat (first | exact hct | refine CT.drew ?_ | refine CT.drewN ?_ _ | refine CT.alloc ?_ _ | refine CT.far ?_ Ks _ | refine CT.below ?_ (by assumption) Ks)))) hc1; clear hct hc1; have hct := hct_1; clear hct_1; have hsz := hct.size)
  go_ret
  exact ⟨_, rfl, ⟨_, rfl⟩, by (with_reducible (repeat (first | exact hct | refine CT.drew ?_ | refine CT.drewN ?_ _ | refine CT.alloc ?_ _ | refine CT.far ?_ Ks _ | refine CT.below ?_ (by assumption) Ks)))⟩
/-- One of the numbers of a list. -/
def OneOf (ys : List Int) (v : Value) : Prop := ∃ x : Int, v = .int .i64 x ∧ x ∈ ys
set_option maxRecDepth 100000 in
set_option maxHeartbeats 4000000 in
theorem spec_l1PickInt (b n cap : Nat) (A : Option Addr) (xs : List Int) (A2 : Option Addr) (n2 cap2 : Nat) (ys : List Int) (w : World) {B B2 : Nat} (hct : CT w w B b n cap A xs) (hri : RI w B2 A2 n2 ys) (hB2 : B2 ≤ w.heap.size) (hne : ∀ p : Addr, (∃ o c, A2 = some ⟨b, o, c⟩) → False) (hn2 : 0 < n2) (hn3 : n2 ≤ 100) :
    Calls Tryz.prog 74 #[.pointer (some ⟨b, 0, none⟩), .slice A2 n2 cap2] w (DRV (fun _ => OneOf ys) B b n cap A xs w) := by
  have hsz := hct.size
  have hlen := hri.len
  obtain ⟨g, o, rfl, hg, hc⟩ := hri.2 hn2
  have hgb : g ≠ b := fun e => hne ⟨0, 0, none⟩ ⟨o, none, by rw [e]⟩
  have HC := Lib.hid hc
  have HLEN := Lib.hid hlen
  clear hc hri hne hlen
  go_enter Tryz.func74, Tryz.ntmps74
  go_wp2_with (go_at_call 72; refine (spec_l1Below b n cap A xs (n2 : Int) _ (CT.self (w0 := w) (B := B) (by (with_reducible (repeat (first | exact hct | refine CT.drew ?_ | refine CT.drewN ?_ _ | refine CT.alloc ?_ _ | refine CT.far ?_ Ks _ | refine CT.below ?_ (by assumption) Ks)))))).mono ?_; rintro e w1 ⟨v, rfl, ⟨x, rfl, hx0, hx1⟩, hc1⟩; have hct_1 : CT w w1 B b n cap A xs := CT.trans (by (with_reducible (repeat (first | exact hct | refine CT.drew ?_ | refine CT.drewN ?_ _ | refine CT.alloc ?_ _ | refine CT.far ?_ Ks _ | refine CT.below ?_ (by assumption) Ks)))) hc1; clear hct hc1; have hct := hct_1; clear hct_1; have hsz := hct.size; have hlt : x < n2 := (by omega); have hcell : w1.cell? ⟨g, o + x.toNat, none⟩ = some (.int .i64 (ys.getD x.toNat 0)) := (World.cell?_of_block (hct.gr.block g (by omega) (by simp; omega))).trans (HC.out x.toNat (by omega)))
  go_ret
  have hm : ys[x.toNat]?.getD 0 ∈ ys := by
    have h2 := HLEN.out
    rw [← getD_nat]
    have h3 : x.toNat < ys.length := by omega
    simp only [List.getD, List.getElem?_eq_getElem h3, Option.getD_some]
    exact List.getElem_mem h3
  exact ⟨_, rfl, ⟨_, rfl, hm⟩, by (with_reducible (repeat (first | exact hct | refine CT.drew ?_ | refine CT.drewN ?_ _ | refine CT.alloc ?_ _ | refine CT.far ?_ Ks _ | refine CT.below ?_ (by assumption) Ks)))⟩
theorem RI.lit {w : World} {g : Nat} {t : TypeId} {ys : List Int} (h : Blk w g t (ys.map (Value.int .i64)).toArray) : RI w (g + 1) (some ⟨g, 0, none⟩) ys.length ys :=
  ⟨rfl, fun _ => ⟨g, 0, rfl, by omega, fun k hk => by rw [Nat.zero_add, h.cell]; simp [hk]⟩⟩
theorem not_at {b g : Nat} (h : b < g) : ∀ p : Addr, (∃ o c, (some ⟨g, 0, none⟩ : Option Addr) = some ⟨b, o, c⟩) → False := fun _ ⟨_, _, e⟩ => by
  injection e with e; injection e with e1; omega
set_option maxRecDepth 100000 in
set_option maxHeartbeats 4000000 in
theorem spec_l1Odd (b n cap : Nat) (A : Option Addr) (xs : List Int) (w : World) {B : Nat} (hct : CT w w B b n cap A xs) :
    Calls Tryz.prog 89 #[.pointer (some ⟨b, 0, none⟩)] w (DRV (fun _ => I64 (-9223372036854775808) 9223372036854775807) B b n cap A xs w) := by
  have hsz := hct.size
  have hb := hct.hb
  go_enter Tryz.func89, Tryz.ntmps89
  go_wp2_with (go_at_call 74; refine (spec_l1PickInt b n cap A xs (some ⟨(w.heap.size), 0, none⟩) _ _ ([0, 1, -1, 2, 400000000, -400000000, 400000001, -400000001, 399999999, 9223372036854775807, -9223372036854775808]) _ (B2 := (w.heap.size) + 1) (CT.self (w0 := w) (B := B) (by (with_reducible (repeat (first | exact hct | refine CT.drew ?_ | refine CT.drewN ?_ _ | refine CT.alloc ?_ _ | refine CT.far ?_ Ks _ | refine CT.below ?_ (by assumption) Ks))))) ?h2 ?h3 ?h4 ?h5 ?h6).mono ?h7; (case h2 => (exact (RI.lit (Blk.new _ _ _)))); (case h3 => (exact Ks)); (case h4 => (exact (not_at Ks))); (case h5 => decide); (case h6 => decide); rintro e w1 ⟨v, rfl, ⟨x, rfl, hx0⟩, hc1⟩; have hct_1 : CT w w1 B b n cap A xs := CT.trans (by (with_reducible (repeat (first | exact hct | refine CT.drew ?_ | refine CT.drewN ?_ _ | refine CT.alloc ?_ _ | refine CT.far ?_ Ks _ | refine CT.below ?_ (by assumption) Ks)))) hc1; clear hct hc1; have hct := hct_1; clear hct_1; have hsz := hct.size)
  go_ret
  refine ⟨_, rfl, ⟨x, rfl, ?_⟩, by (with_reducible (repeat (first | exact hct | refine CT.drew ?_ | refine CT.drewN ?_ _ | refine CT.alloc ?_ _ | refine CT.far ?_ Ks _ | refine CT.below ?_ (by assumption) Ks)))⟩
  simp only [List.mem_cons, List.not_mem_nil, or_false] at hx0
  omega
set_option maxRecDepth 100000 in
set_option maxHeartbeats 4000000 in
theorem spec_l1Num (b n cap : Nat) (A : Option Addr) (xs : List Int) (most : Int) (w : World) {B : Nat} (hct : CT w w B b n cap A xs) (hm : 0 ≤ most ∧ most ≤ 1000000) :
    Calls Tryz.prog 77 #[.pointer (some ⟨b, 0, none⟩), .int .i64 most] w (DRV (fun _ => I64 (-9223372036854775808) 9223372036854775807) B b n cap A xs w) := by
  have hsz := hct.size
  obtain ⟨hm1, hm2⟩ := hm
  go_enter Tryz.func77, Tryz.ntmps77
  go_wp2_with (first | (go_at_call 75; refine (spec_l1Once b n cap A xs 40 _ (CT.self (w0 := w) (B := B) (by (with_reducible (repeat (first | exact hct | refine CT.drew ?_ | refine CT.drewN ?_ _ | refine CT.alloc ?_ _ | refine CT.far ?_ Ks _ | refine CT.below ?_ (by assumption) Ks)))))).mono ?_; rintro e w1 ⟨v, rfl, ⟨q, rfl⟩, hc1⟩; have hct_1 : CT w w1 B b n cap A xs := CT.trans (by (with_reducible (repeat (first | exact hct | refine CT.drew ?_ | refine CT.drewN ?_ _ | refine CT.alloc ?_ _ | refine CT.far ?_ Ks _ | refine CT.below ?_ (by assumption) Ks)))) hc1; clear hct hc1; have hct := hct_1; clear hct_1; have hsz := hct.size) | (go_at_call 72; refine (spec_l1Below b n cap A xs (2 * most + 1) _ (CT.self (w0 := w) (B := B) (by (with_reducible (repeat (first | exact hct | refine CT.drew ?_ | refine CT.drewN ?_ _ | refine CT.alloc ?_ _ | refine CT.far ?_ Ks _ | refine CT.below ?_ (by assumption) Ks)))))).mono ?_; rintro e w1 ⟨v, rfl, ⟨x, rfl, hx0, hx1⟩, hc1⟩; have hct_1 : CT w w1 B b n cap A xs := CT.trans (by (with_reducible (repeat (first | exact hct | refine CT.drew ?_ | refine CT.drewN ?_ _ | refine CT.alloc ?_ _ | refine CT.far ?_ Ks _ | refine CT.below ?_ (by assumption) Ks)))) hc1; clear hct hc1; have hct := hct_1; clear hct_1; have hsz := hct.size) | (go_at_call 89; refine (spec_l1Odd b n cap A xs _ (CT.self (w0 := w) (B := B) (by (with_reducible (repeat (first | exact hct | refine CT.drew ?_ | refine CT.drewN ?_ _ | refine CT.alloc ?_ _ | refine CT.far ?_ Ks _ | refine CT.below ?_ (by assumption) Ks)))))).mono ?_; rintro e w1 ⟨v, rfl, ⟨x, rfl, hx0, hx1⟩, hc1⟩; have hct_1 : CT w w1 B b n cap A xs := CT.trans (by (with_reducible (repeat (first | exact hct | refine CT.drew ?_ | refine CT.drewN ?_ _ | refine CT.alloc ?_ _ | refine CT.far ?_ Ks _ | refine CT.below ?_ (by assumption) Ks)))) hc1; clear hct hc1; have hct := hct_1; clear hct_1; have hsz := hct.size))
  all_goals go_ret
  all_goals exact ⟨_, rfl, ⟨_, rfl, by omega, by omega⟩, by (with_reducible (repeat (first | exact hct | refine CT.drew ?_ | refine CT.drewN ?_ _ | refine CT.alloc ?_ _ | refine CT.far ?_ Ks _ | refine CT.below ?_ (by assumption) Ks)))⟩
theorem CU.new {w : World} {b n cap : Nat} {A : Option Addr} {h : Int} (k : Blk w b 97 #[.slice A n cap, .int .i64 0, .int .i64 h]) : CU w b A n cap := ⟨0, h, by omega, k⟩
/-- The call laid a cursor. -/
def CUR (n cap : Nat) (A : Option Addr) (w : World) (e : Ending) (w' : World) : Prop := ∃ b, e = .returned (.pointer (some ⟨b, 0, none⟩)) ∧ CU w' b A n cap ∧ w.heap.size ≤ b ∧ Below w.heap.size w w'
set_option maxRecDepth 100000 in
set_option maxHeartbeats 4000000 in
theorem spec_l1New (n cap : Nat) (A : Option Addr) (xs : List Int) (w : World) {B : Nat} (hby : RB w B A n xs) (hn : n ≤ 2000000) :
    Calls Tryz.prog 49 #[.slice A n cap] w (CUR n cap A w) := by
  have HBY := Lib.hid hby
  clear hby
  go_enter Tryz.func49, Tryz.ntmps49
  go_wp2
  go_loopw [3, 4] (fun u v wr => ∃ (h : Int) (i : Nat), u = .int .i64 h ∧ v = .int .i64 i ∧ 0 ≤ h ∧ h ≤ 2000000000 ∧ i ≤ n ∧ wr = w) (fun _ v _ => n - (intOf v).toNat)
  case atStart => exact ⟨_, 0, rfl, rfl, by omega, by omega, by omega, rfl⟩
  case round =>
    obtain ⟨h, i, rfl, rfl, h1, h2, h3, rfl⟩ := hrel
    by_cases hi : i < n
    · by_cases hi4 : i < 4000
      · obtain ⟨g, o, rfl, hg, hc⟩ := HBY.out.2.1 (by omega)
        have hv := hc i hi
        obtain ⟨v1, v2⟩ := HBY.out.2.2 i
        generalize xs.getD i 0 = v at *
        clear hc
        go_wp2
        have hz := bits_and_bd (h * 131 + v + 7) 1073741823 (by decide)
        generalize bits BinOp.and IntKind.i64 (h * 131 + v + 7) 1073741823 = z at hz
        exact ⟨⟨_, i + 1, rfl, by simp, by omega, by omega, by omega, trivial⟩, by simp only [intOf]; omega⟩
      · go_wp2
        go_ret
        exact ⟨_, rfl, CU.new (Blk.new _ _ _), Nat.le_refl _, Kw⟩
    · go_wp2
      go_ret
      exact ⟨_, rfl, CU.new (Blk.new _ _ _), Nat.le_refl _, Kw⟩
theorem CT.new {w : World} {B b n cap : Nat} {A : Option Addr} {xs : List Int} (hcu : CU w b A n cap) (hby : RB w B A n xs) (hB : B ≤ b) (hn : n ≤ 2000000) : CT w w B b n cap A xs := ⟨hcu, hby, World.grownBy.refl _ _, hB, hcu.lt, hn⟩
/-- What is below the cursor is as it was. -/
theorem CT.under {w w' : World} {B b n cap D : Nat} {A : Option Addr} {xs : List Int} (h : CT w w' B b n cap A xs) (hD : D ≤ b) : Below D w w' := only_below h.gr (by have := h.hb; omega) fun g e => by cases e; exact hD
end Go.Proofs.YtlggfmfelakadaaGreatDoor

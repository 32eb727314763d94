/-
  DERIVED. Slices of ratios: their cells, flat; the laws' helpers toRatioS, szRatioS, eqRatioS, markRatioS, heldRatioS.
-/
import Derived.Test.YtmcbhpaajjlmmaaZ2
import Derived.Test.YtmcbhpaajjlmmaaRatOq
import Derived.Test.YtmcbhpaajjlmmaaZ3
namespace Go.Proofs.Ytmcbhpaajjlmmaa
open Go.RowKit
set_option linter.unusedVariables false
set_option linter.unusedSimpArgs false
theorem ratio_info : (Try.prog.info? 50).map (fun i => (i.zero, i.size, i.bytes)) = some (some (.agg #[.int .i64 0, .int .i64 0]), 2, 16) := by kernel_rfl
/-- From block B on, the slice value v owns just n ratios, whose cells are xs. -/
def OF (w : World) (B : Nat) (v : Value) (n : Nat) (xs : List Int) : Prop := w.ownsRow B 50 2 v n (xs.map (Value.int .i64))
section
variable {w w' : World} {B n : Nat} {v : Value} {xs : List Int}
theorem OF.len (h : OF w B v n xs) : xs.length = n * 2 := by have := h.1; simpa using this
theorem OF.form (h : OF w B v n xs) : (v = .slice none 0 0 ∧ n = 0) ∨ ∃ g cap, v = .slice (some ⟨g, 0, none⟩) n cap ∧ B ≤ g ∧ g < w.heap.size ∧ n ≤ cap ∧ cap ≤ maxLen := by
  rcases h.2 with ⟨h1, h2⟩ | ⟨g, cap, cur, h1, h2, h3, h4, h5, _⟩
  · exact .inl ⟨h1, h2⟩
  · refine .inr ⟨g, cap, h1, h2, ?_, h4, h5⟩
    rcases Nat.lt_or_ge g w.heap.size with hlt | hge
    · exact hlt
    · rw [Array.getElem?_eq_none hge] at h3; cases h3
theorem OF.kept {row : Option Nat} (h : OF w B v n xs) (hg : w.grownBy w' row) (hne : v.ownBlock = none ∨ v.ownBlock ≠ row) : OF w' B v n xs := World.ownsRow.kept h hg hne
theorem OF.alloc (h : OF w B v n xs) (o : Obj) : OF (w.alloc o) B v n xs := World.ownsRow.alloc h o
theorem OF.drew (h : OF w B v n xs) : OF w.drew B v n xs := h
theorem OF.drewN (h : OF w B v n xs) (k : Nat) : OF (w.drewN k) B v n xs := h
theorem OF.below {C : Nat} (h : OF w B v n xs) (hb : Below C w w') (hC : w.heap.size ≤ C) : OF w' B v n xs :=
  h.kept (row := none) ⟨hb.os, hb.tape, hb.output, hb.size, fun k hk _ => hb.block k (by omega)⟩ (by cases v.ownBlock <;> simp)
theorem OF.far (h : OF w B v n xs) {p : Addr} (hp : v.ownBlock ≠ some p.block) (u : Value) : OF (w.setCell p u) B v n xs :=
  h.kept (row := some p.block) ⟨rfl, rfl, rfl, by simp [World.setCell], fun k hk hne => Below.heap_setCell w p u k (fun e => hne (by rw [e]))⟩ (.inr hp)
theorem OF.mono {B' : Nat} (h : OF w B v n xs) (hB : B' ≤ B) : OF w B' v n xs := by
  refine ⟨h.1, ?_⟩
  rcases h.2 with h1 | ⟨g, cap, cur, h1, h2, h3⟩
  · exact .inl h1
  · exact .inr ⟨g, cap, cur, h1, by omega, h3⟩
theorem OF.low (h : OF w B v n xs) {p : Addr} (hp : p.block < B) (u : Value) : OF (w.setCell p u) B v n xs := ownsRow_setCell_below h hp u
theorem OF.own (h : OF w B v n xs) : Own v B w.heap.size := by
  intro g hg
  rcases h.form with ⟨h1, h2⟩ | ⟨g', cap', h1, h2, h3, _⟩
  · subst h1; cases hg
  · subst h1
    have e : g' = g := by simpa [Value.ownBlock] using hg
    subst e; exact ⟨h2, h3⟩
theorem OF.b_ {w w' : World} {B C n : Nat} {v : Value} {xs : List Int} (h : OF w B v n xs) (hb : Below C w w' := by assumption) (hC : w.heap.size ≤ C := by first | omega | (simp; done) | (simp; omega)) : OF w' B v n xs := OF.below h hb hC
theorem OF.l_ {w : World} {B n : Nat} {v u : Value} {xs : List Int} {p : Addr} (h : OF w B v n xs) (hp : p.block < B := by first | omega | (simp only []; omega) | (simp; omega)) : OF (w.setCell p u) B v n xs := OF.low h hp u
theorem OF.keptOwn {sv : Value} {lo hi lo' hi' : Nat} (h : OF w B v n xs) (hg : w.grownBy w' sv.ownBlock) (a : Own v lo hi) (b : Own sv lo' hi') (hd : hi ≤ lo' ∨ hi' ≤ lo) : OF w' B v n xs := by
  refine h.kept hg ?_
  cases h1 : v.ownBlock with
  | none => exact .inl rfl
  | some g =>
    refine .inr fun e => ?_
    have h2 := a g h1
    have h3 := b g e.symm
    omega
theorem OF.as {ys : List Int} (h : OF w B v n xs) (e : xs = ys) : OF w B v n ys := e ▸ h
theorem OF.nil_ (w : World) (B : Nat) : OF w B (.slice none 0 0) 0 [] := World.ownsRow_nil w B _ _
variable {g cap : Nat} {A : Option Addr} {m : Nat}
theorem OF.lenEq (h : OF w B (.slice A m cap) n xs) : m = n := by
  rcases h.form with ⟨h1, h2⟩ | ⟨g, cap', h1, h2, h3, _⟩
  · injection h1 with e1 e2 e3; omega
  · injection h1
theorem OF.cnt (h : OF w B (.slice A m cap) n xs) : OF w B (.slice A m cap) m xs := by
  have h1 := h.lenEq
  subst h1
  exact h
theorem OF.caps (h : OF w B (.slice A m cap) n xs) : m ≤ cap ∧ cap ≤ 9223372036854775807 := by
  rcases h.form with ⟨h1, h2⟩ | ⟨g, cap', h1, h2, h3, h4, h5⟩
  · injection h1 with e1 e2 e3; omega
  · injection h1 with e1 e2 e3
    unfold maxLen at h5
    omega
theorem OF.begins (h : OF w B (.slice A m cap) n xs) (hp : 0 < n) : ∃ g, A = some ⟨g, 0, none⟩ ∧ B ≤ g ∧ g < w.heap.size := by
  rcases h.form with ⟨h1, h2⟩ | ⟨g, cap', h1, h2, h3, _⟩
  · omega
  · injection h1 with e1 e2 e3
    exact ⟨g, e1, h2, h3⟩
theorem OF.cell (h : OF w B (.slice (some ⟨g, 0, none⟩) m cap) n xs) (k : Nat) (hk : k < n * 2) : w.cell? ⟨g, k, none⟩ = some (.int .i64 (xs.getD k 0)) := by
  have hn := h.lenEq
  subst hn
  have hl := h.len
  have := World.ownsRow.cellAt h k hk
  rw [this]
  simp [show k < xs.length by omega]
theorem OF.frozen (h : OF w B (.slice (some ⟨g, 0, none⟩) m cap) n xs) (k : Nat) : w.frozen? ⟨g, k, none⟩ = false := by
  have hn := h.lenEq
  subst hn
  exact World.ownsRow.frozenAt h k
theorem OF.set_ (h : OF w B (.slice (some ⟨g, 0, none⟩) m cap) n xs) (k : Nat) (u : Int) : OF (w.setCell ⟨g, k, none⟩ (.int .i64 u)) B (.slice (some ⟨g, 0, none⟩) m cap) n (xs.set k u) := by
  have hn := h.lenEq
  subst hn
  have := (World.ownsRow.stored h k (.int .i64 u)).1
  unfold OF
  rw [List.map_set]
  exact this
theorem OF.reads (h : OF w B (.slice A m cap) n xs) : RI w w.heap.size A (m * 2) xs := by
  have hl := h.len
  have hm := h.lenEq
  rcases h.form with ⟨h1, h2⟩ | ⟨g, cap', h1, h2, h3, _⟩
  · injection h1 with e1 e2 e3
    subst e2
    have hx : xs = [] := List.eq_nil_of_length_eq_zero (by omega)
    subst hx
    exact RI.nil_ _ _ _
  · injection h1 with e1 e2 e3
    subst e1; subst e2
    exact ⟨hl, fun hn => ⟨g, 0, rfl, h3, fun k hk => by rw [Nat.zero_add]; exact h.cell k hk⟩⟩
end
theorem made_ratios (n : Nat) : (madeCells #[Value.int .i64 0, Value.int .i64 0] (n * 2)).toList = (List.replicate (n * 2) (0 : Int)).map (Value.int .i64) := by
  rw [List.map_replicate]
  apply List.ext_getElem?
  intro i
  simp only [madeCells]
  by_cases hi : i < n * 2
  · have h2 : i % 2 = 0 ∨ i % 2 = 1 := by omega
    rcases h2 with h2 | h2 <;> simp [hi, h2]
  · simp [hi]
theorem OF.of_made {w : World} {B g n : Nat} (h : w.ownsRow B 50 2 (.slice (some ⟨g, 0, none⟩) n n) n (madeCells #[Value.int .i64 0, Value.int .i64 0] (n * 2)).toList) :
    OF w B (.slice (some ⟨g, 0, none⟩) n n) n (List.replicate (n * 2) 0) := by
  unfold OF
  rw [← made_ratios]
  exact h
/-- The call returned n ratios of its own. -/
def QR (n : Nat) (xs : List Int) (w : World) (e : Ending) (w' : World) : Prop := ∃ A m cap, e = .returned (.slice A m cap) ∧ OF w' w.heap.size (.slice A m cap) n xs ∧ Below w.heap.size w w'
theorem laws_eqRatio (a b : Int) (w : World) : Calls Try.prog 98 #[.agg #[.int .i64 a, .int .i64 b], .agg #[.int .i64 a, .int .i64 b]] w (BV (.bool true) w) := by
  have b1 : (a != a) = false := by simp
  have b2 : (b != b) = false := by simp
  go_enter Try.func98, Try.ntmps98
  go_wp2_with fail
  go_ret
  exact BV.mk rfl (by (repeat (first | (with_reducible (first | exact Below.refl _ _ | assumption | refine below_drewN ?_ _ | refine Below.drew ?_ | refine Below.alloc ?_ ?_ _ | refine Below.setCell ?_ ?_ _ | refine below_i ?_)) | go_size)))
set_option maxRecDepth 100000 in
set_option maxHeartbeats 4000000 in
theorem laws_eqRatioS (A A' : Option Addr) (n c d : Nat) (xs : List Int) (w : World) {C C' : Nat} (h : RI w C A (n * 2) xs) (h' : RI w C' A' (n * 2) xs) (hC : C ≤ w.heap.size) (hC' : C' ≤ w.heap.size) (hn : n ≤ 1048576) :
    Calls Try.prog 27 #[.slice A n c, .slice A' n d] w (BV (.bool true) w) := by
  have H := Lib.hid (h.more hC)
  have H' := Lib.hid (h'.more hC')
  have hb : ((n : Int) != (n : Int)) = false := by simp
  clear h h'
  go_enter Try.func27, Try.ntmps27
  go_wp2_with fail
  go_loopw [5] (fun v wr => ∃ k : Nat, v = .int .i64 k ∧ k ≤ n ∧ Below w.heap.size w wr) (fun v _ => n - (intOf v).toNat)
  case atStart => exact ⟨0, rfl, Nat.zero_le _, Below.refl _ _⟩
  case round =>
    obtain ⟨k, rfl, hk, hbw⟩ := hrel
    have hszw := hbw.size
    by_cases hlt : k < n
    · obtain ⟨b, o, rfl, hbb, hcells⟩ := H.out.2 (by omega)
      obtain ⟨b', o', rfl, hbb', hcells'⟩ := H'.out.2 (by omega)
      have hc1 := (hbw.cell (p := ⟨b, o + k * 2, none⟩) hbb).trans (hcells (k * 2) (by omega))
      have hc2 := (hbw.cell (p := ⟨b, o + k * 2 + 1, none⟩) hbb).trans (hcells (k * 2 + 1) (by omega))
      have hc3 := (hbw.cell (p := ⟨b', o' + k * 2, none⟩) hbb').trans (hcells' (k * 2) (by omega))
      have hc4 := (hbw.cell (p := ⟨b', o' + k * 2 + 1, none⟩) hbb').trans (hcells' (k * 2 + 1) (by omega))
      clear hcells hcells'
      generalize xs.getD (k * 2) 0 = x at *
      generalize xs.getD (k * 2 + 1) 0 = y at *
      go_wp2_with fail
      ((refine wp_region_held_drew (S := (fun w' => w'.cell? ⟨b, o + k * 2, none⟩ = some (.int .i64 x) ∧ w'.cell? ⟨b, o + k * 2 + 1, none⟩ = some (.int .i64 y) ∧ w'.cell? ⟨b', o' + k * 2, none⟩ = some (.int .i64 x) ∧ w'.cell? ⟨b', o' + k * 2 + 1, none⟩ = some (.int .i64 y))) (by kernel_rfl) ?_ (fun hHeld => ?_)); ((focus ((try dsimp only); (go_keep)))); ((refine tk_ (i := 0) (v := ?_) (y := Or.inl ⟨by rfl, ?_⟩) (h := ?_); rotate_left; (focus (((intro w hSw; (try dsimp only at hSw); go_simp) <;> (try with_reducible rfl)); done)); (try simp only [Act.put, p1_, p2_, p3_]))); ((refine tk_ (i := 1) (v := ?_) (y := Or.inl ⟨by rfl, ?_⟩) (h := ?_); rotate_left; (focus (((intro w hSw; (try dsimp only at hSw); go_simp) <;> (try with_reducible rfl)); done)); (try simp only [Act.put, p1_, p2_, p3_]))); ((refine tk_ (i := 2) (v := ?_) (y := Or.inl ⟨by rfl, ?_⟩) (h := ?_); rotate_left; (focus (((intro w hSw; (try dsimp only at hSw); go_simp) <;> (try with_reducible rfl)); done)); (try simp only [Act.put, p1_, p2_, p3_]))); ((refine tk_ (i := 3) (v := ?_) (y := Or.inl ⟨by rfl, ?_⟩) (h := ?_); rotate_left; (focus (((intro w hSw; (try dsimp only at hSw); go_simp) <;> (try with_reducible rfl)); done)); (try simp only [Act.put, p1_, p2_, p3_]))); ((refine tk_ (i := 4) (v := ?_) (y := Or.inl ⟨by rfl, ?_⟩) (h := ?_); rotate_left; (focus (((intro w hSw; (try dsimp only at hSw); go_simp) <;> (try with_reducible rfl)); done)); (try simp only [Act.put, p1_, p2_, p3_]))); ((refine tk_ (i := 5) (v := ?_) (y := Or.inl ⟨by rfl, ?_⟩) (h := ?_); rotate_left; (focus (((intro w hSw; (try dsimp only at hSw); go_simp) <;> (try with_reducible rfl)); done)); (try simp only [Act.put, p1_, p2_, p3_]))); ((refine tk_ (i := 6) (v := ?_) (y := Or.inl ⟨by rfl, ?_⟩) (h := ?_); rotate_left; (focus (((intro w hSw; (try dsimp only at hSw); go_simp) <;> (try with_reducible rfl)); done)); (try simp only [Act.put, p1_, p2_, p3_]))); ((refine tk_ (i := 7) (v := ?_) (y := Or.inl ⟨by rfl, ?_⟩) (h := ?_); rotate_left; (focus (((intro w hSw; (try dsimp only at hSw); go_simp) <;> (try with_reducible rfl)); done)); (try simp only [Act.put, p1_, p2_, p3_]))); ((refine wpAnyH_ready (rs := [8]) (by kernel_rfl) (by simp) ?_; refine AllReadyH.cons (by simp only [e1_, e2_, e3_]; try rfl) (fun K hK => ?_) AllReadyH.nil; go_simp; (refine (laws_eqRatio _ _ _).mono ?_; rintro e w1 ⟨rfl, hb1⟩; have hbw1 : Below w.heap.size w w1 := (by (repeat (first | (with_reducible (first | exact Below.refl _ _ | assumption | refine below_drewN ?_ _ | refine Below.drew ?_ | refine Below.alloc ?_ ?_ _ | refine Below.setCell ?_ ?_ _ | refine below_i ?_)) | go_size))); have hd1 := (hbw1.cell (p := ⟨b, o + k * 2, none⟩) hbb).trans ((hbw.cell (p := ⟨b, o + k * 2, none⟩) hbb).symm.trans hc1); have hd2 := (hbw1.cell (p := ⟨b, o + k * 2 + 1, none⟩) hbb).trans ((hbw.cell (p := ⟨b, o + k * 2 + 1, none⟩) hbb).symm.trans hc2); have hd3 := (hbw1.cell (p := ⟨b', o' + k * 2, none⟩) hbb').trans ((hbw.cell (p := ⟨b', o' + k * 2, none⟩) hbb').symm.trans hc3); have hd4 := (hbw1.cell (p := ⟨b', o' + k * 2 + 1, none⟩) hbb').trans ((hbw.cell (p := ⟨b', o' + k * 2 + 1, none⟩) hbb').symm.trans hc4)); (try go_wp2_with fail); refine hK.out _ _ ?_ (fun hHeld => ?_); (focus ((try dsimp only); (go_keep))); clear hK K; (try simp only [Act.put, p1_, p2_, p3_]))); ((refine tk_ (i := 9) (v := ?_) (y := Or.inl ⟨by rfl, ?_⟩) (h := ?_); rotate_left; (focus (((intro w hSw; (try dsimp only at hSw); go_simp) <;> (try with_reducible rfl)); done)); (try simp only [Act.put, p1_, p2_, p3_]))); (refine wpAnyH_done (by kernel_rfl) ?_ _))
      go_wp2_with fail
      go_roundw
      case rel => exact ⟨k + 1, by go_num, by omega, by (repeat (first | (with_reducible (first | exact Below.refl _ _ | assumption | refine below_drewN ?_ _ | refine Below.drew ?_ | refine Below.alloc ?_ ?_ _ | refine Below.setCell ?_ ?_ _ | refine below_i ?_)) | go_size))⟩
      case measure => simp only [intOf]; omega
    · go_wp2
      go_ret
      exact BV.mk rfl hbw
theorem iota_flat {k : Int} {n j : Nat} (h : j < n) : (iota k n).getD j 0 = k + j := iota_getD h
/-- The call returned the int, having written just the block of an own slice of n ratios, which now holds ys. -/
def WF (k : Int) (sv : Value) (B n : Nat) (ys : List Int) (w : World) (e : Ending) (w' : World) : Prop :=
  e = .returned (.int .i64 k) ∧ OF w' B sv n ys ∧ w.grownBy w' sv.ownBlock ∧ w.heap.size ≤ w'.heap.size
set_option maxRecDepth 100000 in
set_option maxHeartbeats 4000000 in
theorem laws_markRatioS (A : Option Addr) (n cap : Nat) (xs : List Int) (k : Int) (w : World) (B : Nat) (h : OF w B (.slice A n cap) n xs) (hn2 : n ≤ 1048576) (hk0 : 0 ≤ k) (hk1 : k ≤ 1000000000000) :
    Calls Try.prog 28 #[.slice A n cap, .int .i64 k] w (WF (k + (n * 2 : Nat)) (.slice A n cap) B n (iota k (n * 2)) w) := by
  have hlx := h.len
  have hlx1 : n * 2 ≤ xs.length ∧ xs.length ≤ n * 2 := by omega
  have HLX := Lib.hid hlx
  clear hlx
  go_enter Try.func28, Try.ntmps28
  go_wp2_with fail
  go_loopw [1, 5] (fun u v wr => ∃ j : Nat, u = .int .i64 (k + (j * 2 : Nat)) ∧ v = .int .i64 j ∧ j ≤ n ∧ OF wr B (.slice A n cap) n (marked xs k (j * 2)) ∧ w.grownBy wr (Value.slice A n cap).ownBlock ∧ w.heap.size ≤ wr.heap.size) (fun _ v _ => n - (intOf v).toNat)
  case atStart => exact ⟨0, by simp, rfl, Nat.zero_le _, by rw [Nat.zero_mul, marked_zero]; exact h, World.grownBy.refl w _, Nat.le_refl _⟩
  case round =>
    clear h
    obtain ⟨j, rfl, rfl, hj, hown, hgr, hsz⟩ := hrel
    by_cases hlt : j < n
    · obtain ⟨g, rfl, hg1, hg2⟩ := hown.begins (by omega)
      have c1 := hown.cell (j * 2) (by omega)
      have c2 := hown.cell (j * 2 + 1) (by omega)
      have f1 := hown.frozen (j * 2)
      have f2 := hown.frozen (j * 2 + 1)
      have hst := (hown.set_ (j * 2) (k + (j * 2 : Nat))).set_ (j * 2 + 1) (k + (j * 2 + 1 : Nat))
      rw [marked_set (by omega), marked_set (by omega)] at hst
      rw [show k + ((j * 2 : Nat) : Int) = k + (j : Int) * 2 by omega, show k + ((j * 2 + 1 : Nat) : Int) = k + (j : Int) * 2 + 1 by omega] at hst
      have HST := Lib.hid hst
      clear hst
      generalize (marked xs k (j * 2)).getD (j * 2) 0 = z1 at c1
      generalize (marked xs k (j * 2)).getD (j * 2 + 1) 0 = z2 at c2
      go_wp2_with fail
      go_roundw
      case rel => exact ⟨j + 1, by go_num, by go_num, by omega, by rw [show (j + 1) * 2 = j * 2 + 1 + 1 by omega]; exact HST.out, only_set (only_set hgr _ _) _ _, by simp; omega⟩
      case measure => simp only [intOf]; omega
    · obtain rfl : j = n := by omega
      have hfin := hown.as (show marked xs k (j * 2) = iota k (j * 2) by rw [← HLX.out, marked_all])
      clear hown
      go_wp2_with fail
      go_ret
      exact ⟨rfl, hfin, hgr, hsz⟩
set_option maxRecDepth 100000 in
set_option maxHeartbeats 4000000 in
theorem laws_heldRatioS (A : Option Addr) (n cap : Nat) (k : Int) (w : World) (C : Nat) (h : RI w C A (n * 2) (iota k (n * 2))) (hn2 : n ≤ 1048576) (hk0 : 0 ≤ k) (hk1 : k ≤ 1000000000000) :
    Calls Try.prog 29 #[.slice A n cap, .int .i64 k] w (EV (.int .i64 (k + (n * 2 : Nat))) w) := by
  have H := Lib.hid h
  clear h
  go_enter Try.func29, Try.ntmps29
  go_wp2_with fail
  go_loop [1, 5] (fun u v => ∃ j : Nat, u = .int .i64 (k + (j * 2 : Nat)) ∧ v = .int .i64 j ∧ j ≤ n) (fun _ v => n - (intOf v).toNat)
  case atStart => exact ⟨0, by simp, rfl, Nat.zero_le _⟩
  case round =>
    obtain ⟨j, rfl, rfl, hj⟩ := hrel
    by_cases hlt : j < n
    · obtain ⟨b, o, rfl, hbb, hcells⟩ := H.out.2 (by omega)
      have c1 := hcells (j * 2) (by omega)
      have c2 : w.cell? ⟨b, o + j * 2 + 1, none⟩ = _ := hcells (j * 2 + 1) (by omega)
      have heb1 : ((iota k (n * 2)).getD (j * 2) 0 != k + (j : Int) * 2) = false := by rw [iota_getD (by omega)]; simp
      have heb2 : ((iota k (n * 2)).getD (j * 2 + 1) 0 != k + (j : Int) * 2 + 1) = false := by rw [iota_getD (by omega)]; simp; omega
      generalize (iota k (n * 2)).getD (j * 2) 0 = x at *
      generalize (iota k (n * 2)).getD (j * 2 + 1) 0 = y at *
      clear hcells
      go_wp2_with fail
      go_round
      case rel => exact ⟨j + 1, by go_num, by go_num, by omega⟩
      case measure => simp only [intOf]; omega
    · obtain rfl : j = n := by omega
      go_wp2_with fail
      go_ret
      exact EV.mk rfl
theorem run_append_ratio (w : World) (B : Nat) (ty : TypeId) (v : Value) (n : Nat) (xs : List Int) (hown : OF w B v n xs) (g : Nat) (x y : Int) (c0 : w.cell? ⟨g, 0, none⟩ = some (.int .i64 x)) (c1 : w.cell? ⟨g, 1, none⟩ = some (.int .i64 y)) (h63 : n ≤ 1000000000) (hbase : B ≤ w.heap.size) :
    ∃ v' w', (Builtin.append_ #[36, 36] ty #[v, .slice (some ⟨g, 0, none⟩) 1 1]).run Try.prog w = .ok v' w' ∧ OF w' B v' (n + 1) (xs ++ [x, y]) ∧ w.grownBy w' v.ownBlock ∧ (v'.ownBlock = v.ownBlock ∨ v'.ownBlock = some w.heap.size) := by
  obtain ⟨i0, hi, hz0, hz1, hz2⟩ := info_parts ratio_info
  have hcells : ∀ j u, ([Value.int .i64 x, Value.int .i64 y] : List Value)[j]? = some u → w.cell? ((⟨g, 0, none⟩ : Addr).add j) = some u := by
    intro j u hu
    rw [addr_add, Nat.zero_add]
    match j, hu with
    | 0, hu => simp at hu; subst hu; exact c0
    | 1, hu => simp at hu; subst hu; exact c1
    | j + 2, hu => simp at hu
  obtain ⟨v', w', hrun, h2, h3, _, h5⟩ := run_append_own_at (P := Try.prog) w B 36 ty 50 i0 (.agg #[.int .i64 0, .int .i64 0]) 2 16 Try.underlying36 hi hz0 hz1 hz2 rfl (by omega) v n (xs.map (Value.int .i64)) hown ⟨g, 0, none⟩ 1 1 [.int .i64 x, .int .i64 y] rfl hcells (by
    intro u hu
    simp at hu
    rcases hu with rfl | rfl <;> rfl) (by unfold maxLen; omega) (by omega) hbase
  refine ⟨v', w', hrun, ?_, h3, h5⟩
  unfold OF
  rw [List.map_append]
  exact h2
section
variable (w : World)
theorem step_append_ratio {ops : Array Oper} {o : Oper} {a : Act} {K : Act → World → Prop} {Q : Exit → Act → World → Prop} {E : Prop} (hgd : o.guard = none) (s z : Operand)
    (ho : o.op = .call { callee := .builtin .append, args := #[s, z], argTypes := #[36, 36] })
    (B : Nat) (v : Value) (n : Nat) (xs : List Int) (hs : a.eval s = v) (hown : OF w B v n xs) (g : Nat) (x y : Int) (hz : a.eval z = .slice (some ⟨g, 0, none⟩) 1 1) (c0 : w.cell? ⟨g, 0, none⟩ = some (.int .i64 x)) (c1 : w.cell? ⟨g, 1, none⟩ = some (.int .i64 y)) (h63 : n ≤ 1000000000) (hbase : B ≤ w.heap.size)
    (h : ∀ v' w', OF w' B v' (n + 1) (xs ++ [x, y]) → w.grownBy w' v.ownBlock → (v'.ownBlock = v.ownBlock ∨ v'.ownBlock = some w.heap.size) → K (a.put o.dst v') w') :
    if Region.wanted o (yielded ops a.tmps) = true then Oper.wp Try.prog o a w K Q else E := by
  have hw : Region.wanted o (yielded ops a.tmps) = true := by simp [Region.wanted, hgd]
  rw [if_pos hw]
  obtain ⟨v', w', hrun, h2, h3, h4⟩ := run_append_ratio w B o.type v n xs hown g x y c0 c1 h63 hbase
  unfold Oper.wp execOp
  simp only [ho, resolve, invoke, builtin, Sem.run_bind, Sem.run_pure, Result.andThen_ok, List.map_toArray, List.map_cons, List.map_nil, hs, hz, hrun]
  exact h v' w' h2 h3 h4
end
theorem OF.shape {w : World} {B n : Nat} {v : Value} {xs : List Int} (h : OF w B v n xs) : ∃ A c, v = .slice A n c := by
  rcases h.form with ⟨h1, h2⟩ | ⟨g, c, h1, _⟩
  · subst h2; exact ⟨_, _, h1⟩
  · exact ⟨_, _, h1⟩
theorem OF.empty (w : World) (g : Nat) (hg : g = w.heap.size) {B : Nat} (hB : B ≤ w.heap.size) : OF (w.alloc (.cells #[] 50)) B (.slice (some ⟨g, 0, none⟩) 0 0) 0 [] := by
  subst hg
  exact World.ownsRow_made (base := B) (e := 50) (size := 2) w #[] 0 hB (by unfold maxLen; omega) rfl
theorem OF.ne_low {w : World} {B n b : Nat} {v : Value} {xs : List Int} (h : OF w B v n xs) (hb : b < B) : some b ≠ v.ownBlock := fun e => by
  have := (h.own b e.symm).1; omega
theorem OF.below_grown {w w' : World} {B n : Nat} {v : Value} {xs : List Int} (h : OF w B v n xs) (hg : w.grownBy w' v.ownBlock) (hB : B ≤ w.heap.size) : Below B w w' :=
  only_below hg hB fun g e => (h.own g e).1
/-- The call returned n ratios of its own and the flag. -/
def QBR (n : Nat) (xs : List Int) (b : Bool) (w : World) (e : Ending) (w' : World) : Prop := ∃ A m cap, e = .returned (.tuple #[.slice A m cap, .bool b]) ∧ OF w' w.heap.size (.slice A m cap) n xs ∧ Below w.heap.size w w'
end Go.Proofs.Ytmcbhpaajjlmmaa

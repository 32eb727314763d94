/-
  DERIVED. Lists of operations on rows, of the program: DoRowOps, UndoRowOp, UndoRowOps, OpMatrix.
-/
import Derived.Test.YtlggfmfelakadaaIrdx
import Derived.Test.YtlggfmfelakadaaIdenx
namespace Go.Proofs.Ytlggfmfelakadaa
open Go.RowKit
set_option linter.unusedVariables false
set_option linter.unusedSimpArgs false
theorem ret_O {fn : Func} {R : Ending → World → Prop} {a : Act} {w : World} {t : Tmp} {b : Nat} {x : Rop} (hr : fn.results = #[.cell t 38])
    (ht : a.tmps.getD t undef = .pointer (some ⟨b, 0, none⟩)) (h : BO w b x) (hd : a.defers = []) (hR : R (.returned (oV x)) w) : bodyPost Try.prog fn R .ret a w :=
  bodyPost_ret (v := oV x) (by
    obtain ⟨r0, r1, r2, r3, rf, rl⟩ := h.cells
    have ht' := ht
    simp only [Array.getD_eq_getD_getElem?] at ht'
    simp [results, hr, ht', go_sem, r0, r1, r2, r3, oV]) hd hR
theorem BO.put {w : World} {b : Nat} {x y : Rop} (h : BO w b y) : BO ((((w.setCell ⟨b, 0, none⟩ (.int .i64 x.k)).setCell ⟨b, 1, none⟩ (.int .i64 x.i)).setCell ⟨b, 2, none⟩ (.int .i64 x.j)).setCell ⟨b, 3, none⟩ (.int .i64 x.t)) b x :=
  ((((Blk.set_ h 0 _).set_ 1 _).set_ 2 _).set_ 3 _).as rfl
set_option maxRecDepth 100000 in
set_option maxHeartbeats 4000000 in
theorem impl_UndoRowOp (k i j t : Int) (w : World) (ht : -4000000000 ≤ t ∧ t ≤ 4000000000) : Calls Try.prog 50 #[.agg #[.int .i64 k, .int .i64 i, .int .i64 j, .int .i64 t]] w (BV (oV (undo ⟨k, i, j, t⟩)) w) := by
  obtain ⟨t1, t2⟩ := ht
  have g1 : IntKind.i64.wrap (-t) = -t := IntWalk.i64_in _ (by omega)
  by_cases k2 : k = 2
  · subst k2
    have hu : Hid (undo ⟨2, i, j, t⟩ = ⟨2, i, j, -t⟩) := Lib.hid rfl
    go_enter Try.func50, Try.ntmps50
    go_wp2_with fail
    refine ret_O (b := w.heap.size + 1) (x := ⟨2, i, j, -t⟩) Try.results50 rfl (by unfold BO; (with_reducible (repeat (first | assumption | refine Blk.new_at _ _ _ _ Ks | refine Blk.below ?_ (by assumption) Ks | apply Blk.drew | apply Blk.drewN | refine Blk.far ?_ (by simp only [ne_eq]; omega) _ | apply Blk.alloc)))) rfl ?_
    exact BV.mk (by rw [hu.out]) Kw
  · have hu : undo ⟨k, i, j, t⟩ = ⟨k, i, j, t⟩ := by unfold undo; rw [if_neg k2]
    have b1 : (k == 2) = false := by simpa using k2
    rw [hu]
    clear k2 hu
    go_enter Try.func50, Try.ntmps50
    go_wp2_with fail
    refine ret_O (b := w.heap.size + 1) (x := ⟨k, i, j, t⟩) Try.results50 rfl (by unfold BO; (with_reducible (repeat (first | assumption | refine Blk.new_at _ _ _ _ Ks | refine Blk.below ?_ (by assumption) Ks | apply Blk.drew | apply Blk.drewN | refine Blk.far ?_ (by simp only [ne_eq]; omega) _ | apply Blk.alloc)))) rfl ?_
    exact BV.mk rfl Kw
theorem drop_at {l : List Rop} {k : Nat} (h : k < l.length) : ∃ x, l[k]? = some x ∧ x ∈ l ∧ l.drop k = x :: l.drop (k + 1) :=
  ⟨l[k], by simp [h], List.getElem_mem h, List.drop_eq_getElem_cons h⟩
set_option maxRecDepth 100000 in
set_option maxHeartbeats 8000000 in
theorem impl_UndoRowOps (A : Option Addr) (n cap : Nat) (l : List Rop) (w : World) {B : Nat} (h : RL w B A n l) (hB : B ≤ w.heap.size) (hn : n ≤ 1000) (ht : ∀ x ∈ l, -4000000000 ≤ x.t ∧ x.t ≤ 4000000000) :
    Calls Try.prog 11 #[.slice A n cap] w (OGR (undos l) w) := by
  have hll := h.2
  have H2 := Lib.hid (h.more hB)
  have HT := Lib.hid ht
  have HLL := Lib.hid hll
  clear h ht hll
  go_enter Try.func11, Try.ntmps11
  go_wp2_with fail
  go_loopw [3, 4] (fun vo v wr => ∃ (k : Nat) (P : Option Addr) (pc : Nat), v = .int .i64 ((k : Int) - 1) ∧ vo = .slice P (n - k) pc ∧ k ≤ n ∧ OG wr w.heap.size (.slice P (n - k) pc) (n - k) (flat4 (undos (l.drop k))) ∧ Below w.heap.size w wr) (fun _ v _ => (intOf v + 1).toNat)
  case atStart => exact ⟨n, some ⟨w.heap.size, 0, none⟩, 0, by go_num, by rw [Nat.sub_self], Nat.le_refl _, by rw [Nat.sub_self, List.drop_of_length_le (by rw [HLL.out]; omega)]; exact OG.empty _ _ rfl (Nat.le_refl _), Kw⟩
  case round =>
    obtain ⟨k, P, pc, rfl, rfl, hk, hof, hbw⟩ := hrel
    have hszr := hbw.size
    by_cases hk0 : 0 < k
    · obtain ⟨x, hx1, hx2, hx3⟩ := drop_at (l := l) (k := k - 1) (by rw [HLL.out]; omega)
      have hri := (H2.out.below hbw (Nat.le_refl _)).1
      obtain ⟨bb, oo, rfl, hbb, hcells⟩ := hri.2 (by omega)
      obtain ⟨q0, q1, q2, q3⟩ := flat4_at l (k - 1) x hx1
      have c0 : wr.cell? ⟨bb, oo + (k - 1) * 4, none⟩ = some (.int .i64 x.k) := by have := hcells ((k - 1) * 4) (by omega); rwa [q0] at this
      have c1 : wr.cell? ⟨bb, oo + (k - 1) * 4 + 1, none⟩ = some (.int .i64 x.i) := by have := hcells ((k - 1) * 4 + 1) (by omega); rwa [q1, ← Nat.add_assoc] at this
      have c2 : wr.cell? ⟨bb, oo + (k - 1) * 4 + 2, none⟩ = some (.int .i64 x.j) := by have := hcells ((k - 1) * 4 + 2) (by omega); rwa [q2, ← Nat.add_assoc] at this
      have c3 : wr.cell? ⟨bb, oo + (k - 1) * 4 + 3, none⟩ = some (.int .i64 x.t) := by have := hcells ((k - 1) * 4 + 3) (by omega); rwa [q3, ← Nat.add_assoc] at this
      have htx := HT.out x hx2
      have hnx : undos (l.drop (k - 1)) = undos (l.drop k) ++ [undo x] := by
        rw [hx3, show k - 1 + 1 = k by omega, undos_cons]
      have HNX := Lib.hid hnx
      have HUO := Lib.hid hof.own
      clear hx1 hx2 hx3 hcells q0 q1 q2 q3 hnx
      go_wp2_with fail
      refine (impl_UndoRowOp x.k x.i x.j x.t _ htx).mono ?_
      rintro e w1 ⟨rfl, hb1⟩
      unfold oV
      have hsz1 := hb1.size
      have hof1 : OG w1 w.heap.size (.slice P (n - k) pc) (n - k) (flat4 (undos (l.drop k))) := hof.below hb1 (Nat.le_refl _)
      have hbw1 : Below w.heap.size w w1 := Kw
      clear hof hbw hb1 c0 c1 c2 c3
      obtain ⟨y, hy⟩ : ∃ y, undo x = y := ⟨_, rfl⟩
      rw [show undo ⟨x.k, x.i, x.j, x.t⟩ = y from hy]
      rw [hy] at HNX
      clear hy
      go_wp2_with (at_builtin; refine wpList_append_rop _ rfl (.tmp 13) (.tmp 19) rfl w.heap.size _ (n - k) _ rfl (hof1.alloc _) _ y.k y.i y.j y.t rfl ?f1 ?f2 ?f3 ?f4 ?f5 ?f6 ?_)
      case f1 => simp [go_sem]
      case f2 => simp [go_sem]
      case f3 => simp [go_sem]
      case f4 => simp [go_sem]
      case f5 => omega
      case f6 => simp; omega
      intro v1 w6 hown1 hgr hat
      have hb9 := Below.trans (show Below w.heap.size w (w1.alloc (.cells #[.int .i64 y.k, .int .i64 y.i, .int .i64 y.j, .int .i64 y.t] 38)) from Kw) ((hof1.alloc (.cells #[.int .i64 y.k, .int .i64 y.i, .int .i64 y.j, .int .i64 y.t] 38)).below_grown hgr (by simp; omega))
      have hsz9 := hgr.size
      simp at hsz9
      have hown2 : OG w6 w.heap.size v1 (n - (k - 1)) (flat4 (undos (l.drop (k - 1)))) := by
        rw [HNX.out, flat4_app, show n - (k - 1) = n - k + 1 by omega]
        exact hown1
      obtain ⟨P', pc', rfl⟩ := hown2.shape
      clear hof1 hbw1 hgr hat hown1
      go_wp2_with fail
      go_roundw
      case rel => exact ⟨k - 1, P', pc', by go_num, rfl, by omega, by (try simp only [World.drewN, World.drew]); exact hown2, Kw⟩
      case measure => simp only [intOf]; omega
    · obtain rfl : k = 0 := by omega
      have hl0 : (undos (l.drop 0)).length = n := by rw [undos_len, List.drop_zero]; exact HLL.out
      have hof2 : OG wr w.heap.size (.slice P (n - 0) pc) (undos l).length (flat4 (undos l)) := by
        rw [List.drop_zero] at hof hl0
        rw [hl0]; simpa using hof
      clear hof
      go_wp2_with fail
      go_ret
      exact ⟨_, _, _, rfl, hof2, Kw⟩
end Go.Proofs.Ytlggfmfelakadaa

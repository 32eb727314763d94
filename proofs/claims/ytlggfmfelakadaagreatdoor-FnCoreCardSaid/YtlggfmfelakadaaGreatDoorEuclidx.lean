/-
  DERIVED. The contracts of ExtendedGcd, both.
-/
import Derived.Test.YtlggfmfelakadaaGreatDoorc1
import Derived.Test.YtlggfmfelakadaaGreatDoorc2
namespace Go.Proofs.YtlggfmfelakadaaGreatDoor
open Go.RowKit
set_option linter.unusedVariables false
theorem ret4 {fn : Func} {t u v x : Tmp} (h : fn.results = #[.tmp t, .tmp u, .tmp v, .tmp x]) (tmps : Array Value) (P : Program) (w : World) :
    (results fn tmps).run P w = .ok (.tuple #[tmps.getD t undef, tmps.getD u undef, tmps.getD v undef, tmps.getD x undef]) w := by simp [results, h]
theorem ret5 {fn : Func} {t u v x y : Tmp} (h : fn.results = #[.tmp t, .tmp u, .tmp v, .tmp x, .tmp y]) (tmps : Array Value) (P : Program) (w : World) :
    (results fn tmps).run P w = .ok (.tuple #[tmps.getD t undef, tmps.getD u undef, tmps.getD v undef, tmps.getD x undef, tmps.getD y undef]) w := by simp [results, h]
def egV (r : Int × Int × Int) (b : Bool) : Value := .tuple #[.int .i64 r.1, .int .i64 r.2.1, .int .i64 r.2.2, .bool b]
theorem egV_mk {r : Int × Int × Int} {g x y : Int} (h : r = (g, x, y)) (b : Bool) : Value.tuple #[.int .i64 g, .int .i64 x, .int .i64 y, .bool b] = egV r b := by subst h; rfl
theorem eg_neg {a b g x y : Int} (h : egL a b 1 0 0 1 = (g, x, y)) (hg : g < 0) : egRes a b = (-g, -x, -y) := by unfold egRes; rw [h]; simp [hg]
theorem eg_pos {a b g x y : Int} (h : egL a b 1 0 0 1 = (g, x, y)) (hg : 0 ≤ g) : egRes a b = (g, x, y) := by unfold egRes; rw [h]; simp; omega

set_option maxHeartbeats 1000000 in
theorem impl_ExtendedGcd (a b : Int) (ha : -400000000 ≤ a ∧ a ≤ 400000000) (hb : -400000000 ≤ b ∧ b ≤ 400000000) (w : World) :
    Calls Tryz.prog 86 #[.int .i64 a, .int .i64 b] w (BV (egV (egRes a b) true) w) := by
  go_enter Tryz.func86, Tryz.ntmps86
  go_wp2_with (first | (go_at_call 42; (first | refine (impl_IsNumber_yes _ _ (by omega)).mono ?_ | refine (impl_IsNumber_no _ _ (by omega)).mono ?_ | refine (impl_IsNumber _ _).mono ?_); rintro e w' ⟨rfl, rfl⟩))
  go_loopg [] (b.natAbs) (fun k wr => ∃ g x y h u v : Int, k = h.natAbs ∧ Blk wr w.heap.size 125 #[.int .i64 g, .int .i64 x, .int .i64 y] ∧ Blk wr (w.heap.size + 1) 125 #[.int .i64 h, .int .i64 u, .int .i64 v] ∧
    Below w.heap.size w wr ∧ EgInv a b g h x u y v ∧ egL g h x u y v = egL a b 1 0 0 1)
  case atStart => exact ⟨a, 1, 0, b, 0, 1, rfl, (Blk.new _ _ _).alloc _, by simpa using Blk.new (w.alloc (Obj.cells #[Value.int IntKind.i64 a, Value.int IntKind.i64 1, Value.int IntKind.i64 0] 125)) 125 #[Value.int IntKind.i64 b, Value.int IntKind.i64 0, Value.int IntKind.i64 1], Kw, EgInv.start ha hb, rfl⟩
  case round =>
    obtain ⟨g, x, y, h, u, v, hk0, B1, B2, hbw, i, hr0⟩ := hrel
    have hr := Lib.hid hr0
    have hk := Lib.hid hk0
    clear hr0 hk0
    have g1 := i.g1
    have h1 := i.h1
    have x1 := i.x1
    have y1 := i.y1
    have hz1 := B1.lt
    have hz2 := B2.lt
    have c0 : wr.cell? ⟨w.heap.size, 0, none⟩ = some (.int .i64 g) := B1.cell 0
    have c1 : wr.cell? ⟨w.heap.size, 1, none⟩ = some (.int .i64 x) := B1.cell 1
    have c2 : wr.cell? ⟨w.heap.size, 2, none⟩ = some (.int .i64 y) := B1.cell 2
    have c3 : wr.cell? ⟨w.heap.size + 1, 0, none⟩ = some (.int .i64 h) := B2.cell 0
    have c4 : wr.cell? ⟨w.heap.size + 1, 1, none⟩ = some (.int .i64 u) := B2.cell 1
    have c5 : wr.cell? ⟨w.heap.size + 1, 2, none⟩ = some (.int .i64 v) := B2.cell 2
    have f0 := B1.frozen 0
    have f1 := B1.frozen 1
    have f2 := B1.frozen 2
    have f3 := B2.frozen 0
    have f4 := B2.frozen 1
    have f5 := B2.frozen 2
    by_cases hh : h = 0
    · subst hh
      have hr2 := Lib.hid (show egL a b 1 0 0 1 = (g, x, y) from hr.out.symm.trans (egL_zero _ _ _ _ _))
      clear hr
      by_cases hg : g < 0
      · go_wp2
        go_rounds 4
        go_region
        all_goals go_wp2
        all_goals refine bodyPost_ret (ret4 rfl _ _ _) rfl (BV.mk ?_ Kw)
        all_goals exact egV_mk (eg_neg hr2.out hg) true
      · go_wp2
        go_region
        all_goals go_wp2
        all_goals refine bodyPost_ret (ret4 rfl _ _ _) rfl (BV.mk ?_ Kw)
        all_goals exact egV_mk (eg_pos hr2.out (by omega)) true
    · have hhb : (h != 0) = true := by simpa using hh
      obtain ⟨q1, q2, q3⟩ := quo_bd g h h i.g1 i.h1
      obtain ⟨_, q4, q5⟩ := quo_bd g h u i.g1 i.u1
      obtain ⟨_, q6, q7⟩ := quo_bd g h v i.g1 i.v1
      have i2 := i.step (by omega) (by omega) hh
      have ht := tdiv_mul g h
      have hlt := natAbs_tmod_lt g h hh
      have hr2 := Lib.hid ((egL_step g h x u y v hh).symm.trans hr.out)
      clear hr
      go_wp2
      refine wp_loop_rounds 4 ?_
      iterate 3
        rw [rounds_succ]
        go_wp2
        go_region
        go_wp2
      rw [rounds_succ]
      go_wp2
      go_region
      go_wp2
      go_roundg (g.tmod h).natAbs
      case measure => rw [hk.out]; exact hlt
      case rel =>
        refine ⟨h, u, v, g.tmod h, x - g.tdiv h * u, y - g.tdiv h * v, rfl, ?_, ?_, Kw, i2, hr2.out⟩
        · apply Blk.as
          · (with_reducible (repeat (first | exact B1 | refine Blk.below ?_ (by assumption) Ks | apply Blk.drew | apply Blk.drewN | apply Blk.alloc | apply Blk.set_ | apply Blk.far; rotate_left; (simp only [ne_eq]; omega); rotate_right)))
          · rfl
        · apply Blk.as
          · (with_reducible (repeat (first | exact B2 | refine Blk.below ?_ (by assumption) Ks | apply Blk.drew | apply Blk.drewN | apply Blk.alloc | apply Blk.set_ | apply Blk.far; rotate_left; (simp only [ne_eq]; omega); rotate_right)))
          · simp; omega
end Go.Proofs.YtlggfmfelakadaaGreatDoor

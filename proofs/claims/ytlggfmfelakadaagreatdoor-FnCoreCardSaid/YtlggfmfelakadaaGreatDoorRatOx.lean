/-
  DERIVED. lowest, l2Make, and the sums, products of ratios.
-/
import Derived.Test.YtlggfmfelakadaaGreatDoorc3
import Derived.Test.YtlggfmfelakadaaGreatDoorRatx
import Derived.Test.YtlggfmfelakadaaGreatDoorRowOpx
namespace Go.Proofs.YtlggfmfelakadaaGreatDoor
open Go.RowKit
set_option linter.unusedVariables false
set_option linter.unusedSimpArgs false
def rV (q : Int × Int) : Value := .agg #[.int .i64 q.1, .int .i64 q.2]
abbrev BQ (w : World) (b : Nat) (n d : Int) : Prop := Blk w b 38 #[.int .i64 n, .int .i64 d]
theorem BQ.cells {w : World} {b : Nat} {n d : Int} (h : BQ w b n d) : w.cell? ⟨b, 0, none⟩ = some (.int .i64 n) ∧ w.cell? ⟨b, 1, none⟩ = some (.int .i64 d) ∧ (∀ o, w.frozen? ⟨b, o, none⟩ = false) ∧ b < w.heap.size :=
  ⟨Blk.cell h 0, Blk.cell h 1, Blk.frozen h, Blk.lt h⟩
theorem BQ.put {w : World} {b : Nat} {n d n' d' : Int} (h : BQ w b n d) : BQ ((w.setCell ⟨b, 0, none⟩ (.int .i64 n')).setCell ⟨b, 1, none⟩ (.int .i64 d')) b n' d' :=
  ((Blk.set_ h 0 (.int .i64 n')).set_ 1 (.int .i64 d')).as rfl
theorem ret_Q {fn : Func} {R : Ending → World → Prop} {a : Act} {w : World} {t : Tmp} {b : Nat} {n d : Int} (hr : fn.results = #[.cell t 38])
    (ht : a.tmps.getD t undef = .pointer (some ⟨b, 0, none⟩)) (h : BQ w b n d) (hd : a.defers = []) (hR : R (.returned (.agg #[.int .i64 n, .int .i64 d])) w) : bodyPost Tryz.prog fn R .ret a w :=
  bodyPost_ret (v := .agg #[.int .i64 n, .int .i64 d]) (by
    obtain ⟨r0, r1, rf, rl⟩ := h.cells
    have ht' := ht
    simp only [Array.getD_eq_getD_getElem?] at ht'
    simp [results, hr, ht', go_sem, r0, r1]) hd hR
theorem rV_mk {n d : Int} {q : Int × Int} (h : q = (n, d)) : Value.agg #[.int .i64 n, .int .i64 d] = rV q := by subst h; rfl
set_option maxHeartbeats 4000000 in
theorem impl_lowest (n d : Int) (hd : d ≠ 0) (h1 : -2000000000000000000 ≤ n ∧ n ≤ 2000000000000000000) (h2 : -2000000000000000000 ≤ d ∧ d ≤ 2000000000000000000) (w : World) :
    Calls Tryz.prog 68 #[.int .i64 n, .int .i64 d] w (BV (rV (lowR n d)) w) := by
  obtain ⟨n1, n2⟩ := h1
  obtain ⟨d1, d2⟩ := h2
  obtain ⟨G1, G2⟩ := gcd_pos2 (n := n) hd
  by_cases hs : d < 0
  · have hl := lowR_neg' (n := n) hs
    have HL := Lib.hid hl
    clear hl
    go_enter Tryz.func68, Tryz.ntmps68
    go_wp2_with (first | (go_at_call 69; refine (impl_gcd _ _ _ (by omega) (by omega) (by omega) (by omega)).mono ?_; rintro e w' ⟨rfl, nd, rfl⟩))
    obtain ⟨G, hG⟩ : ∃ G : Nat, Int.gcd n d = G := ⟨_, rfl⟩
    rw [hG] at G1 G2 HL ⊢
    clear hG
    have q1 := tdiv_abs n (G : Int)
    have q2 := tdiv_abs d (G : Int)
    have g1 : IntKind.i64.wrap (-n.tdiv (G : Int)) = -n.tdiv (G : Int) := IntWalk.i64_in _ (by omega)
    have g2 : IntKind.i64.wrap (-d.tdiv (G : Int)) = -d.tdiv (G : Int) := IntWalk.i64_in _ (by omega)
    have g4 : ¬ G = 0 := by omega
    go_region_held3 (fun _ => True) (trivial) (fail)
    generalize -n.tdiv (G : Int) = a at *
    generalize -d.tdiv (G : Int) = b at *
    (rcases hr : ratOk a b with _ | _) <;> (have HR := Lib.hid hr; rw [hr] at HL; clear hr; go_wp2_with fail; refine (impl_IsRatio a b _).mono ?_; rw [HR.out]; rintro e w1 ⟨rfl, hb1⟩; have hsz1 := hb1.size; simp at hsz1; have hA1 : BQ w1 w.heap.size 0 0 := (by (with_reducible (repeat (first | assumption | refine Blk.new_at _ _ _ _ Ks | refine Blk.below ?_ (by assumption) Ks | apply Blk.drew | apply Blk.drewN | refine Blk.far ?_ (by simp only [ne_eq]; omega) _ | apply Blk.alloc)))); have hB1 : BQ w1 (w.heap.size + 1) a b := (by (with_reducible (repeat (first | assumption | refine Blk.new_at _ _ _ _ Ks | refine Blk.below ?_ (by assumption) Ks | apply Blk.drew | apply Blk.drewN | refine Blk.far ?_ (by simp only [ne_eq]; omega) _ | apply Blk.alloc)))); have hbw1 : Below w.heap.size w w1 := Kw; obtain ⟨aa, ab, af, al⟩ := hA1.cells; obtain ⟨ba, bb, bf, bl⟩ := hB1.cells; go_wp2_with fail; refine ret_Q Tryz.results68 rfl (BQ.put hA1) rfl ?_; exact BV.mk (rV_mk HL.out) Kw)
  · have hl := lowR_pos (n := n) (show 0 < d by omega)
    have HL := Lib.hid hl
    clear hl
    go_enter Tryz.func68, Tryz.ntmps68
    go_wp2_with (first | (go_at_call 69; refine (impl_gcd _ _ _ (by omega) (by omega) (by omega) (by omega)).mono ?_; rintro e w' ⟨rfl, nd, rfl⟩))
    obtain ⟨G, hG⟩ : ∃ G : Nat, Int.gcd n d = G := ⟨_, rfl⟩
    rw [hG] at G1 G2 HL ⊢
    clear hG
    have q1 := tdiv_abs n (G : Int)
    have q2 := tdiv_abs d (G : Int)
    have g1 : IntKind.i64.wrap (n.tdiv (G : Int)) = n.tdiv (G : Int) := IntWalk.i64_in _ (by omega)
    have g2 : IntKind.i64.wrap (d.tdiv (G : Int)) = d.tdiv (G : Int) := IntWalk.i64_in _ (by omega)
    have g4 : ¬ G = 0 := by omega
    go_region_held3 (fun _ => True) (trivial) (fail)
    generalize n.tdiv (G : Int) = a at *
    generalize d.tdiv (G : Int) = b at *
    (rcases hr : ratOk a b with _ | _) <;> (have HR := Lib.hid hr; rw [hr] at HL; clear hr; go_wp2_with fail; refine (impl_IsRatio a b _).mono ?_; rw [HR.out]; rintro e w1 ⟨rfl, hb1⟩; have hsz1 := hb1.size; simp at hsz1; have hA1 : BQ w1 w.heap.size 0 0 := (by (with_reducible (repeat (first | assumption | refine Blk.new_at _ _ _ _ Ks | refine Blk.below ?_ (by assumption) Ks | apply Blk.drew | apply Blk.drewN | refine Blk.far ?_ (by simp only [ne_eq]; omega) _ | apply Blk.alloc)))); have hB1 : BQ w1 (w.heap.size + 1) a b := (by (with_reducible (repeat (first | assumption | refine Blk.new_at _ _ _ _ Ks | refine Blk.below ?_ (by assumption) Ks | apply Blk.drew | apply Blk.drewN | refine Blk.far ?_ (by simp only [ne_eq]; omega) _ | apply Blk.alloc)))); have hbw1 : Below w.heap.size w w1 := Kw; obtain ⟨aa, ab, af, al⟩ := hA1.cells; obtain ⟨ba, bb, bf, bl⟩ := hB1.cells; go_wp2_with fail; refine ret_Q Tryz.results68 rfl (BQ.put hA1) rfl ?_; exact BV.mk (rV_mk HL.out) Kw)
end Go.Proofs.YtlggfmfelakadaaGreatDoor

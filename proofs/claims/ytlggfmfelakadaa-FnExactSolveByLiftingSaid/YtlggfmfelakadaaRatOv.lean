/-
  DERIVED. lowest, l2Make, and the sums, products of ratios.
-/
import Derived.Test.YtlggfmfelakadaaVS
import Derived.Test.YtlggfmfelakadaaV1
import Derived.Test.YtlggfmfelakadaaRat
import Derived.Test.YtlggfmfelakadaaRowOp
namespace Go.Proofs.Ytlggfmfelakadaa
open Go.RowKit
set_option linter.unusedVariables false
set_option linter.unusedSimpArgs false
def rV (q : Int × Int) : Value := .agg #[.int .i64 q.1, .int .i64 q.2]
abbrev BQ (w : World) (b : Nat) (n d : Int) : Prop := Blk w b 84 #[.int .i64 n, .int .i64 d]
theorem BQ.cells {w : World} {b : Nat} {n d : Int} (h : BQ w b n d) : w.cell? ⟨b, 0, none⟩ = some (.int .i64 n) ∧ w.cell? ⟨b, 1, none⟩ = some (.int .i64 d) ∧ (∀ o, w.frozen? ⟨b, o, none⟩ = false) ∧ b < w.heap.size :=
  ⟨Blk.cell h 0, Blk.cell h 1, Blk.frozen h, Blk.lt h⟩
theorem BQ.put {w : World} {b : Nat} {n d n' d' : Int} (h : BQ w b n d) : BQ ((w.setCell ⟨b, 0, none⟩ (.int .i64 n')).setCell ⟨b, 1, none⟩ (.int .i64 d')) b n' d' :=
  ((Blk.set_ h 0 (.int .i64 n')).set_ 1 (.int .i64 d')).as rfl
theorem ret_Q {fn : Func} {R : Ending → World → Prop} {a : Act} {w : World} {t : Tmp} {b : Nat} {n d : Int} (hr : fn.results = #[.cell t 84])
    (ht : a.tmps.getD t undef = .pointer (some ⟨b, 0, none⟩)) (h : BQ w b n d) (hd : a.defers = []) (hR : R (.returned (.agg #[.int .i64 n, .int .i64 d])) w) : bodyPost Try.prog fn R .ret a w :=
  bodyPost_ret (v := .agg #[.int .i64 n, .int .i64 d]) (by
    obtain ⟨r0, r1, rf, rl⟩ := h.cells
    have ht' := ht
    simp only [Array.getD_eq_getD_getElem?] at ht'
    simp [results, hr, ht', go_sem, r0, r1]) hd hR
theorem rV_mk {n d : Int} {q : Int × Int} (h : q = (n, d)) : Value.agg #[.int .i64 n, .int .i64 d] = rV q := by subst h; rfl
set_option maxHeartbeats 4000000 in
theorem impl_lowest (n d : Int) (hd : d ≠ 0) (h1 : -2000000000000000000 ≤ n ∧ n ≤ 2000000000000000000) (h2 : -2000000000000000000 ≤ d ∧ d ≤ 2000000000000000000) (w : World) :
    Calls Try.prog 117 #[.int .i64 n, .int .i64 d] w (BV (rV (lowR n d)) w) := by
  obtain ⟨n1, n2⟩ := h1
  obtain ⟨d1, d2⟩ := h2
  obtain ⟨G1, G2⟩ := gcd_pos2 (n := n) hd
  by_cases hs : d < 0
  · have hl := lowR_neg' (n := n) hs
    have HL := Lib.hid hl
    clear hl
    go_enter Try.func117, Try.ntmps117
    go_wp2_with (first | (go_at_call 121; refine (impl_gcd _ _ _ (by omega) (by omega) (by omega) (by omega)).mono ?_; rintro e w' ⟨rfl, nd, rfl⟩))
    obtain ⟨G, hG⟩ : ∃ G : Nat, Int.gcd n d = G := ⟨_, rfl⟩
    rw [hG] at G1 G2 HL ⊢
    clear hG
    have q1 := tdiv_abs n (G : Int)
    have q2 := tdiv_abs d (G : Int)
    have g1 : IntKind.i64.wrap (-n.tdiv (G : Int)) = -n.tdiv (G : Int) := IntWalk.i64_in _ (by omega)
    have g2 : IntKind.i64.wrap (-d.tdiv (G : Int)) = -d.tdiv (G : Int) := IntWalk.i64_in _ (by omega)
    have g4 : ¬ G = 0 := by omega
    go_region_held3 (fun _ => True) (trivial) (fail)
    generalize -n.tdiv (G : Int) = a at *
    generalize -d.tdiv (G : Int) = b at *
    (rcases hr : ratOk a b with _ | _) <;> (have HR := Lib.hid hr; rw [hr] at HL; clear hr; go_wp2_with fail; refine (impl_IsRatio a b _).mono ?_; rw [HR.out]; rintro e w1 ⟨rfl, hb1⟩; have hsz1 := hb1.size; simp at hsz1; have hA1 : BQ w1 w.heap.size 0 0 := (by (with_reducible (repeat (first | assumption | refine Blk.new_at _ _ _ _ Ks | refine Blk.below ?_ (by assumption) Ks | apply Blk.drew | apply Blk.drewN | refine Blk.far ?_ (by simp only [ne_eq]; omega) _ | apply Blk.alloc)))); have hB1 : BQ w1 (w.heap.size + 1) a b := (by (with_reducible (repeat (first | assumption | refine Blk.new_at _ _ _ _ Ks | refine Blk.below ?_ (by assumption) Ks | apply Blk.drew | apply Blk.drewN | refine Blk.far ?_ (by simp only [ne_eq]; omega) _ | apply Blk.alloc)))); have hbw1 : Below w.heap.size w w1 := Kw; obtain ⟨aa, ab, af, al⟩ := hA1.cells; obtain ⟨ba, bb, bf, bl⟩ := hB1.cells; go_wp2_with fail; refine ret_Q Try.results117 rfl (BQ.put hA1) rfl ?_; exact BV.mk (rV_mk HL.out) Kw)
  · have hl := lowR_pos (n := n) (show 0 < d by omega)
    have HL := Lib.hid hl
    clear hl
    go_enter Try.func117, Try.ntmps117
    go_wp2_with (first | (go_at_call 121; refine (impl_gcd _ _ _ (by omega) (by omega) (by omega) (by omega)).mono ?_; rintro e w' ⟨rfl, nd, rfl⟩))
    obtain ⟨G, hG⟩ : ∃ G : Nat, Int.gcd n d = G := ⟨_, rfl⟩
    rw [hG] at G1 G2 HL ⊢
    clear hG
    have q1 := tdiv_abs n (G : Int)
    have q2 := tdiv_abs d (G : Int)
    have g1 : IntKind.i64.wrap (n.tdiv (G : Int)) = n.tdiv (G : Int) := IntWalk.i64_in _ (by omega)
    have g2 : IntKind.i64.wrap (d.tdiv (G : Int)) = d.tdiv (G : Int) := IntWalk.i64_in _ (by omega)
    have g4 : ¬ G = 0 := by omega
    go_region_held3 (fun _ => True) (trivial) (fail)
    generalize n.tdiv (G : Int) = a at *
    generalize d.tdiv (G : Int) = b at *
    (rcases hr : ratOk a b with _ | _) <;> (have HR := Lib.hid hr; rw [hr] at HL; clear hr; go_wp2_with fail; refine (impl_IsRatio a b _).mono ?_; rw [HR.out]; rintro e w1 ⟨rfl, hb1⟩; have hsz1 := hb1.size; simp at hsz1; have hA1 : BQ w1 w.heap.size 0 0 := (by (with_reducible (repeat (first | assumption | refine Blk.new_at _ _ _ _ Ks | refine Blk.below ?_ (by assumption) Ks | apply Blk.drew | apply Blk.drewN | refine Blk.far ?_ (by simp only [ne_eq]; omega) _ | apply Blk.alloc)))); have hB1 : BQ w1 (w.heap.size + 1) a b := (by (with_reducible (repeat (first | assumption | refine Blk.new_at _ _ _ _ Ks | refine Blk.below ?_ (by assumption) Ks | apply Blk.drew | apply Blk.drewN | refine Blk.far ?_ (by simp only [ne_eq]; omega) _ | apply Blk.alloc)))); have hbw1 : Below w.heap.size w w1 := Kw; obtain ⟨aa, ab, af, al⟩ := hA1.cells; obtain ⟨ba, bb, bf, bl⟩ := hB1.cells; go_wp2_with fail; refine ret_Q Try.results117 rfl (BQ.put hA1) rfl ?_; exact BV.mk (rV_mk HL.out) Kw)
set_option maxHeartbeats 4000000 in
theorem spec_l2Make_pos (n d n0 d0 : Int) (hn0 : (0 < d0 ∧ n0 = n ∧ d0 = d) ∨ (d0 < 0 ∧ -n0 = n ∧ -d0 = d)) (h1 : -2000000000000000000 ≤ n ∧ n ≤ 2000000000000000000) (h2 : 0 < d ∧ d ≤ 2000000000000000000) (w : World) :
    Calls Try.prog 119 #[.int .i64 n0, .int .i64 d0] w (BV (rV (lowR n d)) w) := by
  obtain ⟨n1, n2⟩ := h1
  obtain ⟨d1, d2⟩ := h2
  obtain ⟨G1, G2⟩ := gcd_pos2 (n := n) (show d ≠ 0 by omega)
  have hl := lowR_pos (n := n) d1
  have HL := Lib.hid hl
  clear hl
  obtain ⟨G, hG⟩ : ∃ G : Nat, Int.gcd n d = G := ⟨_, rfl⟩
  rw [hG] at G1 G2 HL
  have HG := Lib.hid hG
  clear hG
  have q1 := tdiv_abs n (G : Int)
  have q2 := tdiv_abs d (G : Int)
  have g1 : IntKind.i64.wrap (n.tdiv (G : Int)) = n.tdiv (G : Int) := IntWalk.i64_in _ (by omega)
  have g2 : IntKind.i64.wrap (d.tdiv (G : Int)) = d.tdiv (G : Int) := IntWalk.i64_in _ (by omega)
  have g4 : ¬ G = 0 := by omega
  rcases hn0 with ⟨hd, hn3, hd3⟩ | ⟨hd, hn3, hd3⟩
  · subst hn3; subst hd3
    go_enter Try.func119, Try.ntmps119
    go_wp2_with fail
    go_loopw [5, 6] (fun u v wr => ∃ x y : Int, u = .int .i64 x ∧ v = .int .i64 y ∧ Int.gcd x y = Int.gcd n0 d0 ∧ (-2000000000000000000 ≤ x ∧ x ≤ 2000000000000000000 ∧ -2000000000000000000 ≤ y ∧ y ≤ 2000000000000000000) ∧ ∃ q, wr = (w.alloc (.cells #[.int .i64 0, .int .i64 0] 84)).drewN q) (fun _ v _ => (intOf v).natAbs)
    case atStart => exact ⟨n0, d0, rfl, rfl, rfl, ⟨by omega, by omega, by omega, by omega⟩, 0, rfl⟩
    case round =>
      obtain ⟨x, y, rfl, rfl, hg0, ⟨h1, h2, h3, h4⟩, q, rfl⟩ := hrel
      have hg := Lib.hid hg0
      clear hg0
      by_cases hy : y = 0
      · subst hy
        have hgx : ((x.natAbs : Nat) : Int) = (G : Int) := by
          have e1 := hg.out
          have e2 := HG.out
          rw [Int.gcd_zero_right] at e1
          omega
        have HGX := Lib.hid hgx
        clear hgx
        go_wp2_with (go_at_call 131; refine (spec_l1Abs _ _ (by omega) (by omega)).mono ?_; rw [HGX.out]; rintro e w' ⟨rfl, rfl⟩)
        go_region_held3 (fun _ => True) (trivial) (fail)
        generalize n0.tdiv (G : Int) = a at *
        generalize d0.tdiv (G : Int) = b at *
        (rcases hr : ratOk a b with _ | _) <;> (have HR := Lib.hid hr; rw [hr] at HL; clear hr; go_wp2_with fail; refine (spec_IsRatio a b _).mono ?_; rw [HR.out]; rintro e w1 ⟨rfl, hb1⟩; have hsz1 := hb1.size; simp at hsz1; have hA1 : BQ w1 w.heap.size 0 0 := (by (with_reducible (repeat (first | assumption | refine Blk.new_at _ _ _ _ Ks | refine Blk.below ?_ (by assumption) Ks | apply Blk.drew | apply Blk.drewN | refine Blk.far ?_ (by simp only [ne_eq]; omega) _ | apply Blk.alloc)))); have hB1 : BQ w1 (w.heap.size + 1) a b := (by (with_reducible (repeat (first | assumption | refine Blk.new_at _ _ _ _ Ks | refine Blk.below ?_ (by assumption) Ks | apply Blk.drew | apply Blk.drewN | refine Blk.far ?_ (by simp only [ne_eq]; omega) _ | apply Blk.alloc)))); have hbw1 : Below w.heap.size w w1 := Kw; obtain ⟨aa, ab, af, al⟩ := hA1.cells; obtain ⟨ba, bb, bf, bl⟩ := hB1.cells; go_wp2_with fail; refine ret_Q Try.results119 rfl (BQ.put hA1) rfl ?_; exact BV.mk (rV_mk (by first | exact HL.out | (rw [HN.out, HD.out]; exact HL.out))) Kw)
      · have hyb : (y != 0) = true := by simpa using hy
        have hlt := natAbs_tmod_lt x y hy
        have hgn : Int.gcd y (x.tmod y) = Int.gcd n0 d0 := by rw [gcd_tmod]; exact hg.out
        have HGN := Lib.hid hgn
        clear hgn
        go_wp2
        go_region
        all_goals go_wp2
        all_goals go_roundw
        all_goals first
          | exact ⟨y, x.tmod y, rfl, rfl, HGN.out, ⟨h3, h4, by omega, by omega⟩, q + 1, rfl⟩
          | (simp only [intOf]; omega)
  · subst hn3; subst hd3
    go_enter Try.func119, Try.ntmps119
    go_wp2_with fail
    obtain ⟨N, hN⟩ : ∃ N, -n0 = N := ⟨_, rfl⟩
    obtain ⟨D, hD⟩ : ∃ D, -d0 = D := ⟨_, rfl⟩
    rw [hN] at n1 n2 HL HG q1 g1 ⊢
    rw [hD] at d1 d2 HL HG G2 q2 g2 ⊢
    have HN := Lib.hid hN
    have HD := Lib.hid hD
    clear hN hD hd
    go_loopw [5, 6] (fun u v wr => ∃ x y : Int, u = .int .i64 x ∧ v = .int .i64 y ∧ Int.gcd x y = Int.gcd N D ∧ (-2000000000000000000 ≤ x ∧ x ≤ 2000000000000000000 ∧ -2000000000000000000 ≤ y ∧ y ≤ 2000000000000000000) ∧ ∃ q, wr = (w.alloc (.cells #[.int .i64 0, .int .i64 0] 84)).drewN q) (fun _ v _ => (intOf v).natAbs)
    case atStart => exact ⟨N, D, rfl, rfl, rfl, ⟨by omega, by omega, by omega, by omega⟩, 0, rfl⟩
    case round =>
      obtain ⟨x, y, rfl, rfl, hg0, ⟨h1, h2, h3, h4⟩, q, rfl⟩ := hrel
      have hg := Lib.hid hg0
      clear hg0
      by_cases hy : y = 0
      · subst hy
        have hgx : ((x.natAbs : Nat) : Int) = (G : Int) := by
          have e1 := hg.out
          have e2 := HG.out
          rw [Int.gcd_zero_right] at e1
          omega
        have HGX := Lib.hid hgx
        clear hgx
        go_wp2_with (go_at_call 131; refine (spec_l1Abs _ _ (by omega) (by omega)).mono ?_; rw [HGX.out]; rintro e w' ⟨rfl, rfl⟩)
        go_region_held3 (fun _ => True) (trivial) (fail)
        generalize N.tdiv (G : Int) = a at *
        generalize D.tdiv (G : Int) = b at *
        (rcases hr : ratOk a b with _ | _) <;> (have HR := Lib.hid hr; rw [hr] at HL; clear hr; go_wp2_with fail; refine (spec_IsRatio a b _).mono ?_; rw [HR.out]; rintro e w1 ⟨rfl, hb1⟩; have hsz1 := hb1.size; simp at hsz1; have hA1 : BQ w1 w.heap.size 0 0 := (by (with_reducible (repeat (first | assumption | refine Blk.new_at _ _ _ _ Ks | refine Blk.below ?_ (by assumption) Ks | apply Blk.drew | apply Blk.drewN | refine Blk.far ?_ (by simp only [ne_eq]; omega) _ | apply Blk.alloc)))); have hB1 : BQ w1 (w.heap.size + 1) a b := (by (with_reducible (repeat (first | assumption | refine Blk.new_at _ _ _ _ Ks | refine Blk.below ?_ (by assumption) Ks | apply Blk.drew | apply Blk.drewN | refine Blk.far ?_ (by simp only [ne_eq]; omega) _ | apply Blk.alloc)))); have hbw1 : Below w.heap.size w w1 := Kw; obtain ⟨aa, ab, af, al⟩ := hA1.cells; obtain ⟨ba, bb, bf, bl⟩ := hB1.cells; go_wp2_with fail; refine ret_Q Try.results119 rfl (BQ.put hA1) rfl ?_; exact BV.mk (rV_mk (by first | exact HL.out | (rw [HN.out, HD.out]; exact HL.out))) Kw)
      · have hyb : (y != 0) = true := by simpa using hy
        have hlt := natAbs_tmod_lt x y hy
        have hgn : Int.gcd y (x.tmod y) = Int.gcd N D := by rw [gcd_tmod]; exact hg.out
        have HGN := Lib.hid hgn
        clear hgn
        go_wp2
        go_region
        all_goals go_wp2
        all_goals go_roundw
        all_goals first
          | exact ⟨y, x.tmod y, rfl, rfl, HGN.out, ⟨h3, h4, by omega, by omega⟩, q + 1, rfl⟩
          | (simp only [intOf]; omega)
theorem spec_l2Make (n d : Int) (hd : d ≠ 0) (h1 : -2000000000000000000 ≤ n ∧ n ≤ 2000000000000000000) (h2 : -2000000000000000000 ≤ d ∧ d ≤ 2000000000000000000) (w : World) :
    Calls Try.prog 119 #[.int .i64 n, .int .i64 d] w (BV (rV (lowR n d)) w) := by
  by_cases hs : d < 0
  · rw [lowR_flip hs]
    exact spec_l2Make_pos (-n) (-d) n d (.inr ⟨hs, rfl, rfl⟩) (by omega) (by omega) w
  · exact spec_l2Make_pos n d n d (.inl ⟨by omega, rfl, rfl⟩) h1 (by omega) w
end Go.Proofs.Ytlggfmfelakadaa

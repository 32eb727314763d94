/-
  DERIVED. MultiplyMatrices of the program.
-/
import Derived.Test.YtlggfmfelakadaaMatOpsx
namespace Go.Proofs.Ytlggfmfelakadaa
open Go.RowKit
set_option linter.unusedVariables false
set_option linter.unusedSimpArgs false
theorem mul_cases (r c : Int) (xs : List Int) (r2 c2 : Int) (ys : List Int) : (mulB r c xs r2 c2 ys = false ∧ isMat r c xs = false) ∨ (mulB r c xs r2 c2 ys = false ∧ isMat r c xs = true ∧ isMat r2 c2 ys = false) ∨
    (mulB r c xs r2 c2 ys = false ∧ isMat r c xs = true ∧ isMat r2 c2 ys = true ∧ c ≠ r2) ∨ (mulB r c xs r2 c2 ys = isMat r c2 (mulL xs r.toNat c.toNat ys c2.toNat) ∧ isMat r c xs = true ∧ isMat r2 c2 ys = true ∧ c = r2) := by
  unfold mulB
  cases h1 : isMat r c xs <;> cases h2 : isMat r2 c2 ys <;> by_cases h3 : c = r2 <;> simp_all
theorem mulM_no {r c : Int} {xs : List Int} {r2 c2 : Int} {ys : List Int} (h : mulB r c xs r2 c2 ys = false) : mulM r c xs r2 c2 ys = .none := by unfold mulM; rw [h]; rfl
theorem mulM_yes {r c : Int} {xs : List Int} {r2 c2 : Int} {ys : List Int} (h : mulB r c xs r2 c2 ys = true) : mulM r c xs r2 c2 ys = ⟨r, c2, mulL xs r.toNat c.toNat ys c2.toNat⟩ := by unfold mulM; rw [h]; rfl
/-- The sum of the first k products. -/
def psum (xs : List Int) (c : Nat) (ys : List Int) (c2 i j k : Nat) : Int := sumTo (fun q => cel xs c i q * cel ys c2 q j) k
theorem psum_bd {r c : Nat} {xs : List Int} {r2 c2 : Nat} {ys : List Int} (M : IsM r c xs) (M2 : IsM r2 c2 ys) (i j k : Nat) (hk : k ≤ 24) :
    -3840000000000000000 ≤ psum xs c ys c2 i j k ∧ psum xs c ys c2 i j k ≤ 3840000000000000000 := by
  have h := sumTo_bd (b := 160000000000000000) (f := fun q => cel xs c i q * cel ys c2 q j) (by omega) k (fun q _ => by
    obtain ⟨a1, a2⟩ := M.cel_bd i q
    obtain ⟨b1, b2⟩ := M2.cel_bd q j
    have := mul_bd4 _ _ 400000000 400000000 a1 a2 b1 b2
    omega)
  unfold psum
  omega
theorem fillTo_set' {xs : List Int} {n k : Nat} {v : Int} (hx : xs.length = n) (hk : k < n) (hv : xs.getD k 0 = v) : (fillTo xs n k).set k v = fillTo xs n (k + 1) := by
  subst hv; exact fillTo_set hx hk
set_option maxRecDepth 100000 in
set_option maxHeartbeats 8000000 in
theorem impl_MultiplyMatrices (r c r2 c2 : Int) (A A' : Option Addr) (n cap n' cap' : Nat) (xs ys : List Int) (w : World) {B B' : Nat} (h : RI w B A n xs) (h' : RI w B' A' n' ys) (hB : B ≤ w.heap.size) (hB' : B' ≤ w.heap.size) (hn : n ≤ 1048576) (hn' : n' ≤ 1048576) :
    Calls Try.prog 13 #[.agg #[.int .i64 r, .int .i64 c, .slice A n cap], .agg #[.int .i64 r2, .int .i64 c2, .slice A' n' cap']] w (MBR (mulM r c xs r2 c2 ys) (mulB r c xs r2 c2 ys) w) := by
  have hlen := h.len
  have hlen' := h'.len
  have H2 := Lib.hid (h.more hB)
  have H3 := Lib.hid (h'.more hB')
  clear h h' hB hB'
  rcases mul_cases r c xs r2 c2 ys with ⟨hb0, hm⟩ | ⟨hb0, hm, hm2⟩ | ⟨hb0, hm, hm2, hne⟩ | ⟨hb0, hm, hm2, hne⟩
  · rw [mulM_no hb0, hb0]
    have HM := Lib.hid hm
    clear hb0 hm
    go_enter Try.func13, Try.ntmps13
    go_wp2_with fail
    (refine (impl_IsMatrix r c A n cap xs _ (C := w.heap.size) (Kr H2.out) Ks hn).mono ?_; rw [HM.out]; rintro e w1 ⟨rfl, hb⟩; have hsz := hb.size; simp at hsz; have hA : BM w1 w.heap.size r c A n cap := Ka; have hB : BM w1 (w.heap.size + 1) r2 c2 A' n' cap' := Ka; have hR : BM w1 (w.heap.size + 1 + 1) 0 0 none 0 0 := Ka; have hbw : Below w.heap.size w w1 := Kw; obtain ⟨aa, ab, ac, af, al⟩ := hA.mx; obtain ⟨ba, bb, bc, bf, bl⟩ := hB.mx; obtain ⟨ra, rb, rc, rf, rl⟩ := hR.mx)
    go_wp2_with fail
    refine ret_MB (r := 0) (c := 0) (A := none) (n := 0) (cap := 0) Try.results13 rfl (Kb hR) rfl ?_
    exact MBR.mk rfl (OR.nil_ _ _) Kw
  · rw [mulM_no hb0, hb0]
    have HM := Lib.hid hm
    have HM2 := Lib.hid hm2
    clear hb0 hm hm2
    go_enter Try.func13, Try.ntmps13
    go_wp2_with fail
    (refine (impl_IsMatrix r c A n cap xs _ (C := w.heap.size) (Kr H2.out) Ks hn).mono ?_; rw [HM.out]; rintro e w1 ⟨rfl, hb⟩; have hsz := hb.size; simp at hsz; have hA : BM w1 w.heap.size r c A n cap := Ka; have hB : BM w1 (w.heap.size + 1) r2 c2 A' n' cap' := Ka; have hR : BM w1 (w.heap.size + 1 + 1) 0 0 none 0 0 := Ka; have hbw : Below w.heap.size w w1 := Kw; obtain ⟨aa, ab, ac, af, al⟩ := hA.mx; obtain ⟨ba, bb, bc, bf, bl⟩ := hB.mx; obtain ⟨ra, rb, rc, rf, rl⟩ := hR.mx)
    go_wp2_with fail
    (refine (impl_IsMatrix r2 c2 A' n' cap' ys _ (C := w.heap.size) (Kr H3.out) Ks hn').mono ?_; rw [HM2.out]; rintro e w2 ⟨rfl, hb2⟩; have hsz2 := hb2.size; have hA2 : BM w2 w.heap.size r c A n cap := (Kb hA); have hB2 : BM w2 (w.heap.size + 1) r2 c2 A' n' cap' := (Kb hB); have hR2 : BM w2 (w.heap.size + 1 + 1) 0 0 none 0 0 := (Kb hR); have hbw2 : Below w.heap.size w w2 := Kw; clear hA hB hR hbw aa ab ac af al ba bb bc bf bl ra rb rc rf rl; obtain ⟨aa, ab, ac, af, al⟩ := hA2.mx; obtain ⟨ba, bb, bc, bf, bl⟩ := hB2.mx; obtain ⟨ra, rb, rc, rf, rl⟩ := hR2.mx)
    go_wp2_with fail
    refine ret_MB (r := 0) (c := 0) (A := none) (n := 0) (cap := 0) Try.results13 rfl (Kb hR2) rfl ?_
    exact MBR.mk rfl (OR.nil_ _ _) Kw
  · rw [mulM_no hb0, hb0]
    have HM := Lib.hid hm
    have HM2 := Lib.hid hm2
    have hnb : (c != r2) = true := by simpa using hne
    clear hb0 hm hm2 hne
    go_enter Try.func13, Try.ntmps13
    go_wp2_with fail
    (refine (impl_IsMatrix r c A n cap xs _ (C := w.heap.size) (Kr H2.out) Ks hn).mono ?_; rw [HM.out]; rintro e w1 ⟨rfl, hb⟩; have hsz := hb.size; simp at hsz; have hA : BM w1 w.heap.size r c A n cap := Ka; have hB : BM w1 (w.heap.size + 1) r2 c2 A' n' cap' := Ka; have hR : BM w1 (w.heap.size + 1 + 1) 0 0 none 0 0 := Ka; have hbw : Below w.heap.size w w1 := Kw; obtain ⟨aa, ab, ac, af, al⟩ := hA.mx; obtain ⟨ba, bb, bc, bf, bl⟩ := hB.mx; obtain ⟨ra, rb, rc, rf, rl⟩ := hR.mx)
    go_wp2_with fail
    (refine (impl_IsMatrix r2 c2 A' n' cap' ys _ (C := w.heap.size) (Kr H3.out) Ks hn').mono ?_; rw [HM2.out]; rintro e w2 ⟨rfl, hb2⟩; have hsz2 := hb2.size; have hA2 : BM w2 w.heap.size r c A n cap := (Kb hA); have hB2 : BM w2 (w.heap.size + 1) r2 c2 A' n' cap' := (Kb hB); have hR2 : BM w2 (w.heap.size + 1 + 1) 0 0 none 0 0 := (Kb hR); have hbw2 : Below w.heap.size w w2 := Kw; clear hA hB hR hbw aa ab ac af al ba bb bc bf bl ra rb rc rf rl; obtain ⟨aa, ab, ac, af, al⟩ := hA2.mx; obtain ⟨ba, bb, bc, bf, bl⟩ := hB2.mx; obtain ⟨ra, rb, rc, rf, rl⟩ := hR2.mx)
    go_wp2_with fail
    refine ret_MB (r := 0) (c := 0) (A := none) (n := 0) (cap := 0) Try.results13 rfl (Kb hR2) rfl ?_
    exact MBR.mk rfl (OR.nil_ _ _) Kw
  · subst hne
    have M := isMat_iff.1 hm
    have M2 := isMat_iff.1 hm2
    have HM := Lib.hid hm
    have HM2 := Lib.hid hm2
    have HB0 := Lib.hid hb0
    have HMM := Lib.hid M
    have HMM2 := Lib.hid M2
    obtain ⟨R, rfl⟩ := nat_of M.r0
    obtain ⟨C, rfl⟩ := nat_of M.c0
    obtain ⟨C2, rfl⟩ := nat_of M2.c0
    have hR' := M.r1
    have hC := M.c1
    have hC2 := M2.c1
    have hl1 : (n : Int) ≤ (R : Int) * (C : Int) ∧ (R : Int) * (C : Int) ≤ n := by have := M.len; omega
    have hl2 : (n' : Int) ≤ (C : Int) * (C2 : Int) ∧ (C : Int) * (C2 : Int) ≤ n' := by have := M2.len; omega
    have hRC : R * C2 ≤ 24 * 24 := Nat.mul_le_mul (by omega) (by omega)
    clear hm hm2 hb0 M M2 hlen hlen'
    go_enter Try.func13, Try.ntmps13
    go_wp2_with fail
    (refine (impl_IsMatrix R C A n cap xs _ (C := w.heap.size) (Kr H2.out) Ks hn).mono ?_; rw [HM.out]; rintro e w1 ⟨rfl, hb⟩; have hsz := hb.size; simp at hsz; have hA : BM w1 w.heap.size R C A n cap := Ka; have hB : BM w1 (w.heap.size + 1) C C2 A' n' cap' := Ka; have hR : BM w1 (w.heap.size + 1 + 1) 0 0 none 0 0 := Ka; have hbw : Below w.heap.size w w1 := Kw; obtain ⟨aa, ab, ac, af, al⟩ := hA.mx; obtain ⟨ba, bb, bc, bf, bl⟩ := hB.mx; obtain ⟨ra, rb, rc, rf, rl⟩ := hR.mx)
    go_wp2_with fail
    (refine (impl_IsMatrix C C2 A' n' cap' ys _ (C := w.heap.size) (Kr H3.out) Ks hn').mono ?_; rw [HM2.out]; rintro e w2 ⟨rfl, hb2⟩; have hsz2 := hb2.size; have hA2 : BM w2 w.heap.size R C A n cap := (Kb hA); have hB2 : BM w2 (w.heap.size + 1) C C2 A' n' cap' := (Kb hB); have hR2 : BM w2 (w.heap.size + 1 + 1) 0 0 none 0 0 := (Kb hR); have hbw2 : Below w.heap.size w w2 := Kw; clear hA hB hR hbw aa ab ac af al ba bb bc bf bl ra rb rc rf rl; obtain ⟨aa, ab, ac, af, al⟩ := hA2.mx; obtain ⟨ba, bb, bc, bf, bl⟩ := hB2.mx; obtain ⟨ra, rb, rc, rf, rl⟩ := hR2.mx)
    go_wp2_with fail
    refine (impl_newMatrix R C2 _ (by omega) (by omega) (by omega)).mono ?_
    rintro e w3 ⟨Ao, no, co, rfl, hown, hb3⟩
    have hsz3 := hb3.size
    have hno := hown.lenEq
    have hU : Own (.slice Ao no co) (w.heap.size + 1 + 1 + 1) w3.heap.size := hown.own.wide (by omega) (Nat.le_refl _)
    have hno1 : no ≤ R * C2 ∧ R * C2 ≤ no := by simp at hno; omega
    have hno2 : (no : Int) ≤ (R : Int) * (C2 : Int) ∧ (R : Int) * (C2 : Int) ≤ no := by rw [← Int.natCast_mul]; omega
    have hA3 : BM (w3.alloc (.cells #[.int .i64 R, .int .i64 C2, .slice Ao no co] 26)) w.heap.size R C A n cap := Kb hA2
    have hB3 : BM (w3.alloc (.cells #[.int .i64 R, .int .i64 C2, .slice Ao no co] 26)) (w.heap.size + 1) C C2 A' n' cap' := Kb hB2
    have hR3 : BM (w3.alloc (.cells #[.int .i64 R, .int .i64 C2, .slice Ao no co] 26)) (w.heap.size + 1 + 1) 0 0 none 0 0 := Kb hR2
    have hO3 : BM (w3.alloc (.cells #[.int .i64 R, .int .i64 C2, .slice Ao no co] 26)) w3.heap.size R C2 Ao no co := Ka
    have hown3 : OR (w3.alloc (.cells #[.int .i64 R, .int .i64 C2, .slice Ao no co] 26)) (w.heap.size + 1 + 1 + 1) (.slice Ao no co) (fillTo (mulL xs R C ys C2) (R * C2) 0) := by
      rw [fillTo_zero]; exact (hown.mono (by omega)).alloc _
    have hbw3 : Below w.heap.size w (w3.alloc (.cells #[.int .i64 R, .int .i64 C2, .slice Ao no co] 26)) := Kw
    have hq3 : w.heap.size + 1 + 1 + 1 ≤ w3.heap.size := by omega
    clear hA2 hB2 hR2 hbw2 aa ab ac af al ba bb bc bf bl ra rb rc rf rl hown hno hb hb2 hb3
    go_wp2_with fail
    generalize hbO : w3.heap.size = bO at *
    have HBO := Lib.hid hbO
    clear hbO
    go_loopw [7] (fun v wr => ∃ i : Nat, v = .int .i64 i ∧ i ≤ R ∧ BM wr w.heap.size R C A n cap ∧ BM wr (w.heap.size + 1) C C2 A' n' cap' ∧ BM wr (w.heap.size + 1 + 1) 0 0 none 0 0 ∧ BM wr bO R C2 Ao no co ∧ OR wr (w.heap.size + 1 + 1 + 1) (.slice Ao no co) (fillTo (mulL xs R C ys C2) (R * C2) (i*C2)) ∧ Below w.heap.size w wr) (fun v _ => R - (intOf v).toNat)
    case atStart => exact ⟨0, rfl, Nat.zero_le _, hA3, hB3, hR3, hO3, by rw [Nat.zero_mul]; exact hown3, hbw3⟩
    case round =>
      clear hA3 hB3 hR3 hO3 hown3 hbw3
      obtain ⟨i, rfl, hi, hA, hB, hR, hO, hown, hbw⟩ := hrel
      obtain ⟨aa, ab, ac, af, al⟩ := hA.mx; obtain ⟨ba, bb, bc, bf, bl⟩ := hB.mx; obtain ⟨oa, ob, oc, of, ol⟩ := hO.mx
      by_cases hiR : i < R
      · go_wp2_with fail
        obtain ⟨wo, rfl⟩ : ∃ wo : World, wo = wr := ⟨_, rfl⟩
        go_loopw [8, 9, 10] (fun v _ _ wr => ∃ j : Nat, v = .int .i64 j ∧ j ≤ C2 ∧ BM wr w.heap.size R C A n cap ∧ BM wr (w.heap.size + 1) C C2 A' n' cap' ∧ BM wr (w.heap.size + 1 + 1) 0 0 none 0 0 ∧ BM wr bO R C2 Ao no co ∧ OR wr (w.heap.size + 1 + 1 + 1) (.slice Ao no co) (fillTo (mulL xs R C ys C2) (R * C2) (i*C2+j)) ∧ Below w.heap.size w wr) (fun v _ _ _ => C2 - (intOf v).toNat)
        case atStart => exact ⟨0, rfl, Nat.zero_le _, hA, hB, hR, hO, hown, hbw⟩
        case round =>
          clear hA hB hR hO hown hbw
          clear aa ab ac af al ba bb bc bf bl oa ob oc of ol
          obtain ⟨j, rfl, hj, hA, hB, hR, hO, hown, hbw⟩ := hrel
          obtain ⟨aa, ab, ac, af, al⟩ := hA.mx; obtain ⟨ba, bb, bc, bf, bl⟩ := hB.mx; obtain ⟨oa, ob, oc, of, ol⟩ := hO.mx
          by_cases hjC : j < C2
          · go_wp2_with fail
            obtain ⟨wo2, rfl⟩ : ∃ wo : World, wo = wr := ⟨_, rfl⟩
            go_loopw [9, 10] (fun u v wr => ∃ k : Nat, v = .int .i64 k ∧ u = .int .i64 (psum xs C ys C2 i j k) ∧ k ≤ C ∧ BM wr w.heap.size R C A n cap ∧ BM wr (w.heap.size + 1) C C2 A' n' cap' ∧ BM wr (w.heap.size + 1 + 1) 0 0 none 0 0 ∧ BM wr bO R C2 Ao no co ∧ OR wr (w.heap.size + 1 + 1 + 1) (.slice Ao no co) (fillTo (mulL xs R C ys C2) (R * C2) (i*C2+j)) ∧ Below w.heap.size w wr) (fun _ v _ => C - (intOf v).toNat)
            case atStart => exact ⟨0, rfl, rfl, Nat.zero_le _, hA, hB, hR, hO, hown, hbw⟩
            case round =>
              clear hA hB hR hO hown hbw
              clear aa ab ac af al ba bb bc bf bl oa ob oc of ol
              obtain ⟨k, rfl, rfl, hk, hA, hB, hR, hO, hown, hbw⟩ := hrel
              obtain ⟨aa, ab, ac, af, al⟩ := hA.mx; obtain ⟨ba, bb, bc, bf, bl⟩ := hB.mx; obtain ⟨oa, ob, oc, of, ol⟩ := hO.mx
              generalize hq : i * C2 + j = q at *
              have HQ := Lib.hid hq
              clear hq
              by_cases hkC : k < C
              · obtain ⟨p1, p2⟩ := psum_bd HMM.out HMM2.out i j k (by omega)
                obtain ⟨p3, p4⟩ := psum_bd HMM.out HMM2.out i j (k + 1) (by omega)
                have hps : psum xs C ys C2 i j (k + 1) = psum xs C ys C2 i j k + cel xs C i k * cel ys C2 k j := rfl
                rw [hps] at p3 p4
                have HPS := Lib.hid hps
                clear hps
                obtain ⟨x1, x2, x3, x4⟩ := idx_bd (r := R) (c := C) (i := i) (j := k) hR' hC (by omega) (by omega) (by omega) (by omega)
                obtain ⟨x5, x6, x7, x8⟩ := idx_bd (r := C) (c := C2) (i := k) (j := j) hC hC2 (by omega) (by omega) (by omega) (by omega)
                obtain ⟨y1, y2⟩ := HMM.out.cel_bd i k
                obtain ⟨y3, y4⟩ := HMM2.out.cel_bd k j
                obtain ⟨z1, z2⟩ := mul_bd4 _ _ 400000000 400000000 y1 y2 y3 y4
                have g1 : IntKind.i64.wrap (cel xs C i k * cel ys C2 k j) = cel xs C i k * cel ys C2 k j := IntWalk.i64_in _ (by omega)
                have g2 : IntKind.i64.wrap (psum xs C ys C2 i j k + cel xs C i k * cel ys C2 k j) = psum xs C ys C2 i j k + cel xs C i k * cel ys C2 k j := IntWalk.i64_in _ (by omega)
                go_wp2_with fail
                ((refine wp_region_held_drew (S := (fun w' => w'.cell? ⟨w.heap.size, 0, none⟩ = some (.int .i64 R) ∧ w'.cell? ⟨w.heap.size, 1, none⟩ = some (.int .i64 C) ∧ w'.cell? ⟨w.heap.size, 2, none⟩ = some (.slice A n cap) ∧ w'.cell? ⟨w.heap.size + 1, 0, none⟩ = some (.int .i64 C) ∧ w'.cell? ⟨w.heap.size + 1, 1, none⟩ = some (.int .i64 C2) ∧ w'.cell? ⟨w.heap.size + 1, 2, none⟩ = some (.slice A' n' cap'))) (by kernel_rfl) ?_ (fun hHeld => ?_)); ((focus ((try dsimp only); (go_keep)))); ((refine tk_ (i := 0) (v := ?_) (y := Or.inl ⟨by rfl, ?_⟩) (h := ?_); rotate_left; (focus (((intro w hSw; (try dsimp only at hSw); go_simp) <;> (try with_reducible rfl)); done)); (try simp only [Act.put, p1_, p2_, p3_]))); ((refine tk_ (i := 1) (v := ?_) (y := Or.inl ⟨by rfl, ?_⟩) (h := ?_); rotate_left; (focus (((intro w hSw; (try dsimp only at hSw); go_simp) <;> (try with_reducible rfl)); done)); (try simp only [Act.put, p1_, p2_, p3_]))); ((refine tk_ (i := 2) (v := ?_) (y := Or.inl ⟨by rfl, ?_⟩) (h := ?_); rotate_left; (focus (((intro w hSw; (try dsimp only at hSw); go_simp) <;> (try with_reducible rfl)); done)); (try simp only [Act.put, p1_, p2_, p3_]))); ((refine tk_ (i := 3) (v := ?_) (y := Or.inl ⟨by rfl, ?_⟩) (h := ?_); rotate_left; (focus (((intro w hSw; (try dsimp only at hSw); go_simp) <;> (try with_reducible rfl)); done)); (try simp only [Act.put, p1_, p2_, p3_]))); ((refine tk_ (i := 5) (v := ?_) (y := Or.inl ⟨by rfl, ?_⟩) (h := ?_); rotate_left; (focus (((intro w hSw; (try dsimp only at hSw); go_simp) <;> (try with_reducible rfl)); done)); (try simp only [Act.put, p1_, p2_, p3_]))); ((refine tk_ (i := 6) (v := ?_) (y := Or.inl ⟨by rfl, ?_⟩) (h := ?_); rotate_left; (focus (((intro w hSw; (try dsimp only at hSw); go_simp) <;> (try with_reducible rfl)); done)); (try simp only [Act.put, p1_, p2_, p3_]))); ((refine tk_ (i := 7) (v := ?_) (y := Or.inl ⟨by rfl, ?_⟩) (h := ?_); rotate_left; (focus (((intro w hSw; (try dsimp only at hSw); go_simp) <;> (try with_reducible rfl)); done)); (try simp only [Act.put, p1_, p2_, p3_]))); ((refine wpAnyH_ready (rs := [4]) (by kernel_rfl) (by simp) ?_; refine AllReadyH.cons (by simp only [e1_, e2_, e3_]; try rfl) (fun K hK => ?_) AllReadyH.nil; go_simp; (refine (impl_at _ _ _ _ _ _ _ xs _ (C := w.heap.size) (Kr H2.out) Ks ⟨by omega, by omega⟩ ⟨by omega, by omega⟩ (by omega)).mono ?_; rintro e w1 ⟨rfl, hb⟩; have hsz := hb.size; (try simp at hsz); have hA1 : BM w1 w.heap.size R C A n cap := (Kb hA); have hB1 : BM w1 (w.heap.size + 1) C C2 A' n' cap' := (Kb hB); have hR1 : BM w1 (w.heap.size + 1 + 1) 0 0 none 0 0 := (Kb hR); have hO1 : BM w1 bO R C2 Ao no co := (Kb hO); have hown1 : OR w1 (w.heap.size + 1 + 1 + 1) (.slice Ao no co) (fillTo (mulL xs R C ys C2) (R * C2) q) := (Ko hown); have hbw1 : Below w.heap.size w w1 := Kw; clear hA hB hR hO hown hbw; have hA := hA1; have hB := hB1; have hR := hR1; have hO := hO1; have hown := hown1; have hbw := hbw1; clear hA1 hB1 hR1 hO1 hown1 hbw1; obtain ⟨aa, ab, ac, af, al⟩ := hA.mx; obtain ⟨ba, bb, bc, bf, bl⟩ := hB.mx; obtain ⟨oa, ob, oc, of, ol⟩ := hO.mx); (try go_wp2_with fail); refine hK.out _ _ ?_ (fun hHeld => ?_); (focus ((try dsimp only); (go_keep))); clear hK K; (try simp only [Act.put, p1_, p2_, p3_]))); ((refine wpAnyH_ready (rs := [8]) (by kernel_rfl) (by simp) ?_; refine AllReadyH.cons (by simp only [e1_, e2_, e3_]; try rfl) (fun K hK => ?_) AllReadyH.nil; go_simp; (refine (impl_at _ _ _ _ _ _ _ ys _ (C := w.heap.size) (Kr H3.out) Ks ⟨by omega, by omega⟩ ⟨by omega, by omega⟩ (by omega)).mono ?_; rintro e w1 ⟨rfl, hb⟩; have hsz := hb.size; (try simp at hsz); have hA1 : BM w1 w.heap.size R C A n cap := (Kb hA); have hB1 : BM w1 (w.heap.size + 1) C C2 A' n' cap' := (Kb hB); have hR1 : BM w1 (w.heap.size + 1 + 1) 0 0 none 0 0 := (Kb hR); have hO1 : BM w1 bO R C2 Ao no co := (Kb hO); have hown1 : OR w1 (w.heap.size + 1 + 1 + 1) (.slice Ao no co) (fillTo (mulL xs R C ys C2) (R * C2) q) := (Ko hown); have hbw1 : Below w.heap.size w w1 := Kw; clear hA hB hR hO hown hbw; have hA := hA1; have hB := hB1; have hR := hR1; have hO := hO1; have hown := hown1; have hbw := hbw1; clear hA1 hB1 hR1 hO1 hown1 hbw1; obtain ⟨aa, ab, ac, af, al⟩ := hA.mx; obtain ⟨ba, bb, bc, bf, bl⟩ := hB.mx; obtain ⟨oa, ob, oc, of, ol⟩ := hO.mx); (try go_wp2_with fail); refine hK.out _ _ ?_ (fun hHeld => ?_); (focus ((try dsimp only); (go_keep))); clear hK K; (try simp only [Act.put, p1_, p2_, p3_]))); ((refine tk_ (i := 9) (v := ?_) (y := Or.inl ⟨by rfl, ?_⟩) (h := ?_); rotate_left; (focus (((intro w hSw; (try dsimp only at hSw); go_simp) <;> (try with_reducible rfl)); done)); (try simp only [Act.put, p1_, p2_, p3_]))); ((refine tk_ (i := 10) (v := ?_) (y := Or.inl ⟨by rfl, ?_⟩) (h := ?_); rotate_left; (focus (((intro w hSw; (try dsimp only at hSw); go_simp) <;> (try with_reducible rfl)); done)); (try simp only [Act.put, p1_, p2_, p3_]))); ((refine tk_ (i := 11) (v := ?_) (y := Or.inl ⟨by rfl, ?_⟩) (h := ?_); rotate_left; (focus (((intro w hSw; (try dsimp only at hSw); go_simp) <;> (try with_reducible rfl)); done)); (try simp only [Act.put, p1_, p2_, p3_]))); (refine wpAnyH_done (by kernel_rfl) ?_ _))
                go_wp2_with fail
                go_roundw
                case rel => exact ⟨k + 1, by go_num, by rw [HPS.out], by omega, Kb hA, Kb hB, Kb hR, Kb hO, Ko hown, Kw⟩
                case measure => simp only [intOf]; omega
              · obtain rfl : k = C := by omega
                obtain ⟨x1, x2, x3, x4⟩ := idx_bd (r := R) (c := C2) (i := i) (j := j) hR' hC2 (by omega) (by omega) (by omega) (by omega)
                have hqR : q < R * C2 := by rw [← HQ.out]; exact idx_nat hiR hjC
                have e9 : ((i : Int) * (C2 : Int) + (j : Int)).toNat = q := by rw [← HQ.out, ← Int.natCast_mul, ← Int.natCast_add, Int.toNat_natCast]
                have e8 : (mulL xs R k ys C2).getD q 0 = psum xs k ys C2 i j k := by rw [← HQ.out]; exact mulL_at hiR hjC
                have E9 := Lib.hid e9
                have E8 := Lib.hid e8
                clear e9 e8
                go_wp2_with fail
                refine (impl_set R C2 i j _ Ao no co _ _ (B := w.heap.size + 1 + 1 + 1) (Ko hown) ⟨by omega, by omega⟩ ⟨by omega, by omega⟩ (by omega)).mono ?_
                rintro e w4 ⟨rfl, hst, hgr, hsz4⟩
                rw [E9.out, fillTo_set' (mulL_len _ _ _ _ _) hqR E8.out] at hst
                have hA4 := hA.keptOwn hgr hU (by omega)
                have hB4 := hB.keptOwn hgr hU (by omega)
                have hR4 := hR.keptOwn hgr hU (by omega)
                have hO4 := hO.keptOwn hgr hU (by omega)
                have hbw4 : Below w.heap.size w w4 := hbw.trans (below_keptOwn hgr hU (by omega) (by omega))
                clear hA hB hR hO hown hbw hgr
                clear aa ab ac af al ba bb bc bf bl oa ob oc of ol
                have HS := Lib.hid hst
                clear hst
                go_wp2_with fail
                go_roundw
                case rel => exact ⟨j + 1, by go_num, by omega, Kb hA4, Kb hB4, Kb hR4, Kb hO4, by rw [← Nat.add_assoc, HQ.out]; (with_reducible (repeat (first | exact HS.out | refine OR.drew ?_ | refine OR.drewN ?_ _ | refine OR.alloc ?_ _ | refine OR.b_ ?_ | refine OR.l_ ?_))), Kw⟩
                case measure => simp only [intOf]; omega
          · obtain rfl : j = C2 := by omega
            have E7 : Hid ((i + 1) * j = i * j + j) := Lib.hid (by rw [Nat.add_mul, Nat.one_mul])
            go_wp2_with fail
            go_roundw
            case rel => exact ⟨i + 1, by go_num, by omega, Kb hA, Kb hB, Kb hR, Kb hO, by rw [E7.out]; (with_reducible (repeat (first | exact hown | refine OR.drew ?_ | refine OR.drewN ?_ _ | refine OR.alloc ?_ _ | refine OR.b_ ?_ | refine OR.l_ ?_))), Kw⟩
            case measure => simp only [intOf]; omega
      · obtain rfl : i = R := by omega
        have hfin := hown.as (fillTo_all (mulL_len xs i C ys C2))
        have hni : no ≤ 1048576 := by omega
        clear hown
        go_wp2_with fail
        rcases hres : isMat i C2 (mulL xs i C ys C2) with _ | _
        all_goals
          have HRES := Lib.hid hres
          refine (impl_checked i C2 Ao no co _ _ (OR.reads (B := w.heap.size + 1 + 1 + 1) (Ko hfin)) (Nat.le_refl _) hni).mono ?_
          rw [HRES.out]
          first | rw [chkV_t] | rw [chkV_f]
          rintro e w5 ⟨rfl, hb5⟩
          have hsz5 := hb5.size
          have hR5 : BM w5 (w.heap.size + 1 + 1) 0 0 none 0 0 := Kb hR
          have hfin5 : OR w5 (w.heap.size + 1 + 1 + 1) (.slice Ao no co) (mulL xs i C ys C2) := Ko hfin
          have hbw5 : Below w.heap.size w w5 := Kw
          obtain ⟨ra, rb, rc, rf, rl⟩ := hR5.mx
          clear hA hB hR hO hbw hb5 hres
          clear aa ab ac af al ba bb bc bf bl oa ob oc of ol
          go_wp2_with fail
        · have hb6 : mulB i C xs C C2 ys = false := by rw [HB0.out]; simpa using HRES.out
          rw [mulM_no hb6, hb6]
          refine ret_MB (r := 0) (c := 0) (A := none) (n := 0) (cap := 0) Try.results13 rfl (Kb hR5) rfl ?_
          exact MBR.mk rfl (OR.nil_ _ _) Kw
        · have hb6 : mulB i C xs C C2 ys = true := by rw [HB0.out]; simpa using HRES.out
          rw [mulM_yes hb6, hb6]
          refine ret_MB (r := i) (c := C2) (A := Ao) (n := no) (cap := co) Try.results13 rfl (Kb hR5) rfl ?_
          exact MBR.mk (xs := mulL xs i C ys C2) (by simp) (OR.mono (B := w.heap.size + 1 + 1 + 1) (Ko hfin5) (by omega)) Kw
end Go.Proofs.Ytlggfmfelakadaa

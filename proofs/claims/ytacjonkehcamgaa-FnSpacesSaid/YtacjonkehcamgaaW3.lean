/-
  DERIVED. Several small texts in one: MulS, DrS, DrU, DrSp, LSpaces.
-/
import Derived.Test.YtacjonkehcamgaaWS
import Derived.Test.YtacjonkehcamgaaMulu
import Derived.Test.YtacjonkehcamgaaDrMu
import Derived.Test.YtacjonkehcamgaaW1
import Derived.Test.YtacjonkehcamgaaRowOp
import Derived.Test.YtacjonkehcamgaaW2
/-
  DERIVED. l3Mul.
-/
namespace Go.Proofs.Ytacjonkehcamgaa
open Go.RowKit
set_option linter.unusedVariables false
set_option linter.unusedSimpArgs false
set_option maxRecDepth 100000 in
set_option maxHeartbeats 8000000 in
theorem spec_l3Mul (R C C2 : Nat) (A A' : Option Addr) (n cap n' cap' : Nat) (xs ys : List Int) (w : World) {B B' : Nat} (h : RI w B A n xs) (h' : RI w B' A' n' ys) (hB : B ≤ w.heap.size) (hB' : B' ≤ w.heap.size) (hn : n ≤ 1048576) (hn' : n' ≤ 1048576) (M : IsM R C xs) (M2 : IsM C C2 ys) :
    Calls Try.prog 171 #[.agg #[.int .i64 R, .int .i64 C, .slice A n cap], .agg #[.int .i64 C, .int .i64 C2, .slice A' n' cap']] w (MR ⟨R, C2, mulL xs R C ys C2⟩ w) := by
  have hlen := h.len
  have hlen' := h'.len
  have H2 := Lib.hid (h.more hB)
  have H3 := Lib.hid (h'.more hB')
  clear h h' hB hB'
  have HMM := Lib.hid M
  have HMM2 := Lib.hid M2
  have hR' := M.r1
  have hC := M.c1
  have hC2 := M2.c1
  have hl1 : (n : Int) ≤ (R : Int) * (C : Int) ∧ (R : Int) * (C : Int) ≤ n := by have := M.len; omega
  have hl2 : (n' : Int) ≤ (C : Int) * (C2 : Int) ∧ (C : Int) * (C2 : Int) ≤ n' := by have := M2.len; omega
  have hRC : R * C2 ≤ 24 * 24 := Nat.mul_le_mul (by omega) (by omega)
  clear M M2 hlen hlen'
  go_enter Try.func171, Try.ntmps171
  go_wp2_with fail
  refine (spec_l3New R C2 _ (by omega) (by omega) (by omega)).mono ?_
  rintro e w3 ⟨Ao, no, co, rfl, hown, hb3⟩
  have hsz3 := hb3.size
  simp at hsz3
  have hno := hown.lenEq
  have hU : Own (.slice Ao no co) (w.heap.size + 1 + 1 + 1) w3.heap.size := hown.own.wide Ks (Nat.le_refl _)
  have hno1 : no ≤ R * C2 ∧ R * C2 ≤ no := by simp at hno; omega
  have hno2 : (no : Int) ≤ (R : Int) * (C2 : Int) ∧ (R : Int) * (C2 : Int) ≤ no := by rw [← Int.natCast_mul]; omega
  have hA3 : BM (w3.alloc (.cells #[.int .i64 R, .int .i64 C2, .slice Ao no co] 26)) w.heap.size R C A n cap := Ka
  have hB3 : BM (w3.alloc (.cells #[.int .i64 R, .int .i64 C2, .slice Ao no co] 26)) (w.heap.size + 1) C C2 A' n' cap' := Ka
  have hR3 : BM (w3.alloc (.cells #[.int .i64 R, .int .i64 C2, .slice Ao no co] 26)) (w.heap.size + 1 + 1) 0 0 none 0 0 := Ka
  have hO3 : BM (w3.alloc (.cells #[.int .i64 R, .int .i64 C2, .slice Ao no co] 26)) w3.heap.size R C2 Ao no co := Ka
  have hown3 : OR (w3.alloc (.cells #[.int .i64 R, .int .i64 C2, .slice Ao no co] 26)) (w.heap.size + 1 + 1 + 1) (.slice Ao no co) (fillTo (mulL xs R C ys C2) (R * C2) 0) := by
    rw [fillTo_zero]; exact (hown.mono Ks).alloc _
  have hbw3 : Below w.heap.size w (w3.alloc (.cells #[.int .i64 R, .int .i64 C2, .slice Ao no co] 26)) := Kw
  have hq3 : w.heap.size + 1 + 1 + 1 ≤ w3.heap.size := by omega
  have hU0 : Hid (0 < R * C2 → ∃ g, Ao = some ⟨g, 0, none⟩ ∧ w.heap.size + 1 + 1 + 1 ≤ g ∧ g < w3.heap.size) := Lib.hid (fun hp => by have := hown.begins (by simpa using hp); simpa using this)
  clear hown hno hb3
  go_wp2_with fail
  generalize hbO : w3.heap.size = bO at *
  have HBO := Lib.hid hbO
  clear hbO
  go_loopw [6] (fun v wr => ∃ i : Nat, v = .int .i64 i ∧ i ≤ R ∧ BM wr w.heap.size R C A n cap ∧ BM wr (w.heap.size + 1) C C2 A' n' cap' ∧ BM wr (w.heap.size + 1 + 1) 0 0 none 0 0 ∧ BM wr bO R C2 Ao no co ∧ OR wr (w.heap.size + 1 + 1 + 1) (.slice Ao no co) (fillTo (mulL xs R C ys C2) (R * C2) (i*C2)) ∧ Below w.heap.size w wr) (fun v _ => R - (intOf v).toNat)
  case atStart => exact ⟨0, rfl, Nat.zero_le _, hA3, hB3, hR3, hO3, by rw [Nat.zero_mul]; exact hown3, hbw3⟩
  case round =>
    clear hA3 hB3 hR3 hO3 hown3 hbw3
    obtain ⟨i, rfl, hi, hA, hB, hR, hO, hown, hbw⟩ := hrel
    obtain ⟨aa, ab, ac, af, al⟩ := hA.mx; obtain ⟨ba, bb, bc, bf, bl⟩ := hB.mx; obtain ⟨oa, ob, oc, of, ol⟩ := hO.mx
    by_cases hiR : i < R
    · go_wp2_with fail
      obtain ⟨wo, rfl⟩ : ∃ wo : World, wo = wr := ⟨_, rfl⟩
      go_loopw [7, 8, 9] (fun v _ _ wr => ∃ j : Nat, v = .int .i64 j ∧ j ≤ C2 ∧ BM wr w.heap.size R C A n cap ∧ BM wr (w.heap.size + 1) C C2 A' n' cap' ∧ BM wr (w.heap.size + 1 + 1) 0 0 none 0 0 ∧ BM wr bO R C2 Ao no co ∧ OR wr (w.heap.size + 1 + 1 + 1) (.slice Ao no co) (fillTo (mulL xs R C ys C2) (R * C2) (i*C2+j)) ∧ Below w.heap.size w wr) (fun v _ _ _ => C2 - (intOf v).toNat)
      case atStart => exact ⟨0, rfl, Nat.zero_le _, hA, hB, hR, hO, hown, hbw⟩
      case round =>
        clear hA hB hR hO hown hbw
        clear aa ab ac af al ba bb bc bf bl oa ob oc of ol
        obtain ⟨j, rfl, hj, hA, hB, hR, hO, hown, hbw⟩ := hrel
        obtain ⟨aa, ab, ac, af, al⟩ := hA.mx; obtain ⟨ba, bb, bc, bf, bl⟩ := hB.mx; obtain ⟨oa, ob, oc, of, ol⟩ := hO.mx
        by_cases hjC : j < C2
        · go_wp2_with fail
          obtain ⟨wo2, rfl⟩ : ∃ wo : World, wo = wr := ⟨_, rfl⟩
          go_loopw [8, 9] (fun u v wr => ∃ k : Nat, v = .int .i64 k ∧ u = .int .i64 (psum xs C ys C2 i j k) ∧ k ≤ C ∧ BM wr w.heap.size R C A n cap ∧ BM wr (w.heap.size + 1) C C2 A' n' cap' ∧ BM wr (w.heap.size + 1 + 1) 0 0 none 0 0 ∧ BM wr bO R C2 Ao no co ∧ OR wr (w.heap.size + 1 + 1 + 1) (.slice Ao no co) (fillTo (mulL xs R C ys C2) (R * C2) (i*C2+j)) ∧ Below w.heap.size w wr) (fun _ v _ => C - (intOf v).toNat)
          case atStart => exact ⟨0, rfl, rfl, Nat.zero_le _, hA, hB, hR, hO, hown, hbw⟩
          case round =>
            clear hA hB hR hO hown hbw
            clear aa ab ac af al ba bb bc bf bl oa ob oc of ol
            obtain ⟨k, rfl, rfl, hk, hA, hB, hR, hO, hown, hbw⟩ := hrel
            obtain ⟨aa, ab, ac, af, al⟩ := hA.mx; obtain ⟨ba, bb, bc, bf, bl⟩ := hB.mx; obtain ⟨oa, ob, oc, of, ol⟩ := hO.mx
            generalize hq : i * C2 + j = q at *
            have HQ := Lib.hid hq
            clear hq
            by_cases hkC : k < C
            · obtain ⟨p1, p2⟩ := psum_bd HMM.out HMM2.out i j k (by omega)
              obtain ⟨p3, p4⟩ := psum_bd HMM.out HMM2.out i j (k + 1) (by omega)
              have hps : psum xs C ys C2 i j (k + 1) = psum xs C ys C2 i j k + cel xs C i k * cel ys C2 k j := rfl
              rw [hps] at p3 p4
              have HPS := Lib.hid hps
              clear hps
              obtain ⟨x1, x2, x3, x4⟩ := idx_bd (r := R) (c := C) (i := i) (j := k) hR' hC (by omega) (by omega) (by omega) (by omega)
              obtain ⟨x5, x6, x7, x8⟩ := idx_bd (r := C) (c := C2) (i := k) (j := j) hC hC2 (by omega) (by omega) (by omega) (by omega)
              obtain ⟨y1, y2⟩ := HMM.out.cel_bd i k
              obtain ⟨y3, y4⟩ := HMM2.out.cel_bd k j
              obtain ⟨z1, z2⟩ := mul_bd4 _ _ 400000000 400000000 y1 y2 y3 y4
              have g1 : IntKind.i64.wrap (cel xs C i k * cel ys C2 k j) = cel xs C i k * cel ys C2 k j := IntWalk.i64_in _ (by omega)
              have g2 : IntKind.i64.wrap (psum xs C ys C2 i j k + cel xs C i k * cel ys C2 k j) = psum xs C ys C2 i j k + cel xs C i k * cel ys C2 k j := IntWalk.i64_in _ (by omega)
              go_wp2_with fail
              obtain ⟨ab1, ao1, rfl, hab, hac⟩ := H2.out.2 (by omega)
              obtain ⟨bb1, bo1, rfl, hbb, hbc⟩ := H3.out.2 (by omega)
              have c1 := (hbw.cell (p := ⟨ab1, ao1 + ((i : Int) * (C : Int) + (k : Int)).toNat, none⟩) hab).trans (hac _ (by omega))
              have c2 := (hbw.cell (p := ⟨bb1, bo1 + ((k : Int) * (C2 : Int) + (j : Int)).toNat, none⟩) hbb).trans (hbc _ (by omega))
              clear hac hbc
              rw [show xs.getD ((i : Int) * (C : Int) + (k : Int)).toNat 0 = cel xs C i k from rfl] at c1
              rw [show ys.getD ((k : Int) * (C2 : Int) + (j : Int)).toNat 0 = cel ys C2 k j from rfl] at c2
              have g3 : IntKind.i64.wrap ((i : Int) * (C : Int)) = (i : Int) * (C : Int) := IntWalk.i64_in _ (by omega)
              have g4 : IntKind.i64.wrap ((k : Int) * (C2 : Int)) = (k : Int) * (C2 : Int) := IntWalk.i64_in _ (by omega)
              have g5 : IntKind.i64.wrap ((i : Int) * (C : Int) + (k : Int)) = (i : Int) * (C : Int) + (k : Int) := IntWalk.i64_in _ (by omega)
              have g6 : IntKind.i64.wrap ((k : Int) * (C2 : Int) + (j : Int)) = (k : Int) * (C2 : Int) + (j : Int) := IntWalk.i64_in _ (by omega)
              have g7 : 0 ≤ (i : Int) * (C : Int) + (k : Int) ∧ (i : Int) * (C : Int) + (k : Int) < (n : Int) := by omega
              have g8 : 0 ≤ (k : Int) * (C2 : Int) + (j : Int) ∧ (k : Int) * (C2 : Int) + (j : Int) < (n' : Int) := by omega
              obtain ⟨g7a, g7b⟩ := g7
              obtain ⟨g8a, g8b⟩ := g8
              generalize cel xs C i k = xv at *
              generalize cel ys C2 k j = yv at *
              ((refine wp_region_held_drew (S := (fun w' => w'.cell? ⟨w.heap.size, 1, none⟩ = some (.int .i64 C) ∧ w'.cell? ⟨w.heap.size, 2, none⟩ = some (.slice (some ⟨ab1, ao1, none⟩) n cap) ∧ w'.cell? ⟨w.heap.size + 1, 1, none⟩ = some (.int .i64 C2) ∧ w'.cell? ⟨w.heap.size + 1, 2, none⟩ = some (.slice (some ⟨bb1, bo1, none⟩) n' cap') ∧ w'.cell? ⟨ab1, ao1 + ((i : Int) * (C : Int) + (k : Int)).toNat, none⟩ = some (.int .i64 xv) ∧ w'.cell? ⟨bb1, bo1 + ((k : Int) * (C2 : Int) + (j : Int)).toNat, none⟩ = some (.int .i64 yv))) (by kernel_rfl) ?_ (fun hHeld => ?_)); ((focus ((try dsimp only); (go_keep)))); ((refine tk_ (i := 0) (v := ?_) (y := Or.inl ⟨by rfl, ?_⟩) (h := ?_); rotate_left; (focus (((intro w hSw; (try dsimp only at hSw); go_simp) <;> (try with_reducible rfl)); done)); (try simp only [Act.put, p1_, p2_, p3_]))); ((refine tk_ (i := 1) (v := ?_) (y := Or.inl ⟨by rfl, ?_⟩) (h := ?_); rotate_left; (focus (((intro w hSw; (try dsimp only at hSw); go_simp) <;> (try with_reducible rfl)); done)); (try simp only [Act.put, p1_, p2_, p3_]))); ((refine tk_ (i := 2) (v := ?_) (y := Or.inl ⟨by rfl, ?_⟩) (h := ?_); rotate_left; (focus (((intro w hSw; (try dsimp only at hSw); go_simp) <;> (try with_reducible rfl)); done)); (try simp only [Act.put, p1_, p2_, p3_]))); ((refine tk_ (i := 3) (v := ?_) (y := Or.inl ⟨by rfl, ?_⟩) (h := ?_); rotate_left; (focus (((intro w hSw; (try dsimp only at hSw); go_simp) <;> (try with_reducible rfl)); done)); (try simp only [Act.put, p1_, p2_, p3_]))); ((refine tk_ (i := 4) (v := ?_) (y := Or.inl ⟨by rfl, ?_⟩) (h := ?_); rotate_left; (focus (((intro w hSw; (try dsimp only at hSw); go_simp) <;> (try with_reducible rfl)); done)); (try simp only [Act.put, p1_, p2_, p3_]))); ((refine tk_ (i := 5) (v := ?_) (y := Or.inl ⟨by rfl, ?_⟩) (h := ?_); rotate_left; (focus (((intro w hSw; (try dsimp only at hSw); go_simp) <;> (try with_reducible rfl)); done)); (try simp only [Act.put, p1_, p2_, p3_]))); ((refine tk_ (i := 6) (v := ?_) (y := Or.inl ⟨by rfl, ?_⟩) (h := ?_); rotate_left; (focus (((intro w hSw; (try dsimp only at hSw); go_simp) <;> (try with_reducible rfl)); done)); (try simp only [Act.put, p1_, p2_, p3_]))); ((refine tk_ (i := 7) (v := ?_) (y := Or.inl ⟨by rfl, ?_⟩) (h := ?_); rotate_left; (focus (((intro w hSw; (try dsimp only at hSw); go_simp) <;> (try with_reducible rfl)); done)); (try simp only [Act.put, p1_, p2_, p3_]))); ((refine tk_ (i := 8) (v := ?_) (y := Or.inl ⟨by rfl, ?_⟩) (h := ?_); rotate_left; (focus (((intro w hSw; (try dsimp only at hSw); go_simp) <;> (try with_reducible rfl)); done)); (try simp only [Act.put, p1_, p2_, p3_]))); ((refine tk_ (i := 9) (v := ?_) (y := Or.inl ⟨by rfl, ?_⟩) (h := ?_); rotate_left; (focus (((intro w hSw; (try dsimp only at hSw); go_simp) <;> (try with_reducible rfl)); done)); (try simp only [Act.put, p1_, p2_, p3_]))); ((refine tk_ (i := 10) (v := ?_) (y := Or.inl ⟨by rfl, ?_⟩) (h := ?_); rotate_left; (focus (((intro w hSw; (try dsimp only at hSw); go_simp) <;> (try with_reducible rfl)); done)); (try simp only [Act.put, p1_, p2_, p3_]))); ((refine tk_ (i := 11) (v := ?_) (y := Or.inl ⟨by rfl, ?_⟩) (h := ?_); rotate_left; (focus (((intro w hSw; (try dsimp only at hSw); go_simp) <;> (try with_reducible rfl)); done)); (try simp only [Act.put, p1_, p2_, p3_]))); ((refine tk_ (i := 12) (v := ?_) (y := Or.inl ⟨by rfl, ?_⟩) (h := ?_); rotate_left; (focus (((intro w hSw; (try dsimp only at hSw); go_simp) <;> (try with_reducible rfl)); done)); (try simp only [Act.put, p1_, p2_, p3_]))); ((refine tk_ (i := 13) (v := ?_) (y := Or.inl ⟨by rfl, ?_⟩) (h := ?_); rotate_left; (focus (((intro w hSw; (try dsimp only at hSw); go_simp) <;> (try with_reducible rfl)); done)); (try simp only [Act.put, p1_, p2_, p3_]))); ((refine tk_ (i := 14) (v := ?_) (y := Or.inl ⟨by rfl, ?_⟩) (h := ?_); rotate_left; (focus (((intro w hSw; (try dsimp only at hSw); go_simp) <;> (try with_reducible rfl)); done)); (try simp only [Act.put, p1_, p2_, p3_]))); ((refine tk_ (i := 15) (v := ?_) (y := Or.inl ⟨by rfl, ?_⟩) (h := ?_); rotate_left; (focus (((intro w hSw; (try dsimp only at hSw); go_simp) <;> (try with_reducible rfl)); done)); (try simp only [Act.put, p1_, p2_, p3_]))); ((refine tk_ (i := 16) (v := ?_) (y := Or.inl ⟨by rfl, ?_⟩) (h := ?_); rotate_left; (focus (((intro w hSw; (try dsimp only at hSw); go_simp) <;> (try with_reducible rfl)); done)); (try simp only [Act.put, p1_, p2_, p3_]))); ((refine tk_ (i := 17) (v := ?_) (y := Or.inl ⟨by rfl, ?_⟩) (h := ?_); rotate_left; (focus (((intro w hSw; (try dsimp only at hSw); go_simp) <;> (try with_reducible rfl)); done)); (try simp only [Act.put, p1_, p2_, p3_]))); ((refine tk_ (i := 18) (v := ?_) (y := Or.inl ⟨by rfl, ?_⟩) (h := ?_); rotate_left; (focus (((intro w hSw; (try dsimp only at hSw); go_simp) <;> (try with_reducible rfl)); done)); (try simp only [Act.put, p1_, p2_, p3_]))); ((refine tk_ (i := 19) (v := ?_) (y := Or.inl ⟨by rfl, ?_⟩) (h := ?_); rotate_left; (focus (((intro w hSw; (try dsimp only at hSw); go_simp) <;> (try with_reducible rfl)); done)); (try simp only [Act.put, p1_, p2_, p3_]))); ((refine tk_ (i := 20) (v := ?_) (y := Or.inl ⟨by rfl, ?_⟩) (h := ?_); rotate_left; (focus (((intro w hSw; (try dsimp only at hSw); go_simp) <;> (try with_reducible rfl)); done)); (try simp only [Act.put, p1_, p2_, p3_]))); ((refine tk_ (i := 21) (v := ?_) (y := Or.inl ⟨by rfl, ?_⟩) (h := ?_); rotate_left; (focus (((intro w hSw; (try dsimp only at hSw); go_simp) <;> (try with_reducible rfl)); done)); (try simp only [Act.put, p1_, p2_, p3_]))); ((refine tk_ (i := 22) (v := ?_) (y := Or.inl ⟨by rfl, ?_⟩) (h := ?_); rotate_left; (focus (((intro w hSw; (try dsimp only at hSw); go_simp) <;> (try with_reducible rfl)); done)); (try simp only [Act.put, p1_, p2_, p3_]))); ((refine tk_ (i := 23) (v := ?_) (y := Or.inl ⟨by rfl, ?_⟩) (h := ?_); rotate_left; (focus (((intro w hSw; (try dsimp only at hSw); go_simp) <;> (try with_reducible rfl)); done)); (try simp only [Act.put, p1_, p2_, p3_]))); (refine wpAnyH_done (by kernel_rfl) ?_ _))
              clear g1 g2 g3 g4 g5 g6 c1 c2
              go_wp2_with fail
              go_roundw
              case rel => exact ⟨k + 1, by go_num, by rw [HPS.out], by omega, Kb hA, Kb hB, Kb hR, Kb hO, Ko hown, Kw⟩
              case measure => simp only [intOf]; omega
            · obtain rfl : k = C := by omega
              obtain ⟨x1, x2, x3, x4⟩ := idx_bd (r := R) (c := C2) (i := i) (j := j) hR' hC2 (by omega) (by omega) (by omega) (by omega)
              have hqR : q < R * C2 := by rw [← HQ.out]; exact idx_nat hiR hjC
              have e9 : ((i : Int) * (C2 : Int) + (j : Int)).toNat = q := by rw [← HQ.out, ← Int.natCast_mul, ← Int.natCast_add, Int.toNat_natCast]
              have e8 : (mulL xs R k ys C2).getD q 0 = psum xs k ys C2 i j k := by rw [← HQ.out]; exact mulL_at hiR hjC
              have E9 := Lib.hid e9
              have E8 := Lib.hid e8
              clear e9 e8
              have hnq : q < no := by omega
              obtain ⟨g, rfl, hg1, hg2⟩ := hU0.out (by omega)
              have hc1 := hown.cell q (by rw [fillTo_len (mulL_len _ _ _ _ _) (by omega)]; exact hqR)
              have hf1 := hown.frozen q
              generalize (fillTo (mulL xs R k ys C2) (R * C2) q).getD q 0 = oldv at hc1
              have hst := hown.set_ q (psum xs k ys C2 i j k)
              rw [fillTo_set' (mulL_len _ _ _ _ _) hqR E8.out] at hst
              have hgr := only_set (g := g) (World.grownBy.refl wr (some g)) q (.int .i64 (psum xs k ys C2 i j k))
              have hsz4 : wr.heap.size ≤ (wr.setCell ⟨g, q, none⟩ (.int .i64 (psum xs k ys C2 i j k))).heap.size := by simp [World.setCell]
              have i1 : (0 : Int) ≤ (i : Int) * (C2 : Int) + (j : Int) := by omega
              have i2 : (i : Int) * (C2 : Int) + (j : Int) < (no : Int) := by omega
              have i3 := E9.out
              have hA4 := hA.keptOwn (sv := .slice (some ⟨g, 0, none⟩) no co) hgr hU (by omega)
              have hB4 := hB.keptOwn (sv := .slice (some ⟨g, 0, none⟩) no co) hgr hU (by omega)
              have hR4 := hR.keptOwn (sv := .slice (some ⟨g, 0, none⟩) no co) hgr hU (by omega)
              have hO4 := hO.keptOwn (sv := .slice (some ⟨g, 0, none⟩) no co) hgr hU (by omega)
              have hbw4 : Below w.heap.size w (wr.setCell ⟨g, q, none⟩ (.int .i64 (psum xs k ys C2 i j k))) := hbw.trans (below_keptOwn (sv := .slice (some ⟨g, 0, none⟩) no co) hgr hU (by omega) (by omega))
              have HS := Lib.hid hst
              clear hst
              go_wp2_with fail
              go_roundw
              case rel => exact ⟨j + 1, by go_num, by omega, Kb hA4, Kb hB4, Kb hR4, Kb hO4, by rw [← Nat.add_assoc, HQ.out]; (with_reducible (repeat (first | exact HS.out | refine OR.drew ?_ | refine OR.drewN ?_ _ | refine OR.alloc ?_ _ | refine OR.b_ ?_ | refine OR.l_ ?_))), Kw⟩
              case measure => simp only [intOf]; omega
        · obtain rfl : j = C2 := by omega
          have E7 : Hid ((i + 1) * j = i * j + j) := Lib.hid (by rw [Nat.add_mul, Nat.one_mul])
          go_wp2_with fail
          go_roundw
          case rel => exact ⟨i + 1, by go_num, by omega, Kb hA, Kb hB, Kb hR, Kb hO, by rw [E7.out]; (with_reducible (repeat (first | exact hown | refine OR.drew ?_ | refine OR.drewN ?_ _ | refine OR.alloc ?_ _ | refine OR.b_ ?_ | refine OR.l_ ?_))), Kw⟩
          case measure => simp only [intOf]; omega
    · obtain rfl : i = R := by omega
      have hfin := hown.as (fillTo_all (mulL_len xs i C ys C2))
      obtain ⟨ra, rb, rc, rf, rl⟩ := hR.mx
      clear hown
      go_wp2_with fail
      refine ret_M (r := i) (c := C2) (A := Ao) (n := no) (cap := co) Try.results171 rfl (Kb hR) rfl ?_
      exact MR.mk (xs := mulL xs i C ys C2) rfl (OR.mono (B := w.heap.size + 1 + 1 + 1) (Ko hfin) (by omega)) Kw
end Go.Proofs.Ytacjonkehcamgaa

/-
  DERIVED. What is drawn for the equations in whole numbers: l14Draw, DrawSolveInteger.
-/
namespace Go.Proofs.Ytacjonkehcamgaa
open Go.RowKit
set_option linter.unusedVariables false
set_option linter.unusedSimpArgs false
/-- The call drew a matrix and a list, their cells their own. -/
def DSI (wo : World) (e : Ending) (w' : World) : Prop := ∃ (r c : Int) (Am : Option Addr) (nm cm : Nat) (ys : List Int) (Ab : Option Addr) (nb cb : Nat) (bs : List Int), e = .returned (.tuple #[.agg #[.int .i64 r, .int .i64 c, .slice Am nm cm], .slice Ab nb cb]) ∧ OR w' wo.heap.size (.slice Am nm cm) ys ∧ OR w' wo.heap.size (.slice Ab nb cb) bs ∧ ys.length ≤ 17 ∧ bs.length ≤ 1001 ∧ Below wo.heap.size wo w'
theorem field_M2 (r c : Int) (A : Option Addr) (n cap : Nat) (w : World) : (Instr.field 26 (.agg #[.int .i64 r, .int .i64 c, .slice A n cap]) 2).run Try.prog w = .ok (.slice A n cap) w := by
  simp [Instr.field, asAgg, part, go_sem, Try.underlying26]
attribute [local go_sem] field_M2
/-- A drawn column. -/
def MD1 (B0 R : Nat) (most : Int) (w' : World) (v : Value) : Prop := ∃ Am nm cm ys, v = .agg #[.int .i64 R, .int .i64 1, .slice Am nm cm] ∧ OR w' B0 (.slice Am nm cm) ys ∧ ys.length = R ∧ ∀ k, -most ≤ ys.getD k 0 ∧ ys.getD k 0 ≤ most
theorem spec_l3Draw1 (b n cap : Nat) (A : Option Addr) (xs : List Int) (R : Nat) (most : Int) (w : World) {B : Nat} (hct : CT w w B b n cap A xs) (hR : R ≤ 24) (hm : 0 ≤ most ∧ most ≤ 100) :
    Calls Try.prog 187 #[.pointer (some ⟨b, 0, none⟩), .int .i64 R, .int .i64 1, .int .i64 most] w (DRV (MD1 w.heap.size R most) B b n cap A xs w) :=
  (spec_l3Draw b n cap A xs R 1 most w hct hR (by omega) hm).mono fun _ _ ⟨v, h1, ⟨Am, nm, cm, ys, h2, h3, h4, h5⟩, h6⟩ => ⟨v, h1, ⟨Am, nm, cm, ys, h2, h3, by omega, h5⟩, h6⟩
theorem spec_l3Mul1 (R C : Nat) (A A' : Option Addr) (n cap n' cap' : Nat) (xs ys : List Int) (w : World) {B B' : Nat} (h : RI w B A n xs) (h' : RI w B' A' n' ys) (hB : B ≤ w.heap.size) (hB' : B' ≤ w.heap.size) (hn : n ≤ 1048576) (hn' : n' ≤ 1048576) (M : IsM R C xs) (M2 : IsM C 1 ys) :
    Calls Try.prog 171 #[.agg #[.int .i64 R, .int .i64 C, .slice A n cap], .agg #[.int .i64 C, .int .i64 1, .slice A' n' cap']] w (fun e w' => ∃ Ao no co, e = .returned (.agg #[.int .i64 R, .int .i64 1, .slice Ao no co]) ∧ OR w' w.heap.size (.slice Ao no co) (mulL xs R C ys 1) ∧ Below w.heap.size w w') :=
  spec_l3Mul R C 1 A A' n cap n' cap' xs ys w h h' hB hB' hn hn' M M2
set_option maxRecDepth 100000 in
set_option maxHeartbeats 8000000 in
theorem spec_l14Draw (n cap : Nat) (A : Option Addr) (xs : List Int) (wo : World) (hby : RB wo wo.heap.size A n xs) (hn : n ≤ 2000000) :
    Calls Try.prog 95 #[.slice A n cap] wo (DSI wo) := by
  have HBY := Lib.hid hby
  clear hby
  go_enter Try.func95, Try.ntmps95
  go_wp2_with fail
  refine (spec_l1New n cap A xs _ (B := wo.heap.size) (by (with_reducible (repeat (first | exact HBY.out | refine RB.drew ?_ | refine RB.drewN ?_ _ | refine RB.alloc ?_ Ks _ | refine RB.setCell ?_ Ks _ | refine RB.below ?_ (by assumption) Ks)))) hn).mono ?_
  rintro e w ⟨b, rfl, hcu, hbs, hb2⟩
  have hsz2 := hb2.size
  simp at hsz2 hbs
  have hct : CT w w wo.heap.size b n cap A xs := CT.new hcu (by (with_reducible (repeat (first | exact HBY.out | refine RB.drew ?_ | refine RB.drewN ?_ _ | refine RB.alloc ?_ Ks _ | refine RB.setCell ?_ Ks _ | refine RB.below ?_ (by assumption) Ks)))) (by omega) hn
  have HB0 : Hid (Below wo.heap.size wo w) := Lib.hid Kw
  have hR0 : BM w wo.heap.size 0 0 none 0 0 := Ka
  have hb := hct.hb
  clear hb2 hcu
  go_wp2_with fail
  refine (spec_l3Any b n cap A xs _ (CT.self (w0 := w) (B := wo.heap.size) (by (with_reducible (repeat (first | exact hct | refine CT.drew ?_ | refine CT.drewN ?_ _ | refine CT.alloc ?_ _ | refine CT.far ?_ Ks _ | refine CT.below ?_ (by assumption) Ks)))))).mono ?_
  rintro e w1 ⟨v, rfl, ⟨r, c, Am, nm, cm, ys, rfl, ho1, hl1, hr1, hc1⟩, hct1⟩
  have hsz1 := hct1.size
  have hR1 : BM w1 wo.heap.size 0 0 none 0 0 := hR0.grown hct1.gr (by simp; omega)
  have hR : BM (w1.alloc (.cells #[.int .i64 r, .int .i64 c, .slice Am nm cm] 26)) wo.heap.size 0 0 none 0 0 := Kb hR1
  have hM : BM (w1.alloc (.cells #[.int .i64 r, .int .i64 c, .slice Am nm cm] 26)) w1.heap.size r c Am nm cm := Ka
  have ho : OR (w1.alloc (.cells #[.int .i64 r, .int .i64 c, .slice Am nm cm] 26)) w.heap.size (.slice Am nm cm) ys := ho1.alloc _
  have hct2 : CT w (w1.alloc (.cells #[.int .i64 r, .int .i64 c, .slice Am nm cm] 26)) wo.heap.size b n cap A xs := hct1.alloc _
  have hln := ho1.lenEq
  have hln2 : nm ≤ 17 ∧ nm ≤ ys.length ∧ ys.length ≤ nm := by omega
  have hs5 : w1.heap.size < (w1.alloc (.cells #[.int .i64 r, .int .i64 c, .slice Am nm cm] 26)).heap.size := by simp
  clear hct hct1 hR0 hR1 ho1 hln
  have hct := hct2
  clear hct2
  obtain ⟨oa, ob, oc, of, ol⟩ := hM.mx; obtain ⟨ra, rb, rc, rf, rl⟩ := hR.mx
  go_wp2_with fail
  generalize (w1.alloc (.cells #[.int .i64 r, .int .i64 c, .slice Am nm cm] 26)) = w2 at *
  generalize hbm : w1.heap.size = bM at *
  have hwM : w.heap.size ≤ bM := by omega
  have ne1 : ¬ bM = wo.heap.size := by omega
  have ne2 : ¬ wo.heap.size = bM := by omega
  clear hbm
  rcases hm : isMat r c ys with _ | _
  · have HM := Lib.hid hm
    clear hm
    refine (spec_IsMatrix r c Am nm cm ys _ (C := w2.heap.size) ho.reads (Nat.le_refl _) (by omega)).mono ?_
    rw [HM.out]
    rintro e w3 ⟨rfl, hb3⟩
    have hsz3 := hb3.size
    have hct_1 : CT w w3 wo.heap.size b n cap A xs := (by (with_reducible (repeat (first | exact hct | refine CT.drew ?_ | refine CT.drewN ?_ _ | refine CT.alloc ?_ _ | refine CT.far ?_ Ks _ | refine CT.below ?_ (by assumption) Ks)))); have hR_1 : BM w3 wo.heap.size 0 0 none 0 0 := (Kb hR); have hM_1 : BM w3 bM (r) (c) Am nm cm := (Kb hM); have ho_1 : OR w3 w.heap.size (.slice Am nm cm) ys := (Ko ho); clear oa ob oc of ol ra rb rc rf rl; clear hct hM hR ho; have hct := hct_1; have hM := hM_1; have hR := hR_1; have ho := ho_1; clear hct_1 hM_1 hR_1 ho_1; obtain ⟨oa, ob, oc, of, ol⟩ := hM.mx; obtain ⟨ra, rb, rc, rf, rl⟩ := hR.mx
    clear hb3
    go_wp2_with fail
    ((refine wp_region_held_drew (S := (fun w' => w'.cell? ⟨bM, 0, none⟩ = some (.int .i64 (r)) ∧ w'.cell? ⟨bM, 1, none⟩ = some (.int .i64 (c)) ∧ w'.cell? ⟨bM, 2, none⟩ = some (.slice Am nm cm))) (by kernel_rfl) ?_ (fun hHeld => ?_)); ((focus ((try dsimp only); (go_keep)))); ((refine tk_ (i := 0) (v := ?_) (y := Or.inl ⟨by rfl, ?_⟩) (h := ?_); rotate_left; (focus (((intro w hSw; (try dsimp only at hSw); go_simp) <;> (try with_reducible rfl)); done)); (try simp only [Act.put, p1_, p2_, p3_]))); ((refine tk_ (i := 1) (v := ?_) (y := Or.inl ⟨by rfl, ?_⟩) (h := ?_); rotate_left; (focus (((intro w hSw; (try dsimp only at hSw); go_simp) <;> (try with_reducible rfl)); done)); (try simp only [Act.put, p1_, p2_, p3_]))); ((refine tk_ (i := 2) (v := ?_) (y := Or.inl ⟨by rfl, ?_⟩) (h := ?_); rotate_left; (focus (((intro w hSw; (try dsimp only at hSw); go_simp) <;> (try with_reducible rfl)); done)); (try simp only [Act.put, p1_, p2_, p3_]))); ((refine tk_ (i := 3) (v := ?_) (y := Or.inl ⟨by rfl, ?_⟩) (h := ?_); rotate_left; (focus (((intro w hSw; (try dsimp only at hSw); go_simp) <;> (try with_reducible rfl)); done)); (try simp only [Act.put, p1_, p2_, p3_]))); (refine wpAnyH_ready (rs := [4]) (by kernel_rfl) (by simp) ?_); (refine AllReadyH.cons (by simp only [e1_, e2_, e3_]; try rfl) ?_ ?_); ((focus ((intro K hK); (go_simp); ((go_at_call 122; refine (spec_l8Right b n cap A xs (r) _ (CT.self (w0 := w) (B := wo.heap.size) (by (with_reducible (repeat (first | exact hct | refine CT.drew ?_ | refine CT.drewN ?_ _ | refine CT.alloc ?_ _ | refine CT.far ?_ Ks _ | refine CT.below ?_ (by assumption) Ks))))) (by omega)).mono ?_; rintro e w8 ⟨v, rfl, ⟨Ab, nb, cb, bs, rfl, hob, hlb⟩, hc1⟩; have hob2 : OR w8 (wo.heap.size + 1) (.slice Ab nb cb) bs := OR.mono hob Ks; clear hob; have hct_1 : CT w w8 wo.heap.size b n cap A xs := CT.trans (by (with_reducible (repeat (first | exact hct | refine CT.drew ?_ | refine CT.drewN ?_ _ | refine CT.alloc ?_ _ | refine CT.far ?_ Ks _ | refine CT.below ?_ (by assumption) Ks)))) hc1; have hR_1 : BM w8 wo.heap.size 0 0 none 0 0 := BX.grown (Kb hR) hc1.gr (fun e => by injection e; omega); have hM_1 : BM w8 bM ((r)) ((c)) Am nm cm := BX.grown (Kb hM) hc1.gr (fun e => by injection e; omega); have ho_1 : OR w8 w.heap.size (.slice Am nm cm) ys := OR.turned (Ko ho) hc1 (by omega); clear oa ob oc of ol ra rb rc rf rl; clear hct hM hR ho; have hct := hct_1; have hM := hM_1; have hR := hR_1; have ho := ho_1; clear hct_1 hM_1 hR_1 ho_1; have hszw8 := hc1.size; (try simp at hszw8); clear hc1; obtain ⟨oa, ob, oc, of, ol⟩ := hM.mx; obtain ⟨ra, rb, rc, rf, rl⟩ := hR.mx)); ((try go_wp2_with fail)); (refine hK.out _ _ ?_ (fun hHeld => ?_)); ((focus ((try dsimp only); (go_keep)))); (clear hK K); ((try simp only [Act.put, p1_, p2_, p3_])); (refine wpAnyH_ready (rs := [5]) (by kernel_rfl) (by simp) ?_); (refine AllReadyH.cons (by simp only [e1_, e2_, e3_]; try rfl) ?_ ?_); ((focus ((intro K hK); (go_simp); ((try go_wp2_with fail)); (refine hK.out _ _ ?_ (fun hHeld => ?_)); ((focus ((try dsimp only); (go_keep)))); (clear hK K); ((try simp only [Act.put, p1_, p2_, p3_])); ((refine tk_ (i := 6) (v := ?_) (y := Or.inl ⟨by rfl, ?_⟩) (h := ?_); rotate_left; (focus (((intro w hSw; (try dsimp only at hSw); go_simp) <;> (try with_reducible rfl)); done)); (try simp only [Act.put, p1_, p2_, p3_]))); (refine wpAnyH_done (by kernel_rfl) ?_ _)))); (rotate_left 1); (exact AllReadyH.nil)))); (rotate_left 1); (exact AllReadyH.nil))
    have hvr := B3.of hR
    have hbw8 : Below wo.heap.size wo w8 := HB0.out.trans (CT.under hct (by omega))
    have KM : OR w8 (wo.heap.size + 1) (.slice Am nm cm) ys := OR.mono ho (by omega)
    have KB : OR w8 (wo.heap.size + 1) (.slice Ab nb cb) bs := OR.mono hob2 (by omega)
    go_wp2_with fail
    refine ret_MB (b := wo.heap.size) (r := r) (c := c) (A := Am) (n := nm) (cap := cm) Try.results95 rfl (Kb hvr) rfl ?_
    exact ⟨r, c, Am, nm, cm, ys, Ab, nb, cb, bs, rfl, OR.mono (B := wo.heap.size + 1) (Ko KM) (by omega), OR.mono (B := wo.heap.size + 1) (Ko KB) (by omega), by omega, by omega, Kw⟩
  · have M := isMat_iff.1 hm
    obtain ⟨R, rfl⟩ := nat_of M.r0
    obtain ⟨C, rfl⟩ := nat_of M.c0
    have hR24 : R ≤ 24 := by have := M.r1; omega
    have hC24 : C ≤ 24 := by have := M.c1; omega
    have HM := Lib.hid hm
    clear hm M
    refine (spec_IsMatrix R C Am nm cm ys _ (C := w2.heap.size) ho.reads (Nat.le_refl _) (by omega)).mono ?_
    rw [HM.out]
    rintro e w3 ⟨rfl, hb3⟩
    have hsz3 := hb3.size
    have hct_1 : CT w w3 wo.heap.size b n cap A xs := (by (with_reducible (repeat (first | exact hct | refine CT.drew ?_ | refine CT.drewN ?_ _ | refine CT.alloc ?_ _ | refine CT.far ?_ Ks _ | refine CT.below ?_ (by assumption) Ks)))); have hR_1 : BM w3 wo.heap.size 0 0 none 0 0 := (Kb hR); have hM_1 : BM w3 bM (R) (C) Am nm cm := (Kb hM); have ho_1 : OR w3 w.heap.size (.slice Am nm cm) ys := (Ko ho); clear oa ob oc of ol ra rb rc rf rl; clear hct hM hR ho; have hct := hct_1; have hM := hM_1; have hR := hR_1; have ho := ho_1; clear hct_1 hM_1 hR_1 ho_1; obtain ⟨oa, ob, oc, of, ol⟩ := hM.mx; obtain ⟨ra, rb, rc, rf, rl⟩ := hR.mx
    clear hb3
    go_wp2_with fail
    refine (spec_l1Once b n cap A xs 2 _ (CT.self (w0 := w) (B := wo.heap.size) (by (with_reducible (repeat (first | exact hct | refine CT.drew ?_ | refine CT.drewN ?_ _ | refine CT.alloc ?_ _ | refine CT.far ?_ Ks _ | refine CT.below ?_ (by assumption) Ks)))))).mono ?_
    rintro e w4 ⟨v, rfl, ⟨q, rfl⟩, hc1⟩
    have hct_1 : CT w w4 wo.heap.size b n cap A xs := CT.trans (by (with_reducible (repeat (first | exact hct | refine CT.drew ?_ | refine CT.drewN ?_ _ | refine CT.alloc ?_ _ | refine CT.far ?_ Ks _ | refine CT.below ?_ (by assumption) Ks)))) hc1; have hR_1 : BM w4 wo.heap.size 0 0 none 0 0 := BX.grown (Kb hR) hc1.gr (fun e => by injection e; omega); have hM_1 : BM w4 bM (R) (C) Am nm cm := BX.grown (Kb hM) hc1.gr (fun e => by injection e; omega); have ho_1 : OR w4 w.heap.size (.slice Am nm cm) ys := OR.turned (Ko ho) hc1 (by omega); clear oa ob oc of ol ra rb rc rf rl; clear hct hM hR ho; have hct := hct_1; have hM := hM_1; have hR := hR_1; have ho := ho_1; clear hct_1 hM_1 hR_1 ho_1; have hszw4 := hc1.size; (try simp at hszw4); clear hc1; obtain ⟨oa, ob, oc, of, ol⟩ := hM.mx; obtain ⟨ra, rb, rc, rf, rl⟩ := hR.mx
    rcases q with _ | _
    · go_wp2_with fail
      ((refine wp_region_held_drew (S := (fun w' => w'.cell? ⟨bM, 0, none⟩ = some (.int .i64 (R)) ∧ w'.cell? ⟨bM, 1, none⟩ = some (.int .i64 (C)) ∧ w'.cell? ⟨bM, 2, none⟩ = some (.slice Am nm cm))) (by kernel_rfl) ?_ (fun hHeld => ?_)); ((focus ((try dsimp only); (go_keep)))); ((refine tk_ (i := 0) (v := ?_) (y := Or.inl ⟨by rfl, ?_⟩) (h := ?_); rotate_left; (focus (((intro w hSw; (try dsimp only at hSw); go_simp) <;> (try with_reducible rfl)); done)); (try simp only [Act.put, p1_, p2_, p3_]))); ((refine tk_ (i := 1) (v := ?_) (y := Or.inl ⟨by rfl, ?_⟩) (h := ?_); rotate_left; (focus (((intro w hSw; (try dsimp only at hSw); go_simp) <;> (try with_reducible rfl)); done)); (try simp only [Act.put, p1_, p2_, p3_]))); ((refine tk_ (i := 2) (v := ?_) (y := Or.inl ⟨by rfl, ?_⟩) (h := ?_); rotate_left; (focus (((intro w hSw; (try dsimp only at hSw); go_simp) <;> (try with_reducible rfl)); done)); (try simp only [Act.put, p1_, p2_, p3_]))); ((refine tk_ (i := 3) (v := ?_) (y := Or.inl ⟨by rfl, ?_⟩) (h := ?_); rotate_left; (focus (((intro w hSw; (try dsimp only at hSw); go_simp) <;> (try with_reducible rfl)); done)); (try simp only [Act.put, p1_, p2_, p3_]))); (refine wpAnyH_ready (rs := [4]) (by kernel_rfl) (by simp) ?_); (refine AllReadyH.cons (by simp only [e1_, e2_, e3_]; try rfl) ?_ ?_); ((focus ((intro K hK); (go_simp); ((go_at_call 122; refine (spec_l8Right b n cap A xs (R) _ (CT.self (w0 := w) (B := wo.heap.size) (by (with_reducible (repeat (first | exact hct | refine CT.drew ?_ | refine CT.drewN ?_ _ | refine CT.alloc ?_ _ | refine CT.far ?_ Ks _ | refine CT.below ?_ (by assumption) Ks))))) (by omega)).mono ?_; rintro e w8 ⟨v, rfl, ⟨Ab, nb, cb, bs, rfl, hob, hlb⟩, hc1⟩; have hob2 : OR w8 (wo.heap.size + 1) (.slice Ab nb cb) bs := OR.mono hob Ks; clear hob; have hct_1 : CT w w8 wo.heap.size b n cap A xs := CT.trans (by (with_reducible (repeat (first | exact hct | refine CT.drew ?_ | refine CT.drewN ?_ _ | refine CT.alloc ?_ _ | refine CT.far ?_ Ks _ | refine CT.below ?_ (by assumption) Ks)))) hc1; have hR_1 : BM w8 wo.heap.size 0 0 none 0 0 := BX.grown (Kb hR) hc1.gr (fun e => by injection e; omega); have hM_1 : BM w8 bM ((R)) ((C)) Am nm cm := BX.grown (Kb hM) hc1.gr (fun e => by injection e; omega); have ho_1 : OR w8 w.heap.size (.slice Am nm cm) ys := OR.turned (Ko ho) hc1 (by omega); clear oa ob oc of ol ra rb rc rf rl; clear hct hM hR ho; have hct := hct_1; have hM := hM_1; have hR := hR_1; have ho := ho_1; clear hct_1 hM_1 hR_1 ho_1; have hszw8 := hc1.size; (try simp at hszw8); clear hc1; obtain ⟨oa, ob, oc, of, ol⟩ := hM.mx; obtain ⟨ra, rb, rc, rf, rl⟩ := hR.mx)); ((try go_wp2_with fail)); (refine hK.out _ _ ?_ (fun hHeld => ?_)); ((focus ((try dsimp only); (go_keep)))); (clear hK K); ((try simp only [Act.put, p1_, p2_, p3_])); (refine wpAnyH_ready (rs := [5]) (by kernel_rfl) (by simp) ?_); (refine AllReadyH.cons (by simp only [e1_, e2_, e3_]; try rfl) ?_ ?_); ((focus ((intro K hK); (go_simp); ((try go_wp2_with fail)); (refine hK.out _ _ ?_ (fun hHeld => ?_)); ((focus ((try dsimp only); (go_keep)))); (clear hK K); ((try simp only [Act.put, p1_, p2_, p3_])); ((refine tk_ (i := 6) (v := ?_) (y := Or.inl ⟨by rfl, ?_⟩) (h := ?_); rotate_left; (focus (((intro w hSw; (try dsimp only at hSw); go_simp) <;> (try with_reducible rfl)); done)); (try simp only [Act.put, p1_, p2_, p3_]))); (refine wpAnyH_done (by kernel_rfl) ?_ _)))); (rotate_left 1); (exact AllReadyH.nil)))); (rotate_left 1); (exact AllReadyH.nil))
      have hvr := B3.of hR
      have hbw8 : Below wo.heap.size wo w8 := HB0.out.trans (CT.under hct (by omega))
      have KM : OR w8 (wo.heap.size + 1) (.slice Am nm cm) ys := OR.mono ho (by omega)
      have KB : OR w8 (wo.heap.size + 1) (.slice Ab nb cb) bs := OR.mono hob2 (by omega)
      go_wp2_with fail
      refine ret_MB (b := wo.heap.size) (r := R) (c := C) (A := Am) (n := nm) (cap := cm) Try.results95 rfl (Kb hvr) rfl ?_
      exact ⟨R, C, Am, nm, cm, ys, Ab, nb, cb, bs, rfl, OR.mono (B := wo.heap.size + 1) (Ko KM) (by omega), OR.mono (B := wo.heap.size + 1) (Ko KB) (by omega), by omega, by omega, Kw⟩
    · go_wp2_with fail
      refine (spec_l3Draw1 b n cap A xs C 5 _ (CT.self (w0 := w) (B := wo.heap.size) (by (with_reducible (repeat (first | exact hct | refine CT.drew ?_ | refine CT.drewN ?_ _ | refine CT.alloc ?_ _ | refine CT.far ?_ Ks _ | refine CT.below ?_ (by assumption) Ks))))) hC24 (by omega)).mono ?_
      rintro e w5 ⟨v, rfl, ⟨Ax, nx, cx, zs, rfl, hox, hlx, hbx⟩, hc1⟩
      have hlx2 := OR.lenEq (xs := zs) hox
      have M2 : IsM C 1 zs := ⟨by omega, by omega, by omega, by omega, by rw [hlx, Int.mul_one], by
        rw [List.all_eq_true]
        intro z hz
        obtain ⟨k, hk, rfl⟩ := List.getElem_of_mem hz
        have := hbx k
        rw [show zs.getD k 0 = zs[k] by simp [List.getD, hk]] at this
        exact (isNum_iff _).2 ⟨by omega, by omega⟩⟩
      have HM2 := Lib.hid M2
      have HOX0 : OR w5 (w.heap.size + 1) (.slice Ax nx cx) zs := OR.mono (xs := zs) hox (by omega)
      have hb5 : b < w4.heap.size := hc1.hb
      have hct_1 : CT w w5 wo.heap.size b n cap A xs := CT.trans (by (with_reducible (repeat (first | exact hct | refine CT.drew ?_ | refine CT.drewN ?_ _ | refine CT.alloc ?_ _ | refine CT.far ?_ Ks _ | refine CT.below ?_ (by assumption) Ks)))) hc1; have hR_1 : BM w5 wo.heap.size 0 0 none 0 0 := BX.grown (Kb hR) hc1.gr (fun e => by injection e; omega); have hM_1 : BM w5 bM (R) (C) Am nm cm := BX.grown (Kb hM) hc1.gr (fun e => by injection e; omega); have ho_1 : OR w5 w.heap.size (.slice Am nm cm) ys := OR.turned (Ko ho) hc1 (by omega); clear oa ob oc of ol ra rb rc rf rl; clear hct hM hR ho; have hct := hct_1; have hM := hM_1; have hR := hR_1; have ho := ho_1; clear hct_1 hM_1 hR_1 ho_1; have hszw5 := hc1.size; (try simp at hszw5); clear hc1; obtain ⟨oa, ob, oc, of, ol⟩ := hM.mx; obtain ⟨ra, rb, rc, rf, rl⟩ := hR.mx
      have hnx : nx ≤ 1048576 := by omega
      clear hox hbx M2 hlx hlx2
      have hX : BM (w5.alloc (.cells #[.int .i64 C, .int .i64 1, .slice Ax nx cx] 26)) w5.heap.size C 1 Ax nx cx := Ka
      have hct6 : CT w (w5.alloc (.cells #[.int .i64 C, .int .i64 1, .slice Ax nx cx] 26)) wo.heap.size b n cap A xs := hct.alloc _
      have hR6 : BM (w5.alloc (.cells #[.int .i64 C, .int .i64 1, .slice Ax nx cx] 26)) wo.heap.size 0 0 none 0 0 := Kb hR
      have hM6 : BM (w5.alloc (.cells #[.int .i64 C, .int .i64 1, .slice Ax nx cx] 26)) bM R C Am nm cm := Kb hM
      have ho6 : OR (w5.alloc (.cells #[.int .i64 C, .int .i64 1, .slice Ax nx cx] 26)) w.heap.size (.slice Am nm cm) ys := ho.alloc _
      have hox6 : OR (w5.alloc (.cells #[.int .i64 C, .int .i64 1, .slice Ax nx cx] 26)) (w.heap.size + 1) (.slice Ax nx cx) zs := HOX0.alloc _
      have hs6 : w5.heap.size < (w5.alloc (.cells #[.int .i64 C, .int .i64 1, .slice Ax nx cx] 26)).heap.size := by simp
      clear oa ob oc of ol ra rb rc rf rl
      clear hct hR hM ho HOX0
      have hct := hct6
      have hR := hR6
      have hM := hM6
      have ho := ho6
      clear hct6 hR6 hM6 ho6
      obtain ⟨oa, ob, oc, of, ol⟩ := hM.mx; obtain ⟨ra, rb, rc, rf, rl⟩ := hR.mx
      obtain ⟨xa, xb, xc, xf, xl⟩ := hX.mx
      go_upto_region 5 with fail
      generalize (w5.alloc (.cells #[.int .i64 C, .int .i64 1, .slice Ax nx cx] 26)) = w6 at *
      generalize hbx : w5.heap.size = bX at *
      have hbX : bM < bX := by omega
      have hlX := hX.lt
      have ne3 : ¬ bX = wo.heap.size := by omega
      have ne4 : ¬ wo.heap.size = bX := by omega
      have ne5 : ¬ bX = bM := by omega
      have ne6 : ¬ bM = bX := by omega
      clear hbx
      ((refine wp_region_held_drew (S := (fun w' => w'.cell? ⟨bM, 0, none⟩ = some (.int .i64 R) ∧ w'.cell? ⟨bM, 1, none⟩ = some (.int .i64 C) ∧ w'.cell? ⟨bM, 2, none⟩ = some (.slice Am nm cm) ∧ w'.cell? ⟨bX, 0, none⟩ = some (.int .i64 C) ∧ w'.cell? ⟨bX, 1, none⟩ = some (.int .i64 1) ∧ w'.cell? ⟨bX, 2, none⟩ = some (.slice Ax nx cx))) (by kernel_rfl) ?_ (fun hHeld => ?_)); ((focus ((try dsimp only); ((first | (go_keep; done) | exact ⟨oa, ob, oc, xa, xb, xc⟩))))); ((refine tk_ (i := 0) (v := ?_) (y := Or.inl ⟨by rfl, ?_⟩) (h := ?_); rotate_left; (focus (((intro w hSw; (try dsimp only at hSw); go_simp) <;> (try with_reducible rfl)); done)); (try simp only [Act.put, p1_, p2_, p3_]))); ((refine tk_ (i := 1) (v := ?_) (y := Or.inl ⟨by rfl, ?_⟩) (h := ?_); rotate_left; (focus (((intro w hSw; (try dsimp only at hSw); go_simp) <;> (try with_reducible rfl)); done)); (try simp only [Act.put, p1_, p2_, p3_]))); ((refine tk_ (i := 2) (v := ?_) (y := Or.inl ⟨by rfl, ?_⟩) (h := ?_); rotate_left; (focus (((intro w hSw; (try dsimp only at hSw); go_simp) <;> (try with_reducible rfl)); done)); (try simp only [Act.put, p1_, p2_, p3_]))); (refine wpAnyH_ready (rs := [3]) (by kernel_rfl) (by simp) ?_); (refine AllReadyH.cons (by simp only [e1_, e2_, e3_]; try rfl) ?_ ?_); ((focus ((intro K hK); (go_simp); ((go_at_call 171; refine (spec_l3Mul1 R C Am Ax nm cm nx cx ys zs _ (B := w6.heap.size) (B' := w6.heap.size) (by have q := ho.reads; (with_reducible (repeat (first | exact q | refine RI.drew ?_ | refine RI.drewN ?_ _ | refine RI.a_ ?_ | refine RI.s_ ?_ | refine RI.b_ ?_)))) (by have q := hox6.reads; (with_reducible (repeat (first | exact q | refine RI.drew ?_ | refine RI.drewN ?_ _ | refine RI.a_ ?_ | refine RI.s_ ?_ | refine RI.b_ ?_)))) Ks Ks (by omega) hnx (isMat_iff.1 HM.out) HM2.out).mono ?_; rintro e w8 ⟨Ab, nb, cb, rfl, hob_, hb8⟩; have hsz8 := hb8.size; (try simp at hsz8); have hob : OR w8 (wo.heap.size + 1) (.slice Ab nb cb) (mulL ys R C zs 1) := OR.mono (xs := mulL ys R C zs 1) hob_ Ks; clear hob_; have hX_1 : BM w8 bX C 1 Ax nx cx := (Kb hX); have hct_1 : CT w w8 wo.heap.size b n cap A xs := (by (with_reducible (repeat (first | exact hct | refine CT.drew ?_ | refine CT.drewN ?_ _ | refine CT.alloc ?_ _ | refine CT.far ?_ Ks _ | refine CT.below ?_ (by assumption) Ks)))); have hR_1 : BM w8 wo.heap.size 0 0 none 0 0 := (Kb hR); have hM_1 : BM w8 bM (R) (C) Am nm cm := (Kb hM); have ho_1 : OR w8 w.heap.size (.slice Am nm cm) ys := (Ko ho); clear oa ob oc of ol ra rb rc rf rl; clear hct hM hR ho; have hct := hct_1; have hM := hM_1; have hR := hR_1; have ho := ho_1; clear hct_1 hM_1 hR_1 ho_1; obtain ⟨oa, ob, oc, of, ol⟩ := hM.mx; obtain ⟨ra, rb, rc, rf, rl⟩ := hR.mx; clear xa xb xc xf xl hX hb8; obtain ⟨xa, xb, xc, xf, xl⟩ := hX_1.mx)); ((try go_wp2_with fail)); (refine hK.out _ _ ?_ (fun hHeld => ?_)); ((focus ((try dsimp only); ((first | (go_keep; done) | exact ⟨oa, ob, oc, xa, xb, xc⟩))))); (clear hK K); ((try simp only [Act.put, p1_, p2_, p3_])); ((refine tk_ (i := 4) (v := ?_) (y := Or.inl ⟨by rfl, ?_⟩) (h := ?_); rotate_left; (focus (((intro w hSw; (try dsimp only at hSw); go_simp) <;> (try with_reducible rfl)); done)); (try simp only [Act.put, p1_, p2_, p3_]))); (refine wpAnyH_ready (rs := [5]) (by kernel_rfl) (by simp) ?_); (refine AllReadyH.cons (by simp only [e1_, e2_, e3_]; try rfl) ?_ ?_); ((focus ((intro K hK); (go_simp); ((try go_wp2_with fail)); (refine hK.out _ _ ?_ (fun hHeld => ?_)); ((focus ((try dsimp only); ((first | (go_keep; done) | exact ⟨oa, ob, oc, xa, xb, xc⟩))))); (clear hK K); ((try simp only [Act.put, p1_, p2_, p3_])); ((refine tk_ (i := 6) (v := ?_) (y := Or.inl ⟨by rfl, ?_⟩) (h := ?_); rotate_left; (focus (((intro w hSw; (try dsimp only at hSw); go_simp) <;> (try with_reducible rfl)); done)); (try simp only [Act.put, p1_, p2_, p3_]))); (refine wpAnyH_done (by kernel_rfl) ?_ _)))); (rotate_left 1); (exact AllReadyH.nil)))); (rotate_left 1); (exact AllReadyH.nil))
      have hvr := B3.of hR
      have hbw8 : Below wo.heap.size wo w8 := HB0.out.trans (CT.under hct (by omega))
      have KM : OR w8 (wo.heap.size + 1) (.slice Am nm cm) ys := OR.mono ho (by omega)
      go_wp2_with fail
      refine ret_MB (b := wo.heap.size) (r := R) (c := C) (A := Am) (n := nm) (cap := cm) Try.results95 rfl (Kb hvr) rfl ?_
      exact ⟨R, C, Am, nm, cm, ys, Ab, nb, cb, mulL ys R C zs 1, rfl, OR.mono (B := wo.heap.size + 1) (Ko KM) (by omega), OR.mono (B := wo.heap.size + 1) (Ko hob) (by omega), by omega, by rw [mulL_len]; omega, Kw⟩
theorem RB.more {w : World} {B B' n : Nat} {A : Option Addr} {xs : List Int} (h : RB w B A n xs) (hB : B ≤ B') : RB w B' A n xs :=
  ⟨h.1, fun hn => by
    obtain ⟨b, o, e, hb, hc⟩ := h.2.1 hn
    exact ⟨b, o, e, by omega, hc⟩, h.2.2⟩
end Go.Proofs.Ytacjonkehcamgaa

/-
  DERIVED. What is drawn for spaces: l6Unimodular, DrawSameSpace.
-/
namespace Go.Proofs.Ytacjonkehcamgaa
open Go.RowKit
set_option linter.unusedVariables false
set_option linter.unusedSimpArgs false
/-- A matrix with small cells. -/
def UniF (b : Nat) (f : Fn2) : Prop := ∀ x y, (f x y).natAbs ≤ b
theorem UniF.nb {b : Nat} {f : Fn2} (h : UniF b f) (hb : b ≤ 243) : NBF f := fun x y => .inr (by have := h x y; omega)
theorem UniF.ok {N b : Nat} {f : Fn2} (h : UniF b f) (hb : b ≤ 243) : OKF N N f := fun x y _ _ => by
  have := h x y
  exact ⟨by omega, by omega⟩
theorem UniF.start : UniF 1 idF := fun x y => by unfold idF; split <;> decide
theorem UniF.add {b k j : Nat} {f : Fn2} {t : Int} (h : UniF b f) (hb : b ≤ 81) (ht : -2 ≤ t ∧ t ≤ 2) : UniF (b * 3) (opA f k j t) := fun x y => by
  have h1 := h x y
  have h2 := h k y
  have h3 := h j y
  unfold opA
  split
  · have h4 : (f j y * t).natAbs ≤ b * 2 := by
      rw [Int.natAbs_mul]
      exact Nat.mul_le_mul h3 (show t.natAbs ≤ 2 by omega)
    generalize hm : f j y * t = m at *
    rw [mulF_num (by omega) (by omega), hm, fit_in (by omega), addB_num (by omega) (by omega), fit_in (by omega)]
    omega
  · omega
theorem UniF.swap {b i j : Nat} {f : Fn2} (h : UniF b f) : UniF (b * 3) (swF f i j) := fun x y => by have := h (if x = i then j else if x = j then i else x) y; unfold swF; omega
theorem UniF.neg {b i : Nat} {f : Fn2} (h : UniF b f) (hb : b ≤ 81) : UniF (b * 3) (opN f i) := fun x y => by
  have h1 := h x y
  have h2 := h i y
  unfold opN
  split
  · first | omega | (rw [mulF_num (by omega) (by omega), fit_in (by omega)]; omega) | (simp; omega)
  · omega
theorem UniF.mat {N b : Nat} {f : Fn2} (h : UniF b f) (hb : b ≤ 243) (hN : N ≤ 24) : IsM N N (tb N N f) :=
  ⟨by omega, by omega, by omega, by omega, by rw [tb_len]; simp, by
    rw [List.all_eq_true]
    exact tb_mem fun i j hi hj => (h.ok (N := N) hb i j hi hj).isN⟩
theorem uniJ {N k : Nat} {q : Int} (hk : k < N) (hN : 2 ≤ N) (hq : 0 ≤ q ∧ q < (N : Int) - 1) : ∃ j : Nat, ((k : Int) + 1 + q) % (N : Int) = j ∧ j < N ∧ k ≠ j := by
  have h1 := Int.emod_nonneg ((k : Int) + 1 + q) (show (N : Int) ≠ 0 by omega)
  have h2 := Int.emod_lt_of_pos ((k : Int) + 1 + q) (show (0 : Int) < N by omega)
  obtain ⟨j, hj⟩ := nat_of h1
  refine ⟨j, hj, by omega, fun e => ?_⟩
  subst e
  have h3 := Int.emod_add_mul_ediv ((k : Int) + 1 + q) N
  rw [hj] at h3
  generalize ((k : Int) + 1 + q) / N = d at h3
  have h4 : (N : Int) * d = 1 + q := by omega
  rcases Int.lt_or_le d 1 with hd | hd
  · have : (N : Int) * d ≤ 0 := by
      have := Int.mul_le_mul_of_nonneg_left (show d ≤ 0 by omega) (show (0 : Int) ≤ N by omega)
      simpa using this
    omega
  · have := Int.mul_le_mul_of_nonneg_left hd (show (0 : Int) ≤ N by omega)
    rw [Int.mul_one] at this
    omega
/-- A drawn unimodular matrix: small cells, its own. -/
def MUn (B0 N : Nat) (w' : World) (v : Value) : Prop := ∃ Am nm cm f, v = .agg #[.int .i64 N, .int .i64 N, .slice Am nm cm] ∧ OR w' B0 (.slice Am nm cm) (tb N N f) ∧ UniF 243 f
set_option maxRecDepth 100000 in
set_option maxHeartbeats 8000000 in
theorem spec_l6Unimodular (b n cap : Nat) (A : Option Addr) (xs : List Int) (N : Nat) (w : World) {B : Nat} (hct : CT w w B b n cap A xs) (hN : N ≤ 24) :
    Calls Try.prog 172 #[.pointer (some ⟨b, 0, none⟩), .int .i64 N] w (DRV (MUn w.heap.size N) B b n cap A xs w) := by
  have hb := hct.hb
  have hsz := hct.size
  go_enter Try.func172, Try.ntmps172
  go_wp2_with fail
  refine (spec_IdentityMatrix N _ hN).mono ?_
  rintro e w1 ⟨A1, n1, c1, rfl, ho1, hb1⟩
  have hs1 := hb1.size
  simp at hs1
  have hR1 : BM w1 w.heap.size 0 0 none 0 0 := Ka
  have hct1 : CT w w1 B b n cap A xs := by (with_reducible (repeat (first | exact hct | refine CT.drew ?_ | refine CT.drewN ?_ _ | refine CT.alloc ?_ _ | refine CT.far ?_ Ks _ | refine CT.below ?_ (by assumption) Ks)))
  have ho1' : OR w1 (w.heap.size + 1) (.slice A1 n1 c1) (tb N N idF) := OR.mono (xs := tb N N idF) ho1 (by simp)
  have HOW := Lib.hid ho1'.own
  have hM : BM (w1.alloc (.cells #[.int .i64 N, .int .i64 N, .slice A1 n1 c1] 26)) w1.heap.size N N A1 n1 c1 := Ka
  have hR : BM (w1.alloc (.cells #[.int .i64 N, .int .i64 N, .slice A1 n1 c1] 26)) w.heap.size 0 0 none 0 0 := hR1.alloc _
  have hct2 : CT w (w1.alloc (.cells #[.int .i64 N, .int .i64 N, .slice A1 n1 c1] 26)) B b n cap A xs := hct1.alloc _
  have ho : OR (w1.alloc (.cells #[.int .i64 N, .int .i64 N, .slice A1 n1 c1] 26)) (w.heap.size + 1) (.slice A1 n1 c1) (tb N N idF) := ho1'.alloc _
  have hs2 : w1.heap.size < (w1.alloc (.cells #[.int .i64 N, .int .i64 N, .slice A1 n1 c1] 26)).heap.size := by simp
  clear hR1 ho1 ho1' hb1 hct hct1
  have hct := hct2
  clear hct2
  obtain ⟨oa, ob, oc, of, ol⟩ := hM.mx; obtain ⟨ra, rb, rc, rf, rl⟩ := hR.mx
  go_wp2_with fail
  generalize (w1.alloc (.cells #[.int .i64 N, .int .i64 N, .slice A1 n1 c1] 26)) = w2 at *
  have HBM : Hid (w1.heap.size = w1.heap.size ∧ w.heap.size + 1 ≤ w1.heap.size) := Lib.hid ⟨rfl, by omega⟩
  generalize w1.heap.size = bM at *
  have hlo := HBM.out.2
  refine (spec_l1Below b n cap A xs 6 _ (CT.self (w0 := w) (B := B) (by (with_reducible (repeat (first | exact hct | refine CT.drew ?_ | refine CT.drewN ?_ _ | refine CT.alloc ?_ _ | refine CT.far ?_ Ks _ | refine CT.below ?_ (by assumption) Ks)))))).mono ?_
  rintro e w3 ⟨v, rfl, ⟨k0, rfl, hk0, hk6⟩, hc1⟩
  have hsz3 := hc1.size
  have hct_1 : CT w w3 B b n cap A xs := CT.trans (by (with_reducible (repeat (first | exact hct | refine CT.drew ?_ | refine CT.drewN ?_ _ | refine CT.alloc ?_ _ | refine CT.far ?_ Ks _ | refine CT.below ?_ (by assumption) Ks)))) hc1
  have hR_1 : BM w3 w.heap.size 0 0 none 0 0 := BX.grown (Kb hR) hc1.gr (fun e => by injection e; omega)
  have hM_1 : BM w3 bM N N A1 n1 c1 := BX.grown (Kb hM) hc1.gr (fun e => by injection e; omega)
  have ho_1 : OR w3 (w.heap.size + 1) (.slice A1 n1 c1) (tb N N idF) := OR.turned (Ko ho) hc1 (by omega)
  clear oa ob oc of ol ra rb rc rf rl
  clear hct hM hR ho hc1
  have hct := hct_1
  have hM := hM_1
  have hR := hR_1
  have ho := ho_1
  clear hct_1 hM_1 hR_1 ho_1
  obtain ⟨oa, ob, oc, of, ol⟩ := hM.mx; obtain ⟨ra, rb, rc, rf, rl⟩ := hR.mx
  obtain ⟨k1, rfl⟩ := nat_of hk0
  have hk5 : k1 ≤ 5 := by omega
  clear hk0 hk6
  go_wp2_with fail
  go_loopw [7] (fun v wr => ∃ (k : Nat) (f : Fn2), v = .int .i64 k ∧ k ≤ 5 ∧ UniF (3 ^ (5 - k)) f ∧ BM wr w.heap.size 0 0 none 0 0 ∧ BM wr bM N N A1 n1 c1 ∧ OR wr (w.heap.size + 1) (.slice A1 n1 c1) (tb N N f) ∧ CT w wr B b n cap A xs) (fun v _ => (intOf v).toNat)
  case atStart => exact ⟨k1, idF, rfl, hk5, fun x y => Nat.le_trans (UniF.start x y) (Nat.one_le_pow _ _ (by omega)), Kb hR, Kb hM, Ko ho, by (with_reducible (repeat (first | exact hct | refine CT.drew ?_ | refine CT.drewN ?_ _ | refine CT.alloc ?_ _ | refine CT.far ?_ Ks _ | refine CT.below ?_ (by assumption) Ks)))⟩
  case round =>
    clear hct hM hR ho oa ob oc of ol ra rb rc rf rl
    obtain ⟨k, f, rfl, hk, hF, hR, hM, ho, hct⟩ := hrel
    have hsw := hct.size
    have hlM := hM.lt
    have HF := Lib.hid hF
    clear hF
    obtain ⟨oa, ob, oc, of, ol⟩ := hM.mx; obtain ⟨ra, rb, rc, rf, rl⟩ := hR.mx
    by_cases hgo : 0 < k ∧ 1 < N
    · obtain ⟨g1, g2⟩ := hgo
      obtain ⟨k', rfl⟩ : ∃ k', k = k' + 1 := ⟨k - 1, by omega⟩
      have hpw : 3 ^ (5 - (k' + 1)) ≤ 81 := by have := Nat.pow_le_pow_right (show 0 < 3 by omega) (show 5 - (k' + 1) ≤ 4 by omega); omega
      have hpe : 3 ^ (5 - k') = 3 ^ (5 - (k' + 1)) * 3 := by rw [← Nat.pow_succ]; congr 1; omega
      have HPE := Lib.hid hpe
      clear hpe
      have hN1 : IntKind.i64.wrap ((N : Int) - 1) = (N : Int) - 1 := IntWalk.i64_in _ (by omega)
      have hN0 : ¬ (N : Int) = 0 := by omega
      go_wp2_with fail
      refine (spec_l1Below b n cap A xs N _ (CT.self (w0 := w) (B := B) (by (with_reducible (repeat (first | exact hct | refine CT.drew ?_ | refine CT.drewN ?_ _ | refine CT.alloc ?_ _ | refine CT.far ?_ Ks _ | refine CT.below ?_ (by assumption) Ks)))))).mono ?_
      rintro e w4 ⟨v, rfl, ⟨i0, rfl, hi0, hi1⟩, hc1⟩
      have hszw4 := hc1.size; (try simp at hszw4); have hct_1 : CT w w4 B b n cap A xs := CT.trans (by (with_reducible (repeat (first | exact hct | refine CT.drew ?_ | refine CT.drewN ?_ _ | refine CT.alloc ?_ _ | refine CT.far ?_ Ks _ | refine CT.below ?_ (by assumption) Ks)))) hc1; have hR_1 : BM w4 w.heap.size 0 0 none 0 0 := BX.grown (Kb hR) hc1.gr (fun e => by injection e; omega); have hM_1 : BM w4 bM N N A1 n1 c1 := BX.grown (Kb hM) hc1.gr (fun e => by injection e; omega); have ho_1 : OR w4 (w.heap.size + 1) (.slice A1 n1 c1) (tb N N f) := OR.turned (Ko ho) hc1 (by omega); clear oa ob oc of ol ra rb rc rf rl; clear hct hM hR ho; have hct := hct_1; have hM := hM_1; have hR := hR_1; have ho := ho_1; clear hct_1 hM_1 hR_1 ho_1; obtain ⟨oa, ob, oc, of, ol⟩ := hM.mx; obtain ⟨ra, rb, rc, rf, rl⟩ := hR.mx
      clear hc1
      obtain ⟨i, rfl⟩ := nat_of hi0
      have hiN : i < N := by omega
      clear hi0 hi1
      go_wp2_with fail
      refine (spec_l1Below b n cap A xs 3 _ (CT.self (w0 := w) (B := B) (by (with_reducible (repeat (first | exact hct | refine CT.drew ?_ | refine CT.drewN ?_ _ | refine CT.alloc ?_ _ | refine CT.far ?_ Ks _ | refine CT.below ?_ (by assumption) Ks)))))).mono ?_
      rintro e w5 ⟨v, rfl, ⟨kd, rfl, hd0, hd3⟩, hc1⟩
      have hszw5 := hc1.size; (try simp at hszw5); have hct_1 : CT w w5 B b n cap A xs := CT.trans (by (with_reducible (repeat (first | exact hct | refine CT.drew ?_ | refine CT.drewN ?_ _ | refine CT.alloc ?_ _ | refine CT.far ?_ Ks _ | refine CT.below ?_ (by assumption) Ks)))) hc1; have hR_1 : BM w5 w.heap.size 0 0 none 0 0 := BX.grown (Kb hR) hc1.gr (fun e => by injection e; omega); have hM_1 : BM w5 bM N N A1 n1 c1 := BX.grown (Kb hM) hc1.gr (fun e => by injection e; omega); have ho_1 : OR w5 (w.heap.size + 1) (.slice A1 n1 c1) (tb N N f) := OR.turned (Ko ho) hc1 (by omega); clear oa ob oc of ol ra rb rc rf rl; clear hct hM hR ho; have hct := hct_1; have hM := hM_1; have hR := hR_1; have ho := ho_1; clear hct_1 hM_1 hR_1 ho_1; obtain ⟨oa, ob, oc, of, ol⟩ := hM.mx; obtain ⟨ra, rb, rc, rf, rl⟩ := hR.mx
      clear hc1
      have hw6 : IntKind.i64.wrap ((i : Int) + 1) = (i : Int) + 1 := IntWalk.i64_in _ (by omega)
      go_wp2_with fail
      refine (spec_l1Below b n cap A xs ((N : Int) - 1) _ (CT.self (w0 := w) (B := B) (by (with_reducible (repeat (first | exact hct | refine CT.drew ?_ | refine CT.drewN ?_ _ | refine CT.alloc ?_ _ | refine CT.far ?_ Ks _ | refine CT.below ?_ (by assumption) Ks)))))).mono ?_
      rintro e w6 ⟨v, rfl, ⟨q, rfl, hq0, hq1⟩, hc1⟩
      have hszw6 := hc1.size; (try simp at hszw6); have hct_1 : CT w w6 B b n cap A xs := CT.trans (by (with_reducible (repeat (first | exact hct | refine CT.drew ?_ | refine CT.drewN ?_ _ | refine CT.alloc ?_ _ | refine CT.far ?_ Ks _ | refine CT.below ?_ (by assumption) Ks)))) hc1; have hR_1 : BM w6 w.heap.size 0 0 none 0 0 := BX.grown (Kb hR) hc1.gr (fun e => by injection e; omega); have hM_1 : BM w6 bM N N A1 n1 c1 := BX.grown (Kb hM) hc1.gr (fun e => by injection e; omega); have ho_1 : OR w6 (w.heap.size + 1) (.slice A1 n1 c1) (tb N N f) := OR.turned (Ko ho) hc1 (by omega); clear oa ob oc of ol ra rb rc rf rl; clear hct hM hR ho; have hct := hct_1; have hM := hM_1; have hR := hR_1; have ho := ho_1; clear hct_1 hM_1 hR_1 ho_1; obtain ⟨oa, ob, oc, of, ol⟩ := hM.mx; obtain ⟨ra, rb, rc, rf, rl⟩ := hR.mx
      clear hc1
      obtain ⟨j, hj, hjN, hij⟩ := uniJ hiN (by omega) ⟨hq0, by omega⟩
      have hj2 : ((i : Int) + 1 + q).tmod (N : Int) = j := by rw [Int.tmod_eq_emod_of_nonneg (by omega)]; exact hj
      have hw7 : IntKind.i64.wrap ((i : Int) + 1 + q) = (i : Int) + 1 + q := IntWalk.i64_in _ (by omega)
      have hk1 : IntKind.i64.wrap (((k' + 1 : Nat) : Int) - 1) = (k' : Int) := by rw [show ((k' + 1 : Nat) : Int) - 1 = (k' : Int) by omega]; exact IntWalk.i64_in _ (by omega)
      have hlM6 := hM.lt
      have hlR6 := hR.lt
      have z6 : ¬ Value.ownBlock (.slice A1 n1 c1) = some w6.heap.size := fun e => by have := (HOW.out _ e).2; omega
      have ne1 : ¬ bM = w6.heap.size := by omega
      have ne2 : ¬ w6.heap.size = bM := by omega
      have ne3 : ¬ w.heap.size = w6.heap.size := by omega
      have ne4 : ¬ w6.heap.size = w.heap.size := by omega
      clear hj
      rcases (show kd = 0 ∨ kd = 1 ∨ kd = 2 by omega) with e1 | e1 | e1
      · subst e1
        go_wp2_with fail
        refine (spec_l5Do_swap N N i j 0 A1 n1 c1 f _ (B := w.heap.size + 1) (Ko ho) hiN hjN hij (by omega) (by omega) hN).mono ?_
        rintro e w9 ⟨rfl, ho9, hg9, hsz9⟩; (try simp at hsz9); have hct9 : CT w w9 B b n cap A xs := CT.own (v := .slice A1 n1 c1) (ys := tb N N f) (by (with_reducible (repeat (first | exact hct | refine CT.drew ?_ | refine CT.drewN ?_ _ | refine CT.alloc ?_ _ | refine CT.far ?_ Ks _ | refine CT.below ?_ (by assumption) Ks)))) hg9 (B1 := w.heap.size + 1) (by (repeat (first | (with_reducible exact ho) | (with_reducible refine OR.drew ?_) | (with_reducible refine OR.drewN ?_ _) | (with_reducible refine OR.alloc ?_ _) | (refine OR.far ?_ z6 _)))) (by omega); have hR9 : BM w9 w.heap.size 0 0 none 0 0 := BX.grown (Kb hR) hg9 (fun e => by have := (HOW.out _ e.symm).1; omega); have hM9 : BM w9 bM N N A1 n1 c1 := BX.grown (Kb hM) hg9 (fun e => by have := (HOW.out _ e.symm).2; omega); clear oa ob oc of ol ra rb rc rf rl; clear hct hM hR ho hg9; obtain ⟨oa, ob, oc, of, ol⟩ := hM9.mx; obtain ⟨ra, rb, rc, rf, rl⟩ := hR9.mx
        go_wp2_with fail
        go_roundw
        case rel => exact ⟨k', swF f i j, by go_num, by omega, (by rw [HPE.out]; exact HF.out.swap), Kb hR9, Kb hM9, Ko ho9, by (have hct := hct9; (with_reducible (repeat (first | exact hct | refine CT.drew ?_ | refine CT.drewN ?_ _ | refine CT.alloc ?_ _ | refine CT.far ?_ Ks _ | refine CT.below ?_ (by assumption) Ks))))⟩
        case measure => simp only [intOf]; omega
      · subst e1
        go_wp2_with fail
        refine (spec_l5Do_neg N N i 0 A1 n1 c1 f _ (B := w.heap.size + 1) (Ko ho) hiN (fun y hy => HF.out.ok (N := N) (by omega) i y hiN hy) (by omega) hN hN).mono ?_
        rintro e w9 ⟨rfl, ho9, hg9, hsz9⟩; (try simp at hsz9); have hct9 : CT w w9 B b n cap A xs := CT.own (v := .slice A1 n1 c1) (ys := tb N N f) (by (with_reducible (repeat (first | exact hct | refine CT.drew ?_ | refine CT.drewN ?_ _ | refine CT.alloc ?_ _ | refine CT.far ?_ Ks _ | refine CT.below ?_ (by assumption) Ks)))) hg9 (B1 := w.heap.size + 1) (by (repeat (first | (with_reducible exact ho) | (with_reducible refine OR.drew ?_) | (with_reducible refine OR.drewN ?_ _) | (with_reducible refine OR.alloc ?_ _) | (refine OR.far ?_ z6 _)))) (by omega); have hR9 : BM w9 w.heap.size 0 0 none 0 0 := BX.grown (Kb hR) hg9 (fun e => by have := (HOW.out _ e.symm).1; omega); have hM9 : BM w9 bM N N A1 n1 c1 := BX.grown (Kb hM) hg9 (fun e => by have := (HOW.out _ e.symm).2; omega); clear oa ob oc of ol ra rb rc rf rl; clear hct hM hR ho hg9; obtain ⟨oa, ob, oc, of, ol⟩ := hM9.mx; obtain ⟨ra, rb, rc, rf, rl⟩ := hR9.mx
        go_wp2_with fail
        go_roundw
        case rel => exact ⟨k', opN f i, by go_num, by omega, (by rw [HPE.out]; exact HF.out.neg hpw), Kb hR9, Kb hM9, Ko ho9, by (have hct := hct9; (with_reducible (repeat (first | exact hct | refine CT.drew ?_ | refine CT.drewN ?_ _ | refine CT.alloc ?_ _ | refine CT.far ?_ Ks _ | refine CT.below ?_ (by assumption) Ks))))⟩
        case measure => simp only [intOf]; omega
      · subst e1
        go_wp2_with fail
        refine (spec_l1Below b n cap A xs 5 _ (CT.self (w0 := w) (B := B) (by (with_reducible (repeat (first | exact hct | refine CT.drew ?_ | refine CT.drewN ?_ _ | refine CT.alloc ?_ _ | refine CT.far ?_ Ks _ | refine CT.below ?_ (by assumption) Ks)))))).mono ?_
        rintro e w7 ⟨v, rfl, ⟨ti, rfl, ht0, ht5⟩, hc1⟩
        have hX7 : Blk w7 w6.heap.size 66 #[.int .i64 2, .int .i64 i, .int .i64 j, .int .i64 0] := Blk.grown (by (with_reducible (repeat (first | assumption | refine Blk.new_at _ _ _ _ Ks | refine Blk.below ?_ (by assumption) Ks | apply Blk.drew | apply Blk.drewN | refine Blk.far ?_ (by simp only [ne_eq]; omega) _ | apply Blk.alloc)))) hc1.gr (fun e => by injection e; omega)
        have hszw7 := hc1.size; (try simp at hszw7); have hct_1 : CT w w7 B b n cap A xs := CT.trans (by (with_reducible (repeat (first | exact hct | refine CT.drew ?_ | refine CT.drewN ?_ _ | refine CT.alloc ?_ _ | refine CT.far ?_ Ks _ | refine CT.below ?_ (by assumption) Ks)))) hc1; have hR_1 : BM w7 w.heap.size 0 0 none 0 0 := BX.grown (Kb hR) hc1.gr (fun e => by injection e; omega); have hM_1 : BM w7 bM N N A1 n1 c1 := BX.grown (Kb hM) hc1.gr (fun e => by injection e; omega); have ho_1 : OR w7 (w.heap.size + 1) (.slice A1 n1 c1) (tb N N f) := OR.turned (Ko ho) hc1 (by omega); clear oa ob oc of ol ra rb rc rf rl; clear hct hM hR ho; have hct := hct_1; have hM := hM_1; have hR := hR_1; have ho := ho_1; clear hct_1 hM_1 hR_1 ho_1; obtain ⟨oa, ob, oc, of, ol⟩ := hM.mx; obtain ⟨ra, rb, rc, rf, rl⟩ := hR.mx
        clear hc1
        have xa := hX7.cell 0
        have xb := hX7.cell 1
        have xc := hX7.cell 2
        have xd := hX7.cell 3
        have xf := hX7.frozen
        have xl := hX7.lt
        simp at xa xb xc xd
        have hw8 : IntKind.i64.wrap (ti - 2) = ti - 2 := IntWalk.i64_in _ (by omega)
        go_wp2_with fail
        refine (spec_l5Do_add N N i j (ti - 2) A1 n1 c1 f _ (B := w.heap.size + 1) (by (repeat (first | (with_reducible exact ho) | (with_reducible refine OR.drew ?_) | (with_reducible refine OR.drewN ?_ _) | (with_reducible refine OR.alloc ?_ _) | (refine OR.far ?_ z6 _)))) hiN hjN hij ⟨by omega, by omega⟩ (HF.out.nb (by omega)) (by omega) hN hN).mono ?_
        rintro e w9 ⟨rfl, ho9, hg9, hsz9⟩; (try simp at hsz9); have hct9 : CT w w9 B b n cap A xs := CT.own (v := .slice A1 n1 c1) (ys := tb N N f) (by (with_reducible (repeat (first | exact hct | refine CT.drew ?_ | refine CT.drewN ?_ _ | refine CT.alloc ?_ _ | refine CT.far ?_ Ks _ | refine CT.below ?_ (by assumption) Ks)))) hg9 (B1 := w.heap.size + 1) (by (repeat (first | (with_reducible exact ho) | (with_reducible refine OR.drew ?_) | (with_reducible refine OR.drewN ?_ _) | (with_reducible refine OR.alloc ?_ _) | (refine OR.far ?_ z6 _)))) (by omega); have hR9 : BM w9 w.heap.size 0 0 none 0 0 := BX.grown (Kb hR) hg9 (fun e => by have := (HOW.out _ e.symm).1; omega); have hM9 : BM w9 bM N N A1 n1 c1 := BX.grown (Kb hM) hg9 (fun e => by have := (HOW.out _ e.symm).2; omega); clear oa ob oc of ol ra rb rc rf rl; clear hct hM hR ho hg9; obtain ⟨oa, ob, oc, of, ol⟩ := hM9.mx; obtain ⟨ra, rb, rc, rf, rl⟩ := hR9.mx
        go_wp2_with fail
        go_roundw
        case rel => exact ⟨k', opA f i j (ti - 2), by go_num, by omega, (by rw [HPE.out]; exact HF.out.add hpw (by omega)), Kb hR9, Kb hM9, Ko ho9, by (have hct := hct9; (with_reducible (repeat (first | exact hct | refine CT.drew ?_ | refine CT.drewN ?_ _ | refine CT.alloc ?_ _ | refine CT.far ?_ Ks _ | refine CT.below ?_ (by assumption) Ks))))⟩
        case measure => simp only [intOf]; omega
    · have hvr := B3.of hR
      have hfin : 3 ^ (5 - k) ≤ 243 := by have := Nat.pow_le_pow_right (show 0 < 3 by omega) (show 5 - k ≤ 5 by omega); omega
      have ne1 : ¬ bM = w.heap.size := by omega
      have ne2 : ¬ w.heap.size = bM := by omega
      by_cases k0 : 0 < k
      · have k3 : ¬ 1 < N := fun h => hgo ⟨k0, h⟩
        clear hgo
        go_wp2_with fail
        refine ret_M (b := w.heap.size) Try.results172 rfl (by first | exact BX.put hvr | (with_reducible (repeat (first | exact hvr | refine BX.n_ | refine BX.b_ ?_ | apply BX.drew | apply BX.drewN | refine BX.put ?_ | refine BX.put2 ?_ | refine BX.f_ ?_ | apply BX.alloc | refine B3.n_ | exact B3.of hvr | refine B3.b_ ?_ | apply B3.drew | apply B3.drewN | refine B3.f_ ?_ | apply B3.alloc)))) rfl ?_
        exact ⟨_, rfl, ⟨A1, n1, c1, f, rfl, OR.mono (B := w.heap.size + 1) (Ko ho) (by omega), fun x y => Nat.le_trans (HF.out x y) hfin⟩, by (with_reducible (repeat (first | exact hct | refine CT.drew ?_ | refine CT.drewN ?_ _ | refine CT.alloc ?_ _ | refine CT.far ?_ Ks _ | refine CT.below ?_ (by assumption) Ks)))⟩
      · have k3 : k ≤ 0 := by omega
        clear hgo
        go_wp2_with fail
        refine ret_M (b := w.heap.size) Try.results172 rfl (by first | exact BX.put hvr | (with_reducible (repeat (first | exact hvr | refine BX.n_ | refine BX.b_ ?_ | apply BX.drew | apply BX.drewN | refine BX.put ?_ | refine BX.put2 ?_ | refine BX.f_ ?_ | apply BX.alloc | refine B3.n_ | exact B3.of hvr | refine B3.b_ ?_ | apply B3.drew | apply B3.drewN | refine B3.f_ ?_ | apply B3.alloc)))) rfl ?_
        exact ⟨_, rfl, ⟨A1, n1, c1, f, rfl, OR.mono (B := w.heap.size + 1) (Ko ho) (by omega), fun x y => Nat.le_trans (HF.out x y) hfin⟩, by (with_reducible (repeat (first | exact hct | refine CT.drew ?_ | refine CT.drewN ?_ _ | refine CT.alloc ?_ _ | refine CT.far ?_ Ks _ | refine CT.below ?_ (by assumption) Ks)))⟩
end Go.Proofs.Ytacjonkehcamgaa

/-
  DERIVED. What is drawn for spaces: DrawSameSpace.
-/
namespace Go.Proofs.Ytacjonkehcamgaa
open Go.RowKit
set_option linter.unusedVariables false
set_option linter.unusedSimpArgs false
/-- The call drew two matrices, their cells their own. -/
def DSP (wo : World) (e : Ending) (w' : World) : Prop := ∃ (r c : Int) (Am : Option Addr) (nm cm : Nat) (ys : List Int) (r2 c2 : Int) (A2 : Option Addr) (n2 cap2 : Nat) (zs : List Int), e = .returned (.tuple #[.agg #[.int .i64 r, .int .i64 c, .slice Am nm cm], .agg #[.int .i64 r2, .int .i64 c2, .slice A2 n2 cap2]]) ∧ OR w' wo.heap.size (.slice Am nm cm) ys ∧ OR w' wo.heap.size (.slice A2 n2 cap2) zs ∧ ys.length ≤ 17 ∧ zs.length ≤ 17 ∧ Below wo.heap.size wo w'
theorem ret_MM {fn : Func} {R : Ending → World → Prop} {a : Act} {w : World} {t t' : Tmp} {b n cap b' n' cap' : Nat} {r c r' c' : Int} {A A' : Option Addr} (hr : fn.results = #[.cell t 26, .cell t' 26])
    (ht : a.tmps.getD t undef = .pointer (some ⟨b, 0, none⟩)) (ht' : a.tmps.getD t' undef = .pointer (some ⟨b', 0, none⟩)) (h : BM w b r c A n cap) (h' : BM w b' r' c' A' n' cap') (hd : a.defers = [])
    (hR : R (.returned (.tuple #[.agg #[.int .i64 r, .int .i64 c, .slice A n cap], .agg #[.int .i64 r', .int .i64 c', .slice A' n' cap']])) w) : bodyPost Try.prog fn R .ret a w :=
  bodyPost_ret (v := .tuple #[.agg #[.int .i64 r, .int .i64 c, .slice A n cap], .agg #[.int .i64 r', .int .i64 c', .slice A' n' cap']]) (by
    obtain ⟨r0, r1, r2, rf, rl⟩ := h.mx
    obtain ⟨s0, s1, s2, sf, sl⟩ := h'.mx
    simp only [Array.getD_eq_getD_getElem?] at ht ht'
    simp [results, hr, ht, ht', go_sem, r0, r1, r2, s0, s1, s2]) hd hR
set_option maxRecDepth 100000 in
set_option maxHeartbeats 8000000 in
theorem spec_DrawSameSpace (n cap : Nat) (A : Option Addr) (xs : List Int) (wo : World) (hby : RB wo wo.heap.size A n xs) (hn : n ≤ 2000000) :
    Calls Try.prog 72 #[.slice A n cap] wo (DSP wo) := by
  have HBY := Lib.hid hby
  clear hby
  go_enter Try.func72, Try.ntmps72
  go_wp2_with fail
  refine (spec_l1New n cap A xs _ (B := wo.heap.size) (by (with_reducible (repeat (first | exact HBY.out | refine RB.drew ?_ | refine RB.drewN ?_ _ | refine RB.alloc ?_ Ks _ | refine RB.setCell ?_ Ks _ | refine RB.below ?_ (by assumption) Ks)))) hn).mono ?_
  rintro e w ⟨b, rfl, hcu, hbs, hb2⟩
  have hsz2 := hb2.size
  simp at hsz2 hbs
  have hct : CT w w wo.heap.size b n cap A xs := CT.new hcu (by (with_reducible (repeat (first | exact HBY.out | refine RB.drew ?_ | refine RB.drewN ?_ _ | refine RB.alloc ?_ Ks _ | refine RB.setCell ?_ Ks _ | refine RB.below ?_ (by assumption) Ks)))) (by omega) hn
  have HB0 : Hid (Below wo.heap.size wo w) := Lib.hid Kw
  have hR0 : BM w wo.heap.size 0 0 none 0 0 := Ka
  have hS0 : BM w (wo.heap.size + 1) 0 0 none 0 0 := Ka
  have hb := hct.hb
  clear hb2 hcu
  go_wp2_with fail
  refine (spec_l3Any b n cap A xs _ (CT.self (w0 := w) (B := wo.heap.size) (by (with_reducible (repeat (first | exact hct | refine CT.drew ?_ | refine CT.drewN ?_ _ | refine CT.alloc ?_ _ | refine CT.far ?_ Ks _ | refine CT.below ?_ (by assumption) Ks)))))).mono ?_
  rintro e w1 ⟨v, rfl, ⟨r, c, Am, nm, cm, ys, rfl, ho1, hl1, hr1, hcc1⟩, hct1⟩
  have hsz1 := hct1.size
  have hR1 : BM w1 wo.heap.size 0 0 none 0 0 := hR0.grown hct1.gr (by simp; omega)
  have hS1 : BM w1 (wo.heap.size + 1) 0 0 none 0 0 := hS0.grown hct1.gr (by simp; omega)
  have hR : BM (w1.alloc (.cells #[.int .i64 r, .int .i64 c, .slice Am nm cm] 26)) wo.heap.size 0 0 none 0 0 := Kb hR1
  have hS : BM (w1.alloc (.cells #[.int .i64 r, .int .i64 c, .slice Am nm cm] 26)) (wo.heap.size + 1) 0 0 none 0 0 := Kb hS1
  have hM : BM (w1.alloc (.cells #[.int .i64 r, .int .i64 c, .slice Am nm cm] 26)) w1.heap.size r c Am nm cm := Ka
  have ho : OR (w1.alloc (.cells #[.int .i64 r, .int .i64 c, .slice Am nm cm] 26)) w.heap.size (.slice Am nm cm) ys := ho1.alloc _
  have hct2 : CT w (w1.alloc (.cells #[.int .i64 r, .int .i64 c, .slice Am nm cm] 26)) wo.heap.size b n cap A xs := hct1.alloc _
  have hln := ho1.lenEq
  have hln2 : nm ≤ 17 ∧ nm ≤ ys.length ∧ ys.length ≤ nm := by omega
  have hs5 : w1.heap.size < (w1.alloc (.cells #[.int .i64 r, .int .i64 c, .slice Am nm cm] 26)).heap.size := by simp
  clear hct hct1 hR0 hR1 hS0 hS1 ho1 hln
  have hct := hct2
  clear hct2
  obtain ⟨oa, ob, oc, of, ol⟩ := hM.mx; obtain ⟨ra, rb, rc, rf, rl⟩ := hR.mx; obtain ⟨sa, sb, sc, sf, sl⟩ := hS.mx
  go_wp2_with fail
  generalize (w1.alloc (.cells #[.int .i64 r, .int .i64 c, .slice Am nm cm] 26)) = w2 at *
  generalize hbm : w1.heap.size = bM at *
  have hwM : w.heap.size ≤ bM := by omega
  have ne1 : ¬ bM = wo.heap.size := by omega
  have ne2 : ¬ wo.heap.size = bM := by omega
  have ne3 : ¬ bM = wo.heap.size + 1 := by omega
  have ne4 : ¬ wo.heap.size + 1 = bM := by omega
  have ne5 : ¬ wo.heap.size = wo.heap.size + 1 := by omega
  have ne6 : ¬ wo.heap.size + 1 = wo.heap.size := by omega
  clear hbm
  rcases hm : isMat r c ys with _ | _
  · have HM := Lib.hid hm
    clear hm
    refine (spec_IsMatrix r c Am nm cm ys _ (C := w2.heap.size) ho.reads (Nat.le_refl _) (by omega)).mono ?_
    rw [HM.out]
    rintro e w3 ⟨rfl, hb3⟩
    have hsz3 := hb3.size
    have hct_1 : CT w w3 wo.heap.size b n cap A xs := (by (with_reducible (repeat (first | exact hct | refine CT.drew ?_ | refine CT.drewN ?_ _ | refine CT.alloc ?_ _ | refine CT.far ?_ Ks _ | refine CT.below ?_ (by assumption) Ks)))); have hR_1 : BM w3 wo.heap.size 0 0 none 0 0 := (Kb hR); have hS_1 : BM w3 (wo.heap.size + 1) 0 0 none 0 0 := (Kb hS); have hM_1 : BM w3 bM (r) (c) Am nm cm := (Kb hM); have ho_1 : OR w3 w.heap.size (.slice Am nm cm) ys := (Ko ho); clear oa ob oc of ol ra rb rc rf rl sa sb sc sf sl; clear hct hM hR hS ho; have hct := hct_1; have hM := hM_1; have hR := hR_1; have hS := hS_1; have ho := ho_1; clear hct_1 hM_1 hR_1 hS_1 ho_1; obtain ⟨oa, ob, oc, of, ol⟩ := hM.mx; obtain ⟨ra, rb, rc, rf, rl⟩ := hR.mx; obtain ⟨sa, sb, sc, sf, sl⟩ := hS.mx
    clear hb3
    go_wp2_with fail
    ((refine wp_region_held_drew (S := (fun w' => w'.cell? ⟨bM, 0, none⟩ = some (.int .i64 (r)) ∧ w'.cell? ⟨bM, 1, none⟩ = some (.int .i64 (c)) ∧ w'.cell? ⟨bM, 2, none⟩ = some (.slice Am nm cm))) (by kernel_rfl) ?_ (fun hHeld => ?_)); ((focus ((try dsimp only); ((first | (go_keep; done) | exact ⟨oa, ob, oc⟩ | (simp [go_sem, ne1, ne2, ne3, ne4, oa, ob, oc]; done)))))); ((refine tk_ (i := 0) (v := ?_) (y := Or.inl ⟨by rfl, ?_⟩) (h := ?_); rotate_left; (focus (((intro w hSw; (try dsimp only at hSw); go_simp) <;> (try with_reducible rfl)); done)); (try simp only [Act.put, p1_, p2_, p3_]))); ((refine tk_ (i := 1) (v := ?_) (y := Or.inl ⟨by rfl, ?_⟩) (h := ?_); rotate_left; (focus (((intro w hSw; (try dsimp only at hSw); go_simp) <;> (try with_reducible rfl)); done)); (try simp only [Act.put, p1_, p2_, p3_]))); (refine wpAnyH_ready (rs := [2]) (by kernel_rfl) (by simp) ?_); (refine AllReadyH.cons (by simp only [e1_, e2_, e3_]; try rfl) ?_ ?_); ((focus ((intro K hK); (go_simp); ((go_at_call 137; refine (spec_l3Any b n cap A xs _ (CT.self (w0 := w) (B := wo.heap.size) (by (with_reducible (repeat (first | exact hct | refine CT.drew ?_ | refine CT.drewN ?_ _ | refine CT.alloc ?_ _ | refine CT.far ?_ Ks _ | refine CT.below ?_ (by assumption) Ks)))))).mono ?_; rintro e w8 ⟨v, rfl, ⟨r2, c2, A2, n2, cap2, zs, rfl, ho2, hl2, hr2, hcc2⟩, hc1⟩; have ho2_ : OR w8 (wo.heap.size + 1 + 1) (.slice A2 n2 cap2) zs := OR.mono ho2 Ks; clear ho2; have hct_1 : CT w w8 wo.heap.size b n cap A xs := CT.trans (by (with_reducible (repeat (first | exact hct | refine CT.drew ?_ | refine CT.drewN ?_ _ | refine CT.alloc ?_ _ | refine CT.far ?_ Ks _ | refine CT.below ?_ (by assumption) Ks)))) hc1; have hR_1 : BM w8 wo.heap.size 0 0 none 0 0 := BX.grown (Kb hR) hc1.gr (fun e => by injection e; omega); have hS_1 : BM w8 (wo.heap.size + 1) 0 0 none 0 0 := BX.grown (Kb hS) hc1.gr (fun e => by injection e; omega); have hM_1 : BM w8 bM ((r)) ((c)) Am nm cm := BX.grown (Kb hM) hc1.gr (fun e => by injection e; omega); have ho_1 : OR w8 w.heap.size (.slice Am nm cm) ys := OR.turned (Ko ho) hc1 (by omega); clear oa ob oc of ol ra rb rc rf rl sa sb sc sf sl; clear hct hM hR hS ho; have hct := hct_1; have hM := hM_1; have hR := hR_1; have hS := hS_1; have ho := ho_1; clear hct_1 hM_1 hR_1 hS_1 ho_1; have hszw8 := hc1.size; (try simp at hszw8); clear hc1; obtain ⟨oa, ob, oc, of, ol⟩ := hM.mx; obtain ⟨ra, rb, rc, rf, rl⟩ := hR.mx; obtain ⟨sa, sb, sc, sf, sl⟩ := hS.mx)); ((try go_wp2_with fail)); (refine hK.out _ _ ?_ (fun hHeld => ?_)); ((focus ((try dsimp only); ((first | (go_keep; done) | exact ⟨oa, ob, oc⟩ | (simp [go_sem, ne1, ne2, ne3, ne4, oa, ob, oc]; done)))))); (clear hK K); ((try simp only [Act.put, p1_, p2_, p3_])); (refine wpAnyH_ready (rs := [3]) (by kernel_rfl) (by simp) ?_); (refine AllReadyH.cons (by simp only [e1_, e2_, e3_]; try rfl) ?_ ?_); ((focus ((intro K hK); (go_simp); ((try go_wp2_with fail)); (refine hK.out _ _ ?_ (fun hHeld => ?_)); ((focus ((try dsimp only); ((first | (go_keep; done) | exact ⟨oa, ob, oc⟩ | (simp [go_sem, ne1, ne2, ne3, ne4, oa, ob, oc]; done)))))); (clear hK K); ((try simp only [Act.put, p1_, p2_, p3_])); (refine wpAnyH_ready (rs := [4]) (by kernel_rfl) (by simp) ?_); (refine AllReadyH.cons (by simp only [e1_, e2_, e3_]; try rfl) ?_ ?_); ((focus ((intro K hK); (go_simp); ((try go_wp2_with fail)); (refine hK.out _ _ ?_ (fun hHeld => ?_)); ((focus ((try dsimp only); ((first | (go_keep; done) | exact ⟨oa, ob, oc⟩ | (simp [go_sem, ne1, ne2, ne3, ne4, oa, ob, oc]; done)))))); (clear hK K); ((try simp only [Act.put, p1_, p2_, p3_])); (refine wpAnyH_done (by kernel_rfl) ?_ _)))); (rotate_left 1); (exact AllReadyH.nil)))); (rotate_left 1); (exact AllReadyH.nil)))); (rotate_left 1); (exact AllReadyH.nil))
    all_goals
      have hvr := B3.of hR
      have hvs := B3.of hS
      have hbw8 : Below wo.heap.size wo w8 := HB0.out.trans (CT.under hct (by omega))
      have KM : OR w8 (wo.heap.size + 1 + 1) (.slice Am nm cm) ys := OR.mono ho (by omega)
      go_wp2_with fail
      refine ret_MM (b := wo.heap.size) (b' := wo.heap.size + 1) (r := r) (c := c) (A := Am) (n := nm) (cap := cm) (r' := r2) (c' := c2) (A' := A2) (n' := n2) (cap' := cap2) Try.results72 rfl rfl (Kb hvr) (by first | exact BX.put hvs | (with_reducible (repeat (first | exact hvs | refine BX.n_ | refine BX.b_ ?_ | apply BX.drew | apply BX.drewN | refine BX.put ?_ | refine BX.put2 ?_ | refine BX.f_ ?_ | apply BX.alloc | refine B3.n_ | exact B3.of hvs | refine B3.b_ ?_ | apply B3.drew | apply B3.drewN | refine B3.f_ ?_ | apply B3.alloc)))) rfl ?_
      exact ⟨r, c, Am, nm, cm, ys, r2, c2, A2, n2, cap2, zs, rfl, OR.mono (B := wo.heap.size + 1 + 1) (Ko KM) (by omega), OR.mono (B := wo.heap.size + 1 + 1) (Ko ho2_) (by omega), by omega, by omega, Kw⟩
  · have M := isMat_iff.1 hm
    obtain ⟨R, rfl⟩ := nat_of M.r0
    obtain ⟨C, rfl⟩ := nat_of M.c0
    have hR24 : R ≤ 24 := by have := M.r1; omega
    have hC24 : C ≤ 24 := by have := M.c1; omega
    have hRC : R * C ≤ 17 := by have := M.len; rw [← Int.natCast_mul] at this; omega
    have HM := Lib.hid hm
    clear hm M
    refine (spec_IsMatrix R C Am nm cm ys _ (C := w2.heap.size) ho.reads (Nat.le_refl _) (by omega)).mono ?_
    rw [HM.out]
    rintro e w3 ⟨rfl, hb3⟩
    have hsz3 := hb3.size
    have hct_1 : CT w w3 wo.heap.size b n cap A xs := (by (with_reducible (repeat (first | exact hct | refine CT.drew ?_ | refine CT.drewN ?_ _ | refine CT.alloc ?_ _ | refine CT.far ?_ Ks _ | refine CT.below ?_ (by assumption) Ks)))); have hR_1 : BM w3 wo.heap.size 0 0 none 0 0 := (Kb hR); have hS_1 : BM w3 (wo.heap.size + 1) 0 0 none 0 0 := (Kb hS); have hM_1 : BM w3 bM (R) (C) Am nm cm := (Kb hM); have ho_1 : OR w3 w.heap.size (.slice Am nm cm) ys := (Ko ho); clear oa ob oc of ol ra rb rc rf rl sa sb sc sf sl; clear hct hM hR hS ho; have hct := hct_1; have hM := hM_1; have hR := hR_1; have hS := hS_1; have ho := ho_1; clear hct_1 hM_1 hR_1 hS_1 ho_1; obtain ⟨oa, ob, oc, of, ol⟩ := hM.mx; obtain ⟨ra, rb, rc, rf, rl⟩ := hR.mx; obtain ⟨sa, sb, sc, sf, sl⟩ := hS.mx
    clear hb3
    go_wp2_with fail
    refine (spec_l1Once b n cap A xs 2 _ (CT.self (w0 := w) (B := wo.heap.size) (by (with_reducible (repeat (first | exact hct | refine CT.drew ?_ | refine CT.drewN ?_ _ | refine CT.alloc ?_ _ | refine CT.far ?_ Ks _ | refine CT.below ?_ (by assumption) Ks)))))).mono ?_
    rintro e w4 ⟨v, rfl, ⟨q, rfl⟩, hc1⟩
    have hct_1 : CT w w4 wo.heap.size b n cap A xs := CT.trans (by (with_reducible (repeat (first | exact hct | refine CT.drew ?_ | refine CT.drewN ?_ _ | refine CT.alloc ?_ _ | refine CT.far ?_ Ks _ | refine CT.below ?_ (by assumption) Ks)))) hc1; have hR_1 : BM w4 wo.heap.size 0 0 none 0 0 := BX.grown (Kb hR) hc1.gr (fun e => by injection e; omega); have hS_1 : BM w4 (wo.heap.size + 1) 0 0 none 0 0 := BX.grown (Kb hS) hc1.gr (fun e => by injection e; omega); have hM_1 : BM w4 bM (R) (C) Am nm cm := BX.grown (Kb hM) hc1.gr (fun e => by injection e; omega); have ho_1 : OR w4 w.heap.size (.slice Am nm cm) ys := OR.turned (Ko ho) hc1 (by omega); clear oa ob oc of ol ra rb rc rf rl sa sb sc sf sl; clear hct hM hR hS ho; have hct := hct_1; have hM := hM_1; have hR := hR_1; have hS := hS_1; have ho := ho_1; clear hct_1 hM_1 hR_1 hS_1 ho_1; have hszw4 := hc1.size; (try simp at hszw4); clear hc1; obtain ⟨oa, ob, oc, of, ol⟩ := hM.mx; obtain ⟨ra, rb, rc, rf, rl⟩ := hR.mx; obtain ⟨sa, sb, sc, sf, sl⟩ := hS.mx
    rcases q with _ | _
    · go_wp2_with fail
      ((refine wp_region_held_drew (S := (fun w' => w'.cell? ⟨bM, 0, none⟩ = some (.int .i64 ((R : Int))) ∧ w'.cell? ⟨bM, 1, none⟩ = some (.int .i64 ((C : Int))) ∧ w'.cell? ⟨bM, 2, none⟩ = some (.slice Am nm cm))) (by kernel_rfl) ?_ (fun hHeld => ?_)); ((focus ((try dsimp only); ((first | (go_keep; done) | exact ⟨oa, ob, oc⟩ | (simp [go_sem, ne1, ne2, ne3, ne4, oa, ob, oc]; done)))))); ((refine tk_ (i := 0) (v := ?_) (y := Or.inl ⟨by rfl, ?_⟩) (h := ?_); rotate_left; (focus (((intro w hSw; (try dsimp only at hSw); go_simp) <;> (try with_reducible rfl)); done)); (try simp only [Act.put, p1_, p2_, p3_]))); ((refine tk_ (i := 1) (v := ?_) (y := Or.inl ⟨by rfl, ?_⟩) (h := ?_); rotate_left; (focus (((intro w hSw; (try dsimp only at hSw); go_simp) <;> (try with_reducible rfl)); done)); (try simp only [Act.put, p1_, p2_, p3_]))); (refine wpAnyH_ready (rs := [2]) (by kernel_rfl) (by simp) ?_); (refine AllReadyH.cons (by simp only [e1_, e2_, e3_]; try rfl) ?_ ?_); ((focus ((intro K hK); (go_simp); ((go_at_call 137; refine (spec_l3Any b n cap A xs _ (CT.self (w0 := w) (B := wo.heap.size) (by (with_reducible (repeat (first | exact hct | refine CT.drew ?_ | refine CT.drewN ?_ _ | refine CT.alloc ?_ _ | refine CT.far ?_ Ks _ | refine CT.below ?_ (by assumption) Ks)))))).mono ?_; rintro e w8 ⟨v, rfl, ⟨r2, c2, A2, n2, cap2, zs, rfl, ho2, hl2, hr2, hcc2⟩, hc1⟩; have ho2_ : OR w8 (wo.heap.size + 1 + 1) (.slice A2 n2 cap2) zs := OR.mono ho2 Ks; clear ho2; have hct_1 : CT w w8 wo.heap.size b n cap A xs := CT.trans (by (with_reducible (repeat (first | exact hct | refine CT.drew ?_ | refine CT.drewN ?_ _ | refine CT.alloc ?_ _ | refine CT.far ?_ Ks _ | refine CT.below ?_ (by assumption) Ks)))) hc1; have hR_1 : BM w8 wo.heap.size 0 0 none 0 0 := BX.grown (Kb hR) hc1.gr (fun e => by injection e; omega); have hS_1 : BM w8 (wo.heap.size + 1) 0 0 none 0 0 := BX.grown (Kb hS) hc1.gr (fun e => by injection e; omega); have hM_1 : BM w8 bM (((R : Int))) (((C : Int))) Am nm cm := BX.grown (Kb hM) hc1.gr (fun e => by injection e; omega); have ho_1 : OR w8 w.heap.size (.slice Am nm cm) ys := OR.turned (Ko ho) hc1 (by omega); clear oa ob oc of ol ra rb rc rf rl sa sb sc sf sl; clear hct hM hR hS ho; have hct := hct_1; have hM := hM_1; have hR := hR_1; have hS := hS_1; have ho := ho_1; clear hct_1 hM_1 hR_1 hS_1 ho_1; have hszw8 := hc1.size; (try simp at hszw8); clear hc1; obtain ⟨oa, ob, oc, of, ol⟩ := hM.mx; obtain ⟨ra, rb, rc, rf, rl⟩ := hR.mx; obtain ⟨sa, sb, sc, sf, sl⟩ := hS.mx)); ((try go_wp2_with fail)); (refine hK.out _ _ ?_ (fun hHeld => ?_)); ((focus ((try dsimp only); ((first | (go_keep; done) | exact ⟨oa, ob, oc⟩ | (simp [go_sem, ne1, ne2, ne3, ne4, oa, ob, oc]; done)))))); (clear hK K); ((try simp only [Act.put, p1_, p2_, p3_])); (refine wpAnyH_ready (rs := [3]) (by kernel_rfl) (by simp) ?_); (refine AllReadyH.cons (by simp only [e1_, e2_, e3_]; try rfl) ?_ ?_); ((focus ((intro K hK); (go_simp); ((try go_wp2_with fail)); (refine hK.out _ _ ?_ (fun hHeld => ?_)); ((focus ((try dsimp only); ((first | (go_keep; done) | exact ⟨oa, ob, oc⟩ | (simp [go_sem, ne1, ne2, ne3, ne4, oa, ob, oc]; done)))))); (clear hK K); ((try simp only [Act.put, p1_, p2_, p3_])); (refine wpAnyH_ready (rs := [4]) (by kernel_rfl) (by simp) ?_); (refine AllReadyH.cons (by simp only [e1_, e2_, e3_]; try rfl) ?_ ?_); ((focus ((intro K hK); (go_simp); ((try go_wp2_with fail)); (refine hK.out _ _ ?_ (fun hHeld => ?_)); ((focus ((try dsimp only); ((first | (go_keep; done) | exact ⟨oa, ob, oc⟩ | (simp [go_sem, ne1, ne2, ne3, ne4, oa, ob, oc]; done)))))); (clear hK K); ((try simp only [Act.put, p1_, p2_, p3_])); (refine wpAnyH_done (by kernel_rfl) ?_ _)))); (rotate_left 1); (exact AllReadyH.nil)))); (rotate_left 1); (exact AllReadyH.nil)))); (rotate_left 1); (exact AllReadyH.nil))
      all_goals
        have hvr := B3.of hR
        have hvs := B3.of hS
        have hbw8 : Below wo.heap.size wo w8 := HB0.out.trans (CT.under hct (by omega))
        have KM : OR w8 (wo.heap.size + 1 + 1) (.slice Am nm cm) ys := OR.mono ho (by omega)
        go_wp2_with fail
        refine ret_MM (b := wo.heap.size) (b' := wo.heap.size + 1) (r := (R : Int)) (c := (C : Int)) (A := Am) (n := nm) (cap := cm) (r' := r2) (c' := c2) (A' := A2) (n' := n2) (cap' := cap2) Try.results72 rfl rfl (Kb hvr) (by first | exact BX.put hvs | (with_reducible (repeat (first | exact hvs | refine BX.n_ | refine BX.b_ ?_ | apply BX.drew | apply BX.drewN | refine BX.put ?_ | refine BX.put2 ?_ | refine BX.f_ ?_ | apply BX.alloc | refine B3.n_ | exact B3.of hvs | refine B3.b_ ?_ | apply B3.drew | apply B3.drewN | refine B3.f_ ?_ | apply B3.alloc)))) rfl ?_
        exact ⟨(R : Int), (C : Int), Am, nm, cm, ys, r2, c2, A2, n2, cap2, zs, rfl, OR.mono (B := wo.heap.size + 1 + 1) (Ko KM) (by omega), OR.mono (B := wo.heap.size + 1 + 1) (Ko ho2_) (by omega), by omega, by omega, Kw⟩
    · go_wp2_with fail
      ((refine wp_region_held_drew (S := (fun w' => w'.cell? ⟨bM, 0, none⟩ = some (.int .i64 R) ∧ w'.cell? ⟨bM, 1, none⟩ = some (.int .i64 C) ∧ w'.cell? ⟨bM, 2, none⟩ = some (.slice Am nm cm))) (by kernel_rfl) ?_ (fun hHeld => ?_)); ((focus ((try dsimp only); ((first | (go_keep; done) | exact ⟨oa, ob, oc⟩ | (simp [go_sem, ne1, ne2, ne3, ne4, oa, ob, oc]; done)))))); ((refine tk_ (i := 0) (v := ?_) (y := Or.inl ⟨by rfl, ?_⟩) (h := ?_); rotate_left; (focus (((intro w hSw; (try dsimp only at hSw); go_simp) <;> (try with_reducible rfl)); done)); (try simp only [Act.put, p1_, p2_, p3_]))); ((refine tk_ (i := 1) (v := ?_) (y := Or.inl ⟨by rfl, ?_⟩) (h := ?_); rotate_left; (focus (((intro w hSw; (try dsimp only at hSw); go_simp) <;> (try with_reducible rfl)); done)); (try simp only [Act.put, p1_, p2_, p3_]))); ((refine tk_ (i := 2) (v := ?_) (y := Or.inl ⟨by rfl, ?_⟩) (h := ?_); rotate_left; (focus (((intro w hSw; (try dsimp only at hSw); go_simp) <;> (try with_reducible rfl)); done)); (try simp only [Act.put, p1_, p2_, p3_]))); ((refine tk_ (i := 3) (v := ?_) (y := Or.inl ⟨by rfl, ?_⟩) (h := ?_); rotate_left; (focus (((intro w hSw; (try dsimp only at hSw); go_simp) <;> (try with_reducible rfl)); done)); (try simp only [Act.put, p1_, p2_, p3_]))); ((refine tk_ (i := 5) (v := ?_) (y := Or.inl ⟨by rfl, ?_⟩) (h := ?_); rotate_left; (focus (((intro w hSw; (try dsimp only at hSw); go_simp) <;> (try with_reducible rfl)); done)); (try simp only [Act.put, p1_, p2_, p3_]))); (refine wpAnyH_ready (rs := [4]) (by kernel_rfl) (by simp) ?_); (refine AllReadyH.cons (by simp only [e1_, e2_, e3_]; try rfl) ?_ ?_); ((focus ((intro K hK); (go_simp); ((go_at_call 172; refine (spec_l6Unimodular b n cap A xs R _ (CT.self (w0 := w) (B := wo.heap.size) (by (with_reducible (repeat (first | exact hct | refine CT.drew ?_ | refine CT.drewN ?_ _ | refine CT.alloc ?_ _ | refine CT.far ?_ Ks _ | refine CT.below ?_ (by assumption) Ks))))) hR24).mono ?_; rintro e w7 ⟨v, rfl, ⟨Au, nu, cu, fu, rfl, hou, hUF⟩, hc1⟩; have hnu := OR.lenEq (xs := tb R R fu) hou; rw [tb_len] at hnu; have hRR := Nat.mul_le_mul hR24 hR24; have hnux : nu ≤ 1048576 := (by omega); have HU := Lib.hid (OR.reads (xs := tb R R fu) hou); have HUF := Lib.hid hUF; clear hou hUF hnu hRR; have hct_1 : CT w w7 wo.heap.size b n cap A xs := CT.trans (by (with_reducible (repeat (first | exact hct | refine CT.drew ?_ | refine CT.drewN ?_ _ | refine CT.alloc ?_ _ | refine CT.far ?_ Ks _ | refine CT.below ?_ (by assumption) Ks)))) hc1; have hR_1 : BM w7 wo.heap.size 0 0 none 0 0 := BX.grown (Kb hR) hc1.gr (fun e => by injection e; omega); have hS_1 : BM w7 (wo.heap.size + 1) 0 0 none 0 0 := BX.grown (Kb hS) hc1.gr (fun e => by injection e; omega); have hM_1 : BM w7 bM ((R : Int)) ((C : Int)) Am nm cm := BX.grown (Kb hM) hc1.gr (fun e => by injection e; omega); have ho_1 : OR w7 w.heap.size (.slice Am nm cm) ys := OR.turned (Ko ho) hc1 (by omega); clear oa ob oc of ol ra rb rc rf rl sa sb sc sf sl; clear hct hM hR hS ho; have hct := hct_1; have hM := hM_1; have hR := hR_1; have hS := hS_1; have ho := ho_1; clear hct_1 hM_1 hR_1 hS_1 ho_1; have hszw7 := hc1.size; (try simp at hszw7); clear hc1; obtain ⟨oa, ob, oc, of, ol⟩ := hM.mx; obtain ⟨ra, rb, rc, rf, rl⟩ := hR.mx; obtain ⟨sa, sb, sc, sf, sl⟩ := hS.mx)); ((try go_wp2_with fail)); (refine hK.out _ _ ?_ (fun hHeld => ?_)); ((focus ((try dsimp only); ((first | (go_keep; done) | exact ⟨oa, ob, oc⟩ | (simp [go_sem, ne1, ne2, ne3, ne4, oa, ob, oc]; done)))))); (clear hK K); ((try simp only [Act.put, p1_, p2_, p3_])); (refine wpAnyH_ready (rs := [6]) (by kernel_rfl) (by simp) ?_); (refine AllReadyH.cons (by simp only [e1_, e2_, e3_]; try rfl) ?_ ?_); ((focus ((intro K hK); (go_simp); ((go_at_call 171; refine (spec_l3Mul R R C Au Am nu cu nm cm (tb R R fu) ys _ (B := w7.heap.size) (B' := w7.heap.size) (Kr HU.out) (by have q := ho.reads; (with_reducible (repeat (first | exact q | refine RI.drew ?_ | refine RI.drewN ?_ _ | refine RI.a_ ?_ | refine RI.s_ ?_ | refine RI.b_ ?_)))) Ks Ks hnux (by omega) (HUF.out.mat (by omega) hR24) (isMat_iff.1 HM.out)).mono ?_; rintro e w8 ⟨A2, n2, cap2, rfl, ho2, hb8⟩; have hsz8 := hb8.size; (try simp at hsz8); have ho2_ : OR w8 (wo.heap.size + 1 + 1) (.slice A2 n2 cap2) (mulL (tb R R fu) R R ys C) := OR.mono (xs := mulL (tb R R fu) R R ys C) ho2 Ks; clear ho2; have hct_1 : CT w w8 wo.heap.size b n cap A xs := (by (with_reducible (repeat (first | exact hct | refine CT.drew ?_ | refine CT.drewN ?_ _ | refine CT.alloc ?_ _ | refine CT.far ?_ Ks _ | refine CT.below ?_ (by assumption) Ks)))); have hR_1 : BM w8 wo.heap.size 0 0 none 0 0 := (Kb hR); have hS_1 : BM w8 (wo.heap.size + 1) 0 0 none 0 0 := (Kb hS); have hM_1 : BM w8 bM ((R : Int)) ((C : Int)) Am nm cm := (Kb hM); have ho_1 : OR w8 w.heap.size (.slice Am nm cm) ys := (Ko ho); clear oa ob oc of ol ra rb rc rf rl sa sb sc sf sl; clear hct hM hR hS ho; have hct := hct_1; have hM := hM_1; have hR := hR_1; have hS := hS_1; have ho := ho_1; clear hct_1 hM_1 hR_1 hS_1 ho_1; obtain ⟨oa, ob, oc, of, ol⟩ := hM.mx; obtain ⟨ra, rb, rc, rf, rl⟩ := hR.mx; obtain ⟨sa, sb, sc, sf, sl⟩ := hS.mx; clear hb8)); ((try go_wp2_with fail)); (refine hK.out _ _ ?_ (fun hHeld => ?_)); ((focus ((try dsimp only); ((first | (go_keep; done) | exact ⟨oa, ob, oc⟩ | (simp [go_sem, ne1, ne2, ne3, ne4, oa, ob, oc]; done)))))); (clear hK K); ((try simp only [Act.put, p1_, p2_, p3_])); (refine wpAnyH_ready (rs := [7]) (by kernel_rfl) (by simp) ?_); (refine AllReadyH.cons (by simp only [e1_, e2_, e3_]; try rfl) ?_ ?_); ((focus ((intro K hK); (go_simp); ((try go_wp2_with fail)); (refine hK.out _ _ ?_ (fun hHeld => ?_)); ((focus ((try dsimp only); ((first | (go_keep; done) | exact ⟨oa, ob, oc⟩ | (simp [go_sem, ne1, ne2, ne3, ne4, oa, ob, oc]; done)))))); (clear hK K); ((try simp only [Act.put, p1_, p2_, p3_])); (refine wpAnyH_ready (rs := [8]) (by kernel_rfl) (by simp) ?_); (refine AllReadyH.cons (by simp only [e1_, e2_, e3_]; try rfl) ?_ ?_); ((focus ((intro K hK); (go_simp); ((try go_wp2_with fail)); (refine hK.out _ _ ?_ (fun hHeld => ?_)); ((focus ((try dsimp only); ((first | (go_keep; done) | exact ⟨oa, ob, oc⟩ | (simp [go_sem, ne1, ne2, ne3, ne4, oa, ob, oc]; done)))))); (clear hK K); ((try simp only [Act.put, p1_, p2_, p3_])); (refine wpAnyH_done (by kernel_rfl) ?_ _)))); (rotate_left 1); (exact AllReadyH.nil)))); (rotate_left 1); (exact AllReadyH.nil)))); (rotate_left 1); (exact AllReadyH.nil)))); (rotate_left 1); (exact AllReadyH.nil))
      all_goals
        have hvr := B3.of hR
        have hvs := B3.of hS
        have hbw8 : Below wo.heap.size wo w8 := HB0.out.trans (CT.under hct (by omega))
        have KM : OR w8 (wo.heap.size + 1 + 1) (.slice Am nm cm) ys := OR.mono ho (by omega)
        go_wp2_with fail
        refine ret_MM (b := wo.heap.size) (b' := wo.heap.size + 1) (r := (R : Int)) (c := (C : Int)) (A := Am) (n := nm) (cap := cm) (r' := (R : Int)) (c' := (C : Int)) (A' := A2) (n' := n2) (cap' := cap2) Try.results72 rfl rfl (Kb hvr) (by first | exact BX.put hvs | (with_reducible (repeat (first | exact hvs | refine BX.n_ | refine BX.b_ ?_ | apply BX.drew | apply BX.drewN | refine BX.put ?_ | refine BX.put2 ?_ | refine BX.f_ ?_ | apply BX.alloc | refine B3.n_ | exact B3.of hvs | refine B3.b_ ?_ | apply B3.drew | apply B3.drewN | refine B3.f_ ?_ | apply B3.alloc)))) rfl ?_
        exact ⟨(R : Int), (C : Int), Am, nm, cm, ys, (R : Int), (C : Int), A2, n2, cap2, _, rfl, OR.mono (B := wo.heap.size + 1 + 1) (Ko KM) (by omega), OR.mono (B := wo.heap.size + 1 + 1) (xs := mulL (tb R R fu) R R ys C) (Ko ho2_) (by omega), by omega, by rw [mulL_len]; exact hRC, Kw⟩
end Go.Proofs.Ytacjonkehcamgaa

/-
  DERIVED. The law FnSpaces: the rows of a matrix and combinations of them span one space exactly if the rank does not fall.
-/
namespace Go.Proofs.Ytacjonkehcamgaa
open Go.RowKit
set_option linter.unusedVariables false
set_option linter.unusedSimpArgs false
theorem sp_law {r c r2 c2 : Int} {ys zs : List Int} (h : ssOk r c ys r2 c2 zs = true) : ∃ (R S C : Nat) (s s2 : QSt), r = R ∧ c = C ∧ r2 = S ∧ c2 = C ∧ eoX R C ys = some s ∧ eoX S C zs = some s2 ∧ ∀ s3, eoX (R + S : Nat) C (ys ++ zs) = some s3 → ssB R C ys S C zs = (decide (s.ps.length = s3.ps.length) && decide (s2.ps.length = s3.ps.length)) := by
  have h0 := h
  unfold ssOk at h0
  rw [Bool.and_eq_true, Bool.and_eq_true] at h0
  obtain ⟨⟨h1, h2⟩, h3⟩ := h0
  have h3 := of_decide_eq_true h3
  obtain ⟨R, C, s, rfl, rfl, -, -, e1, -, -⟩ := eoX_some h1
  obtain ⟨S, C2, s2, rfl, rfl, -, -, e2, -, -⟩ := eoX_some h2
  obtain rfl : C = C2 := by omega
  refine ⟨R, S, C, s, s2, rfl, rfl, rfl, rfl, e1, e2, fun s3 hs3 => ?_⟩
  rw [← sp_all e1 e2 hs3]
  unfold ssB
  rw [h, e1, e2, Bool.true_and]
theorem ssB_no {r c r2 c2 : Int} {ys zs : List Int} (h : ssOk r c ys r2 c2 zs = false) : ssB r c ys r2 c2 zs = false := by unfold ssB; rw [h]; rfl
theorem stM_len (r c : Int) (xs : List Int) (r2 c2 : Int) (ys : List Int) : (stM r c xs r2 c2 ys).xs.length ≤ xs.length + ys.length := by
  unfold stM
  split
  · show (xs ++ ys).length ≤ _
    rw [List.length_append]; exact Nat.le_refl _
  · exact Nat.zero_le _
/-- What the ranks say. -/
theorem sp_end {R S C : Nat} {ys zs : List Int} {s s2 : QSt} {sv : Bool} (h : ∀ s3, eoX (R + S : Nat) C (ys ++ zs) = some s3 → sv = (decide (s.ps.length = s3.ps.length) && decide (s2.ps.length = s3.ps.length))) {m : Mx} (hm : stM R C ys S C zs = m) {f : Bool} (hf : stB R C ys S C zs = f) : f = false ∨ (eoX m.r m.c m.xs).isSome = false ∨ sv = (decide (s.ps.length = (psQ (eoX m.r m.c m.xs)).length) && decide (s2.ps.length = (psQ (eoX m.r m.c m.xs)).length)) := by
  rcases f with _ | _
  · exact .inl rfl
  · right
    have e : m = ⟨(R : Int) + S, C, ys ++ zs⟩ := by rw [← hm]; unfold stM; rw [hf]; rfl
    subst e
    dsimp only
    rw [show (R : Int) + (S : Int) = ((R + S : Nat) : Int) by omega]
    rcases hz : eoX (R + S : Nat) C (ys ++ zs) with _ | s3
    · exact .inl rfl
    · exact .inr (h s3 hz)
set_option maxRecDepth 100000 in
set_option maxHeartbeats 8000000 in
theorem law_FnSpaces (w : World) (A : Option Addr) (n cap : Nat) (xs : List Int) (hnc : n ≤ cap) (hcm : cap ≤ maxLen) (hby : RB w w.heap.size A n xs) :
    Calls Try.prog 10 #[.slice A n cap] w fun e w' => e = .returned (.bool true) ∧ Below w.heap.size w w' := by
  by_cases hn : 1048576 < n
  · go_enter Try.func10, Try.ntmps10
    go_wp2_with (go_at_call 15; refine (laws_big A n cap _).mono ?_; rintro e w1 ⟨rfl, rfl⟩)
    go_ret
    exact ⟨rfl, Below.refl _ _⟩
  · go_enter Try.func10, Try.ntmps10
    go_wp2_with (go_at_call 15; refine (laws_big A n cap _).mono ?_; rintro e w1 ⟨rfl, rfl⟩)
    refine (spec_DrawSameSpace n cap A xs _ hby (by omega)).mono ?_
    rintro e w1 ⟨r, c, A1, n1, c1, ys, r2, c2, A2, n2, cap2, zs, rfl, ho1, ho2, hl1, hl2, hbw0⟩
    have hsz := hbw0.size
    have e1 := ho1.lenEq
    have e2 := ho2.lenEq
    have hz : ∃ z, z = (w1.alloc (.cells #[.int .i64 r, .int .i64 c, .slice A1 n1 c1] 26)).alloc (.cells #[.int .i64 r2, .int .i64 c2, .slice A2 n2 cap2] 26) := ⟨_, rfl⟩
    have H1 : Hid (RI ((w1.alloc (.cells #[.int .i64 r, .int .i64 c, .slice A1 n1 c1] 26)).alloc (.cells #[.int .i64 r2, .int .i64 c2, .slice A2 n2 cap2] 26)) ((w1.alloc (.cells #[.int .i64 r, .int .i64 c, .slice A1 n1 c1] 26)).alloc (.cells #[.int .i64 r2, .int .i64 c2, .slice A2 n2 cap2] 26)).heap.size A1 n1 ys) := Lib.hid (((ho1.alloc _).alloc _).reads)
    have H2 : Hid (RI ((w1.alloc (.cells #[.int .i64 r, .int .i64 c, .slice A1 n1 c1] 26)).alloc (.cells #[.int .i64 r2, .int .i64 c2, .slice A2 n2 cap2] 26)) ((w1.alloc (.cells #[.int .i64 r, .int .i64 c, .slice A1 n1 c1] 26)).alloc (.cells #[.int .i64 r2, .int .i64 c2, .slice A2 n2 cap2] 26)).heap.size A2 n2 zs) := Lib.hid (((ho2.alloc _).alloc _).reads)
    have hM : BM ((w1.alloc (.cells #[.int .i64 r, .int .i64 c, .slice A1 n1 c1] 26)).alloc (.cells #[.int .i64 r2, .int .i64 c2, .slice A2 n2 cap2] 26)) w1.heap.size r c A1 n1 c1 := Ka
    have hN : BM ((w1.alloc (.cells #[.int .i64 r, .int .i64 c, .slice A1 n1 c1] 26)).alloc (.cells #[.int .i64 r2, .int .i64 c2, .slice A2 n2 cap2] 26)) (w1.heap.size + 1) r2 c2 A2 n2 cap2 := Ka
    have n1x : n1 ≤ 17 := by omega
    have n2x : n2 ≤ 17 := by omega
    have HB0 : Hid (Below w.heap.size w ((w1.alloc (.cells #[.int .i64 r, .int .i64 c, .slice A1 n1 c1] 26)).alloc (.cells #[.int .i64 r2, .int .i64 c2, .slice A2 n2 cap2] 26))) := Lib.hid ((hbw0.alloc hsz _).alloc (by simp; omega) _)
    clear hbw0 ho1 ho2 hby e1 e2 hz
    obtain ⟨ma, mb, mc, mf, ml⟩ := hM.mx
    obtain ⟨na, nb, nc, nf, nl⟩ := hN.mx
    go_wp2_with fail
    generalize ((w1.alloc (.cells #[.int .i64 r, .int .i64 c, .slice A1 n1 c1] 26)).alloc (.cells #[.int .i64 r2, .int .i64 c2, .slice A2 n2 cap2] 26)) = w0 at *
    generalize w1.heap.size = bM at *
    have hbw : Below w0.heap.size w0 w0 := Below.refl _ _
    have hs0 : w.heap.size ≤ w0.heap.size := by have := HB0.out.size; omega
    have hlM := hM.lt
    have hlN := hN.lt
    clear hsz
    rcases hk : ssOk r c ys r2 c2 zs with _ | _
    · have HK := Lib.hid hk
      have HS := Lib.hid (ssB_no hk)
      clear hk
      refine (impl_SameSpace r c r2 c2 A1 A2 n1 c1 n2 cap2 ys zs _ (B := w0.heap.size) (B' := w0.heap.size) (Kr H1.out) (Kr H2.out) Ks Ks (by omega) (by omega)).mono ?_
      rw [HK.out, HS.out]
      rintro e w2 ⟨rfl, hb2⟩
      have hszw2 := hb2.size; (try simp at hszw2); have hM_1 : BM w2 bM (r) (c) A1 n1 c1 := (Kb hM); have hN_1 : BM w2 (bM + 1) (r2) (c2) A2 n2 cap2 := (Kb hN); have H1_1 : Hid (RI w2 w0.heap.size A1 n1 ys) := Lib.hid (Kr H1.out); have H2_1 : Hid (RI w2 w0.heap.size A2 n2 zs) := Lib.hid (Kr H2.out); have hbw_1 : Below w0.heap.size w0 w2 := Kw; clear hM hN hbw H1 H2 ma mb mc mf ml na nb nc nf nl hb2; have hM := hM_1; have hN := hN_1; have H1 := H1_1; have H2 := H2_1; have hbw := hbw_1; clear hM_1 hN_1 H1_1 H2_1 hbw_1; obtain ⟨ma, mb, mc, mf, ml⟩ := hM.mx; obtain ⟨na, nb, nc, nf, nl⟩ := hN.mx
      go_wp2_with fail
      refine (spec_SameSpace r c r2 c2 A1 A2 n1 c1 n2 cap2 ys zs _ (B := w0.heap.size) (B' := w0.heap.size) (Kr H1.out) (Kr H2.out) Ks Ks (by omega) (by omega)).mono ?_
      rw [HK.out, HS.out]
      rintro e w3 ⟨rfl, hb3⟩
      have hszw3 := hb3.size; (try simp at hszw3); have hM_1 : BM w3 bM (r) (c) A1 n1 c1 := (Kb hM); have hN_1 : BM w3 (bM + 1) (r2) (c2) A2 n2 cap2 := (Kb hN); have H1_1 : Hid (RI w3 w0.heap.size A1 n1 ys) := Lib.hid (Kr H1.out); have H2_1 : Hid (RI w3 w0.heap.size A2 n2 zs) := Lib.hid (Kr H2.out); have hbw_1 : Below w0.heap.size w0 w3 := Kw; clear hM hN hbw H1 H2 ma mb mc mf ml na nb nc nf nl hb3; have hM := hM_1; have hN := hN_1; have H1 := H1_1; have H2 := H2_1; have hbw := hbw_1; clear hM_1 hN_1 H1_1 H2_1 hbw_1; obtain ⟨ma, mb, mc, mf, ml⟩ := hM.mx; obtain ⟨na, nb, nc, nf, nl⟩ := hN.mx
      go_wp2_with fail
      go_ret
      exact ⟨rfl, HB0.out.trans (Below.mono (B := w0.heap.size) Kw hs0)⟩
    · obtain ⟨R, S, C, s, s2, rfl, rfl, rfl, rfl, hx, hy, hlaw⟩ := sp_law hk
      obtain ⟨sv, hsv⟩ : ∃ q, ssB R C ys S C zs = q := ⟨_, rfl⟩
      rw [hsv] at hlaw
      have HK := Lib.hid hk
      have HS := Lib.hid hsv
      have HX := Lib.hid hx
      have HY := Lib.hid hy
      have HL := Lib.hid (fun m hm f hf => sp_end (s := s) (s2 := s2) (sv := sv) hlaw (m := m) hm (f := f) hf)
      clear hk hsv hx hy hlaw
      refine (impl_SameSpace R C S C A1 A2 n1 c1 n2 cap2 ys zs _ (B := w0.heap.size) (B' := w0.heap.size) (Kr H1.out) (Kr H2.out) Ks Ks (by omega) (by omega)).mono ?_
      rw [HK.out, HS.out]
      rintro e w2 ⟨rfl, hb2⟩
      have hszw2 := hb2.size; (try simp at hszw2); have hM_1 : BM w2 bM ((R : Int)) ((C : Int)) A1 n1 c1 := (Kb hM); have hN_1 : BM w2 (bM + 1) ((S : Int)) ((C : Int)) A2 n2 cap2 := (Kb hN); have H1_1 : Hid (RI w2 w0.heap.size A1 n1 ys) := Lib.hid (Kr H1.out); have H2_1 : Hid (RI w2 w0.heap.size A2 n2 zs) := Lib.hid (Kr H2.out); have hbw_1 : Below w0.heap.size w0 w2 := Kw; clear hM hN hbw H1 H2 ma mb mc mf ml na nb nc nf nl hb2; have hM := hM_1; have hN := hN_1; have H1 := H1_1; have H2 := H2_1; have hbw := hbw_1; clear hM_1 hN_1 H1_1 H2_1 hbw_1; obtain ⟨ma, mb, mc, mf, ml⟩ := hM.mx; obtain ⟨na, nb, nc, nf, nl⟩ := hN.mx
      go_wp2_with fail
      refine (spec_SameSpace R C S C A1 A2 n1 c1 n2 cap2 ys zs _ (B := w0.heap.size) (B' := w0.heap.size) (Kr H1.out) (Kr H2.out) Ks Ks (by omega) (by omega)).mono ?_
      rw [HK.out, HS.out]
      rintro e w3 ⟨rfl, hb3⟩
      have hszw3 := hb3.size; (try simp at hszw3); have hM_1 : BM w3 bM ((R : Int)) ((C : Int)) A1 n1 c1 := (Kb hM); have hN_1 : BM w3 (bM + 1) ((S : Int)) ((C : Int)) A2 n2 cap2 := (Kb hN); have H1_1 : Hid (RI w3 w0.heap.size A1 n1 ys) := Lib.hid (Kr H1.out); have H2_1 : Hid (RI w3 w0.heap.size A2 n2 zs) := Lib.hid (Kr H2.out); have hbw_1 : Below w0.heap.size w0 w3 := Kw; clear hM hN hbw H1 H2 ma mb mc mf ml na nb nc nf nl hb3; have hM := hM_1; have hN := hN_1; have H1 := H1_1; have H2 := H2_1; have hbw := hbw_1; clear hM_1 hN_1 H1_1 H2_1 hbw_1; obtain ⟨ma, mb, mc, mf, ml⟩ := hM.mx; obtain ⟨na, nb, nc, nf, nl⟩ := hN.mx
      go_wp2_with fail
      refine (impl_StackRows R C S C A1 A2 n1 c1 n2 cap2 ys zs _ (B := w0.heap.size) (B' := w0.heap.size) (Kr H1.out) (Kr H2.out) Ks Ks (by omega) (by omega)).mono ?_
      obtain ⟨MX, hmx⟩ : ∃ q, stM R C ys S C zs = q := ⟨_, rfl⟩
      obtain ⟨fx, hfx⟩ : ∃ q, stB R C ys S C zs = q := ⟨_, rfl⟩
      have hml := stM_len R C ys S C zs
      rw [hmx] at hml
      have hend := HL.out MX hmx fx hfx
      rw [hmx, hfx]
      obtain ⟨b3, hb3_⟩ : ∃ q, (eoX MX.r MX.c MX.xs).isSome = q := ⟨_, rfl⟩
      obtain ⟨l3, hl3⟩ : ∃ q, (psQ (eoX MX.r MX.c MX.xs)).length = q := ⟨_, rfl⟩
      rw [hb3_, hl3] at hend
      have HB3 := Lib.hid hb3_
      have HL3 := Lib.hid hl3
      have HE := Lib.hid hend
      clear hmx hfx hend hb3_ hl3 HL
      rintro e w4 ⟨A4, n4, c4, rfl, ho4, hb4⟩
      have hn4 := OR.lenEq (xs := MX.xs) ho4
      have n4x : n4 ≤ 1048576 := by omega
      have H4 : Hid (RI w4 w4.heap.size A4 n4 MX.xs) := Lib.hid (OR.reads (xs := MX.xs) ho4)
      clear ho4 hn4 hml
      have hszw4 := hb4.size; (try simp at hszw4); have hM_1 : BM w4 bM ((R : Int)) ((C : Int)) A1 n1 c1 := (Kb hM); have hN_1 : BM w4 (bM + 1) ((S : Int)) ((C : Int)) A2 n2 cap2 := (Kb hN); have H1_1 : Hid (RI w4 w0.heap.size A1 n1 ys) := Lib.hid (Kr H1.out); have H2_1 : Hid (RI w4 w0.heap.size A2 n2 zs) := Lib.hid (Kr H2.out); have hbw_1 : Below w0.heap.size w0 w4 := Kw; clear hM hN hbw H1 H2 ma mb mc mf ml na nb nc nf nl hb4; have hM := hM_1; have hN := hN_1; have H1 := H1_1; have H2 := H2_1; have hbw := hbw_1; clear hM_1 hN_1 H1_1 H2_1 hbw_1; obtain ⟨ma, mb, mc, mf, ml⟩ := hM.mx; obtain ⟨na, nb, nc, nf, nl⟩ := hN.mx
      have hS : BM (w4.alloc (.cells #[.int .i64 MX.r, .int .i64 MX.c, .slice A4 n4 c4] 26)) w4.heap.size MX.r MX.c A4 n4 c4 := Ka
      obtain ⟨sa, sb, sc, sf, sl⟩ := hS.mx
      go_wp2_with fail
      refine (impl_RankOf R C A1 n1 c1 ys _ (B := w0.heap.size) (Kr H1.out) Ks (by omega)).mono ?_
      rw [HX.out]
      rintro e w5 ⟨rfl, hb5⟩
      have hS_1 : BM w5 w4.heap.size MX.r MX.c A4 n4 c4 := (Kb hS); have H4_1 : Hid (RI w5 w4.heap.size A4 n4 MX.xs) := Lib.hid (Kr H4.out); clear hS H4 sa sb sc sf sl; have hS := hS_1; have H4 := H4_1; clear hS_1 H4_1; obtain ⟨sa, sb, sc, sf, sl⟩ := hS.mx; have hszw5 := hb5.size; (try simp at hszw5); have hM_1 : BM w5 bM ((R : Int)) ((C : Int)) A1 n1 c1 := (Kb hM); have hN_1 : BM w5 (bM + 1) ((S : Int)) ((C : Int)) A2 n2 cap2 := (Kb hN); have H1_1 : Hid (RI w5 w0.heap.size A1 n1 ys) := Lib.hid (Kr H1.out); have H2_1 : Hid (RI w5 w0.heap.size A2 n2 zs) := Lib.hid (Kr H2.out); have hbw_1 : Below w0.heap.size w0 w5 := Kw; clear hM hN hbw H1 H2 ma mb mc mf ml na nb nc nf nl hb5; have hM := hM_1; have hN := hN_1; have H1 := H1_1; have H2 := H2_1; have hbw := hbw_1; clear hM_1 hN_1 H1_1 H2_1 hbw_1; obtain ⟨ma, mb, mc, mf, ml⟩ := hM.mx; obtain ⟨na, nb, nc, nf, nl⟩ := hN.mx
      go_wp2_with fail
      refine (impl_RankOf S C A2 n2 cap2 zs _ (B := w0.heap.size) (Kr H2.out) Ks (by omega)).mono ?_
      rw [HY.out]
      rintro e w6 ⟨rfl, hb6⟩
      have hS_1 : BM w6 w4.heap.size MX.r MX.c A4 n4 c4 := (Kb hS); have H4_1 : Hid (RI w6 w4.heap.size A4 n4 MX.xs) := Lib.hid (Kr H4.out); clear hS H4 sa sb sc sf sl; have hS := hS_1; have H4 := H4_1; clear hS_1 H4_1; obtain ⟨sa, sb, sc, sf, sl⟩ := hS.mx; have hszw6 := hb6.size; (try simp at hszw6); have hM_1 : BM w6 bM ((R : Int)) ((C : Int)) A1 n1 c1 := (Kb hM); have hN_1 : BM w6 (bM + 1) ((S : Int)) ((C : Int)) A2 n2 cap2 := (Kb hN); have H1_1 : Hid (RI w6 w0.heap.size A1 n1 ys) := Lib.hid (Kr H1.out); have H2_1 : Hid (RI w6 w0.heap.size A2 n2 zs) := Lib.hid (Kr H2.out); have hbw_1 : Below w0.heap.size w0 w6 := Kw; clear hM hN hbw H1 H2 ma mb mc mf ml na nb nc nf nl hb6; have hM := hM_1; have hN := hN_1; have H1 := H1_1; have H2 := H2_1; have hbw := hbw_1; clear hM_1 hN_1 H1_1 H2_1 hbw_1; obtain ⟨ma, mb, mc, mf, ml⟩ := hM.mx; obtain ⟨na, nb, nc, nf, nl⟩ := hN.mx
      go_wp2_with fail
      refine (impl_RankOf MX.r MX.c A4 n4 c4 MX.xs _ (B := w4.heap.size) (Kr H4.out) Ks n4x).mono ?_
      rw [HB3.out, HL3.out]
      rintro e w7 ⟨rfl, hb7⟩
      have hS_1 : BM w7 w4.heap.size MX.r MX.c A4 n4 c4 := (Kb hS); have H4_1 : Hid (RI w7 w4.heap.size A4 n4 MX.xs) := Lib.hid (Kr H4.out); clear hS H4 sa sb sc sf sl; have hS := hS_1; have H4 := H4_1; clear hS_1 H4_1; obtain ⟨sa, sb, sc, sf, sl⟩ := hS.mx; have hszw7 := hb7.size; (try simp at hszw7); have hM_1 : BM w7 bM ((R : Int)) ((C : Int)) A1 n1 c1 := (Kb hM); have hN_1 : BM w7 (bM + 1) ((S : Int)) ((C : Int)) A2 n2 cap2 := (Kb hN); have H1_1 : Hid (RI w7 w0.heap.size A1 n1 ys) := Lib.hid (Kr H1.out); have H2_1 : Hid (RI w7 w0.heap.size A2 n2 zs) := Lib.hid (Kr H2.out); have hbw_1 : Below w0.heap.size w0 w7 := Kw; clear hM hN hbw H1 H2 ma mb mc mf ml na nb nc nf nl hb7; have hM := hM_1; have hN := hN_1; have H1 := H1_1; have H2 := H2_1; have hbw := hbw_1; clear hM_1 hN_1 H1_1 H2_1 hbw_1; obtain ⟨ma, mb, mc, mf, ml⟩ := hM.mx; obtain ⟨na, nb, nc, nf, nl⟩ := hN.mx
      have d1 : (psQ (some s)).length = s.ps.length := rfl
      have d2 : (psQ (some s2)).length = s2.ps.length := rfl
      rw [d1, d2]
      clear d1 d2
      generalize s.ps.length = lx at *
      generalize s2.ps.length = ly at *
      rcases HE.out with h | h | h
      · subst h
        go_wp2_with fail
        go_ret
        exact ⟨rfl, HB0.out.trans (Below.mono (B := w0.heap.size) Kw hs0)⟩
      · subst h
        rcases fx with _ | _
        all_goals
          go_wp2_with fail
          go_ret
          exact ⟨rfl, HB0.out.trans (Below.mono (B := w0.heap.size) Kw hs0)⟩
      · by_cases q1 : lx = l3
        · have t1 : ((lx : Int) == (l3 : Int)) = true := by simp; omega
          by_cases q2 : ly = l3
          · have t2 : ((ly : Int) == (l3 : Int)) = true := by simp; omega
            rw [decide_eq_true q1, decide_eq_true q2, Bool.and_self] at h
            subst h
            clear q1 q2
            rcases fx with _ | _ <;> rcases b3 with _ | _
            all_goals
              go_wp2_with fail
              go_ret
              exact ⟨rfl, HB0.out.trans (Below.mono (B := w0.heap.size) Kw hs0)⟩
          · have t2 : ((ly : Int) == (l3 : Int)) = false := by simp; omega
            rw [decide_eq_true q1, decide_eq_false q2, Bool.and_false] at h
            subst h
            clear q1 q2
            rcases fx with _ | _ <;> rcases b3 with _ | _
            all_goals
              go_wp2_with fail
              go_ret
              exact ⟨rfl, HB0.out.trans (Below.mono (B := w0.heap.size) Kw hs0)⟩
        · have t1 : ((lx : Int) == (l3 : Int)) = false := by simp; omega
          rw [decide_eq_false q1, Bool.false_and] at h
          subst h
          clear q1
          rcases fx with _ | _ <;> rcases b3 with _ | _
          all_goals
            go_wp2_with fail
            go_ret
            exact ⟨rfl, HB0.out.trans (Below.mono (B := w0.heap.size) Kw hs0)⟩
end Go.Proofs.Ytacjonkehcamgaa

/-
  DERIVED. Several small texts in one: MulS, DrS, MulS2, Times, Fac, PlSi, SiT, SiW, PlDio, SiVd, SiRd, PlDi2, PlRf2.
-/
import Derived.Test.YtacjonkehcamgaaMulv
import Derived.Test.YtacjonkehcamgaaDrMv
import Derived.Test.YtacjonkehcamgaaY3
import Derived.Test.YtacjonkehcamgaaY2
import Derived.Deep.LoopGhost
import Derived.Test.YtacjonkehcamgaaY1
import Derived.Test.YtacjonkehcamgaaY4
/-
  DERIVED. l3Mul.
-/
namespace Go.Proofs.Ytacjonkehcamgaa
open Go.RowKit
set_option linter.unusedVariables false
set_option linter.unusedSimpArgs false
set_option maxRecDepth 100000 in
set_option maxHeartbeats 8000000 in
theorem spec_l3Mul (R C C2 : Nat) (A A' : Option Addr) (n cap n' cap' : Nat) (xs ys : List Int) (w : World) {B B' : Nat} (h : RI w B A n xs) (h' : RI w B' A' n' ys) (hB : B ≤ w.heap.size) (hB' : B' ≤ w.heap.size) (hn : n ≤ 1048576) (hn' : n' ≤ 1048576) (M : IsM R C xs) (M2 : IsM C C2 ys) :
    Calls Try.prog 171 #[.agg #[.int .i64 R, .int .i64 C, .slice A n cap], .agg #[.int .i64 C, .int .i64 C2, .slice A' n' cap']] w (MR ⟨R, C2, mulL xs R C ys C2⟩ w) := by
  have hlen := h.len
  have hlen' := h'.len
  have H2 := Lib.hid (h.more hB)
  have H3 := Lib.hid (h'.more hB')
  clear h h' hB hB'
  have HMM := Lib.hid M
  have HMM2 := Lib.hid M2
  have hR' := M.r1
  have hC := M.c1
  have hC2 := M2.c1
  have hl1 : (n : Int) ≤ (R : Int) * (C : Int) ∧ (R : Int) * (C : Int) ≤ n := by have := M.len; omega
  have hl2 : (n' : Int) ≤ (C : Int) * (C2 : Int) ∧ (C : Int) * (C2 : Int) ≤ n' := by have := M2.len; omega
  have hRC : R * C2 ≤ 24 * 24 := Nat.mul_le_mul (by omega) (by omega)
  clear M M2 hlen hlen'
  go_enter Try.func171, Try.ntmps171
  go_wp2_with fail
  refine (spec_l3New R C2 _ (by omega) (by omega) (by omega)).mono ?_
  rintro e w3 ⟨Ao, no, co, rfl, hown, hb3⟩
  have hsz3 := hb3.size
  simp at hsz3
  have hno := hown.lenEq
  have hU : Own (.slice Ao no co) (w.heap.size + 1 + 1 + 1) w3.heap.size := hown.own.wide Ks (Nat.le_refl _)
  have hno1 : no ≤ R * C2 ∧ R * C2 ≤ no := by simp at hno; omega
  have hno2 : (no : Int) ≤ (R : Int) * (C2 : Int) ∧ (R : Int) * (C2 : Int) ≤ no := by rw [← Int.natCast_mul]; omega
  have hA3 : BM (w3.alloc (.cells #[.int .i64 R, .int .i64 C2, .slice Ao no co] 26)) w.heap.size R C A n cap := Ka
  have hB3 : BM (w3.alloc (.cells #[.int .i64 R, .int .i64 C2, .slice Ao no co] 26)) (w.heap.size + 1) C C2 A' n' cap' := Ka
  have hR3 : BM (w3.alloc (.cells #[.int .i64 R, .int .i64 C2, .slice Ao no co] 26)) (w.heap.size + 1 + 1) 0 0 none 0 0 := Ka
  have hO3 : BM (w3.alloc (.cells #[.int .i64 R, .int .i64 C2, .slice Ao no co] 26)) w3.heap.size R C2 Ao no co := Ka
  have hown3 : OR (w3.alloc (.cells #[.int .i64 R, .int .i64 C2, .slice Ao no co] 26)) (w.heap.size + 1 + 1 + 1) (.slice Ao no co) (fillTo (mulL xs R C ys C2) (R * C2) 0) := by
    rw [fillTo_zero]; exact (hown.mono Ks).alloc _
  have hbw3 : Below w.heap.size w (w3.alloc (.cells #[.int .i64 R, .int .i64 C2, .slice Ao no co] 26)) := Kw
  have hq3 : w.heap.size + 1 + 1 + 1 ≤ w3.heap.size := by omega
  have hU0 : Hid (0 < R * C2 → ∃ g, Ao = some ⟨g, 0, none⟩ ∧ w.heap.size + 1 + 1 + 1 ≤ g ∧ g < w3.heap.size) := Lib.hid (fun hp => by have := hown.begins (by simpa using hp); simpa using this)
  clear hown hno hb3
  go_wp2_with fail
  generalize hbO : w3.heap.size = bO at *
  have HBO := Lib.hid hbO
  clear hbO
  go_loopw [6] (fun v wr => ∃ i : Nat, v = .int .i64 i ∧ i ≤ R ∧ BM wr w.heap.size R C A n cap ∧ BM wr (w.heap.size + 1) C C2 A' n' cap' ∧ BM wr (w.heap.size + 1 + 1) 0 0 none 0 0 ∧ BM wr bO R C2 Ao no co ∧ OR wr (w.heap.size + 1 + 1 + 1) (.slice Ao no co) (fillTo (mulL xs R C ys C2) (R * C2) (i*C2)) ∧ Below w.heap.size w wr) (fun v _ => R - (intOf v).toNat)
  case atStart => exact ⟨0, rfl, Nat.zero_le _, hA3, hB3, hR3, hO3, by rw [Nat.zero_mul]; exact hown3, hbw3⟩
  case round =>
    clear hA3 hB3 hR3 hO3 hown3 hbw3
    obtain ⟨i, rfl, hi, hA, hB, hR, hO, hown, hbw⟩ := hrel
    obtain ⟨aa, ab, ac, af, al⟩ := hA.mx; obtain ⟨ba, bb, bc, bf, bl⟩ := hB.mx; obtain ⟨oa, ob, oc, of, ol⟩ := hO.mx
    by_cases hiR : i < R
    · go_wp2_with fail
      obtain ⟨wo, rfl⟩ : ∃ wo : World, wo = wr := ⟨_, rfl⟩
      go_loopw [7, 8, 9] (fun v _ _ wr => ∃ j : Nat, v = .int .i64 j ∧ j ≤ C2 ∧ BM wr w.heap.size R C A n cap ∧ BM wr (w.heap.size + 1) C C2 A' n' cap' ∧ BM wr (w.heap.size + 1 + 1) 0 0 none 0 0 ∧ BM wr bO R C2 Ao no co ∧ OR wr (w.heap.size + 1 + 1 + 1) (.slice Ao no co) (fillTo (mulL xs R C ys C2) (R * C2) (i*C2+j)) ∧ Below w.heap.size w wr) (fun v _ _ _ => C2 - (intOf v).toNat)
      case atStart => exact ⟨0, rfl, Nat.zero_le _, hA, hB, hR, hO, hown, hbw⟩
      case round =>
        clear hA hB hR hO hown hbw
        clear aa ab ac af al ba bb bc bf bl oa ob oc of ol
        obtain ⟨j, rfl, hj, hA, hB, hR, hO, hown, hbw⟩ := hrel
        obtain ⟨aa, ab, ac, af, al⟩ := hA.mx; obtain ⟨ba, bb, bc, bf, bl⟩ := hB.mx; obtain ⟨oa, ob, oc, of, ol⟩ := hO.mx
        by_cases hjC : j < C2
        · go_wp2_with fail
          obtain ⟨wo2, rfl⟩ : ∃ wo : World, wo = wr := ⟨_, rfl⟩
          go_loopw [8, 9] (fun u v wr => ∃ k : Nat, v = .int .i64 k ∧ u = .int .i64 (psum xs C ys C2 i j k) ∧ k ≤ C ∧ BM wr w.heap.size R C A n cap ∧ BM wr (w.heap.size + 1) C C2 A' n' cap' ∧ BM wr (w.heap.size + 1 + 1) 0 0 none 0 0 ∧ BM wr bO R C2 Ao no co ∧ OR wr (w.heap.size + 1 + 1 + 1) (.slice Ao no co) (fillTo (mulL xs R C ys C2) (R * C2) (i*C2+j)) ∧ Below w.heap.size w wr) (fun _ v _ => C - (intOf v).toNat)
          case atStart => exact ⟨0, rfl, rfl, Nat.zero_le _, hA, hB, hR, hO, hown, hbw⟩
          case round =>
            clear hA hB hR hO hown hbw
            clear aa ab ac af al ba bb bc bf bl oa ob oc of ol
            obtain ⟨k, rfl, rfl, hk, hA, hB, hR, hO, hown, hbw⟩ := hrel
            obtain ⟨aa, ab, ac, af, al⟩ := hA.mx; obtain ⟨ba, bb, bc, bf, bl⟩ := hB.mx; obtain ⟨oa, ob, oc, of, ol⟩ := hO.mx
            generalize hq : i * C2 + j = q at *
            have HQ := Lib.hid hq
            clear hq
            by_cases hkC : k < C
            · obtain ⟨p1, p2⟩ := psum_bd HMM.out HMM2.out i j k (by omega)
              obtain ⟨p3, p4⟩ := psum_bd HMM.out HMM2.out i j (k + 1) (by omega)
              have hps : psum xs C ys C2 i j (k + 1) = psum xs C ys C2 i j k + cel xs C i k * cel ys C2 k j := rfl
              rw [hps] at p3 p4
              have HPS := Lib.hid hps
              clear hps
              obtain ⟨x1, x2, x3, x4⟩ := idx_bd (r := R) (c := C) (i := i) (j := k) hR' hC (by omega) (by omega) (by omega) (by omega)
              obtain ⟨x5, x6, x7, x8⟩ := idx_bd (r := C) (c := C2) (i := k) (j := j) hC hC2 (by omega) (by omega) (by omega) (by omega)
              obtain ⟨y1, y2⟩ := HMM.out.cel_bd i k
              obtain ⟨y3, y4⟩ := HMM2.out.cel_bd k j
              obtain ⟨z1, z2⟩ := mul_bd4 _ _ 400000000 400000000 y1 y2 y3 y4
              have g1 : IntKind.i64.wrap (cel xs C i k * cel ys C2 k j) = cel xs C i k * cel ys C2 k j := IntWalk.i64_in _ (by omega)
              have g2 : IntKind.i64.wrap (psum xs C ys C2 i j k + cel xs C i k * cel ys C2 k j) = psum xs C ys C2 i j k + cel xs C i k * cel ys C2 k j := IntWalk.i64_in _ (by omega)
              go_wp2_with fail
              obtain ⟨ab1, ao1, rfl, hab, hac⟩ := H2.out.2 (by omega)
              obtain ⟨bb1, bo1, rfl, hbb, hbc⟩ := H3.out.2 (by omega)
              have c1 := (hbw.cell (p := ⟨ab1, ao1 + ((i : Int) * (C : Int) + (k : Int)).toNat, none⟩) hab).trans (hac _ (by omega))
              have c2 := (hbw.cell (p := ⟨bb1, bo1 + ((k : Int) * (C2 : Int) + (j : Int)).toNat, none⟩) hbb).trans (hbc _ (by omega))
              clear hac hbc
              rw [show xs.getD ((i : Int) * (C : Int) + (k : Int)).toNat 0 = cel xs C i k from rfl] at c1
              rw [show ys.getD ((k : Int) * (C2 : Int) + (j : Int)).toNat 0 = cel ys C2 k j from rfl] at c2
              have g3 : IntKind.i64.wrap ((i : Int) * (C : Int)) = (i : Int) * (C : Int) := IntWalk.i64_in _ (by omega)
              have g4 : IntKind.i64.wrap ((k : Int) * (C2 : Int)) = (k : Int) * (C2 : Int) := IntWalk.i64_in _ (by omega)
              have g5 : IntKind.i64.wrap ((i : Int) * (C : Int) + (k : Int)) = (i : Int) * (C : Int) + (k : Int) := IntWalk.i64_in _ (by omega)
              have g6 : IntKind.i64.wrap ((k : Int) * (C2 : Int) + (j : Int)) = (k : Int) * (C2 : Int) + (j : Int) := IntWalk.i64_in _ (by omega)
              have g7 : 0 ≤ (i : Int) * (C : Int) + (k : Int) ∧ (i : Int) * (C : Int) + (k : Int) < (n : Int) := by omega
              have g8 : 0 ≤ (k : Int) * (C2 : Int) + (j : Int) ∧ (k : Int) * (C2 : Int) + (j : Int) < (n' : Int) := by omega
              obtain ⟨g7a, g7b⟩ := g7
              obtain ⟨g8a, g8b⟩ := g8
              generalize cel xs C i k = xv at *
              generalize cel ys C2 k j = yv at *
              ((refine wp_region_held_drew (S := (fun w' => w'.cell? ⟨w.heap.size, 1, none⟩ = some (.int .i64 C) ∧ w'.cell? ⟨w.heap.size, 2, none⟩ = some (.slice (some ⟨ab1, ao1, none⟩) n cap) ∧ w'.cell? ⟨w.heap.size + 1, 1, none⟩ = some (.int .i64 C2) ∧ w'.cell? ⟨w.heap.size + 1, 2, none⟩ = some (.slice (some ⟨bb1, bo1, none⟩) n' cap') ∧ w'.cell? ⟨ab1, ao1 + ((i : Int) * (C : Int) + (k : Int)).toNat, none⟩ = some (.int .i64 xv) ∧ w'.cell? ⟨bb1, bo1 + ((k : Int) * (C2 : Int) + (j : Int)).toNat, none⟩ = some (.int .i64 yv))) (by kernel_rfl) ?_ (fun hHeld => ?_)); ((focus ((try dsimp only); (go_keep)))); ((refine tk_ (i := 0) (v := ?_) (y := Or.inl ⟨by rfl, ?_⟩) (h := ?_); rotate_left; (focus (((intro w hSw; (try dsimp only at hSw); go_simp) <;> (try with_reducible rfl)); done)); (try simp only [Act.put, p1_, p2_, p3_]))); ((refine tk_ (i := 1) (v := ?_) (y := Or.inl ⟨by rfl, ?_⟩) (h := ?_); rotate_left; (focus (((intro w hSw; (try dsimp only at hSw); go_simp) <;> (try with_reducible rfl)); done)); (try simp only [Act.put, p1_, p2_, p3_]))); ((refine tk_ (i := 2) (v := ?_) (y := Or.inl ⟨by rfl, ?_⟩) (h := ?_); rotate_left; (focus (((intro w hSw; (try dsimp only at hSw); go_simp) <;> (try with_reducible rfl)); done)); (try simp only [Act.put, p1_, p2_, p3_]))); ((refine tk_ (i := 3) (v := ?_) (y := Or.inl ⟨by rfl, ?_⟩) (h := ?_); rotate_left; (focus (((intro w hSw; (try dsimp only at hSw); go_simp) <;> (try with_reducible rfl)); done)); (try simp only [Act.put, p1_, p2_, p3_]))); ((refine tk_ (i := 4) (v := ?_) (y := Or.inl ⟨by rfl, ?_⟩) (h := ?_); rotate_left; (focus (((intro w hSw; (try dsimp only at hSw); go_simp) <;> (try with_reducible rfl)); done)); (try simp only [Act.put, p1_, p2_, p3_]))); ((refine tk_ (i := 5) (v := ?_) (y := Or.inl ⟨by rfl, ?_⟩) (h := ?_); rotate_left; (focus (((intro w hSw; (try dsimp only at hSw); go_simp) <;> (try with_reducible rfl)); done)); (try simp only [Act.put, p1_, p2_, p3_]))); ((refine tk_ (i := 6) (v := ?_) (y := Or.inl ⟨by rfl, ?_⟩) (h := ?_); rotate_left; (focus (((intro w hSw; (try dsimp only at hSw); go_simp) <;> (try with_reducible rfl)); done)); (try simp only [Act.put, p1_, p2_, p3_]))); ((refine tk_ (i := 7) (v := ?_) (y := Or.inl ⟨by rfl, ?_⟩) (h := ?_); rotate_left; (focus (((intro w hSw; (try dsimp only at hSw); go_simp) <;> (try with_reducible rfl)); done)); (try simp only [Act.put, p1_, p2_, p3_]))); ((refine tk_ (i := 8) (v := ?_) (y := Or.inl ⟨by rfl, ?_⟩) (h := ?_); rotate_left; (focus (((intro w hSw; (try dsimp only at hSw); go_simp) <;> (try with_reducible rfl)); done)); (try simp only [Act.put, p1_, p2_, p3_]))); ((refine tk_ (i := 9) (v := ?_) (y := Or.inl ⟨by rfl, ?_⟩) (h := ?_); rotate_left; (focus (((intro w hSw; (try dsimp only at hSw); go_simp) <;> (try with_reducible rfl)); done)); (try simp only [Act.put, p1_, p2_, p3_]))); ((refine tk_ (i := 10) (v := ?_) (y := Or.inl ⟨by rfl, ?_⟩) (h := ?_); rotate_left; (focus (((intro w hSw; (try dsimp only at hSw); go_simp) <;> (try with_reducible rfl)); done)); (try simp only [Act.put, p1_, p2_, p3_]))); ((refine tk_ (i := 11) (v := ?_) (y := Or.inl ⟨by rfl, ?_⟩) (h := ?_); rotate_left; (focus (((intro w hSw; (try dsimp only at hSw); go_simp) <;> (try with_reducible rfl)); done)); (try simp only [Act.put, p1_, p2_, p3_]))); ((refine tk_ (i := 12) (v := ?_) (y := Or.inl ⟨by rfl, ?_⟩) (h := ?_); rotate_left; (focus (((intro w hSw; (try dsimp only at hSw); go_simp) <;> (try with_reducible rfl)); done)); (try simp only [Act.put, p1_, p2_, p3_]))); ((refine tk_ (i := 13) (v := ?_) (y := Or.inl ⟨by rfl, ?_⟩) (h := ?_); rotate_left; (focus (((intro w hSw; (try dsimp only at hSw); go_simp) <;> (try with_reducible rfl)); done)); (try simp only [Act.put, p1_, p2_, p3_]))); ((refine tk_ (i := 14) (v := ?_) (y := Or.inl ⟨by rfl, ?_⟩) (h := ?_); rotate_left; (focus (((intro w hSw; (try dsimp only at hSw); go_simp) <;> (try with_reducible rfl)); done)); (try simp only [Act.put, p1_, p2_, p3_]))); ((refine tk_ (i := 15) (v := ?_) (y := Or.inl ⟨by rfl, ?_⟩) (h := ?_); rotate_left; (focus (((intro w hSw; (try dsimp only at hSw); go_simp) <;> (try with_reducible rfl)); done)); (try simp only [Act.put, p1_, p2_, p3_]))); ((refine tk_ (i := 16) (v := ?_) (y := Or.inl ⟨by rfl, ?_⟩) (h := ?_); rotate_left; (focus (((intro w hSw; (try dsimp only at hSw); go_simp) <;> (try with_reducible rfl)); done)); (try simp only [Act.put, p1_, p2_, p3_]))); ((refine tk_ (i := 17) (v := ?_) (y := Or.inl ⟨by rfl, ?_⟩) (h := ?_); rotate_left; (focus (((intro w hSw; (try dsimp only at hSw); go_simp) <;> (try with_reducible rfl)); done)); (try simp only [Act.put, p1_, p2_, p3_]))); ((refine tk_ (i := 18) (v := ?_) (y := Or.inl ⟨by rfl, ?_⟩) (h := ?_); rotate_left; (focus (((intro w hSw; (try dsimp only at hSw); go_simp) <;> (try with_reducible rfl)); done)); (try simp only [Act.put, p1_, p2_, p3_]))); ((refine tk_ (i := 19) (v := ?_) (y := Or.inl ⟨by rfl, ?_⟩) (h := ?_); rotate_left; (focus (((intro w hSw; (try dsimp only at hSw); go_simp) <;> (try with_reducible rfl)); done)); (try simp only [Act.put, p1_, p2_, p3_]))); ((refine tk_ (i := 20) (v := ?_) (y := Or.inl ⟨by rfl, ?_⟩) (h := ?_); rotate_left; (focus (((intro w hSw; (try dsimp only at hSw); go_simp) <;> (try with_reducible rfl)); done)); (try simp only [Act.put, p1_, p2_, p3_]))); ((refine tk_ (i := 21) (v := ?_) (y := Or.inl ⟨by rfl, ?_⟩) (h := ?_); rotate_left; (focus (((intro w hSw; (try dsimp only at hSw); go_simp) <;> (try with_reducible rfl)); done)); (try simp only [Act.put, p1_, p2_, p3_]))); ((refine tk_ (i := 22) (v := ?_) (y := Or.inl ⟨by rfl, ?_⟩) (h := ?_); rotate_left; (focus (((intro w hSw; (try dsimp only at hSw); go_simp) <;> (try with_reducible rfl)); done)); (try simp only [Act.put, p1_, p2_, p3_]))); ((refine tk_ (i := 23) (v := ?_) (y := Or.inl ⟨by rfl, ?_⟩) (h := ?_); rotate_left; (focus (((intro w hSw; (try dsimp only at hSw); go_simp) <;> (try with_reducible rfl)); done)); (try simp only [Act.put, p1_, p2_, p3_]))); (refine wpAnyH_done (by kernel_rfl) ?_ _))
              clear g1 g2 g3 g4 g5 g6 c1 c2
              go_wp2_with fail
              go_roundw
              case rel => exact ⟨k + 1, by go_num, by rw [HPS.out], by omega, Kb hA, Kb hB, Kb hR, Kb hO, Ko hown, Kw⟩
              case measure => simp only [intOf]; omega
            · obtain rfl : k = C := by omega
              obtain ⟨x1, x2, x3, x4⟩ := idx_bd (r := R) (c := C2) (i := i) (j := j) hR' hC2 (by omega) (by omega) (by omega) (by omega)
              have hqR : q < R * C2 := by rw [← HQ.out]; exact idx_nat hiR hjC
              have e9 : ((i : Int) * (C2 : Int) + (j : Int)).toNat = q := by rw [← HQ.out, ← Int.natCast_mul, ← Int.natCast_add, Int.toNat_natCast]
              have e8 : (mulL xs R k ys C2).getD q 0 = psum xs k ys C2 i j k := by rw [← HQ.out]; exact mulL_at hiR hjC
              have E9 := Lib.hid e9
              have E8 := Lib.hid e8
              clear e9 e8
              have hnq : q < no := by omega
              obtain ⟨g, rfl, hg1, hg2⟩ := hU0.out (by omega)
              have hc1 := hown.cell q (by rw [fillTo_len (mulL_len _ _ _ _ _) (by omega)]; exact hqR)
              have hf1 := hown.frozen q
              generalize (fillTo (mulL xs R k ys C2) (R * C2) q).getD q 0 = oldv at hc1
              have hst := hown.set_ q (psum xs k ys C2 i j k)
              rw [fillTo_set' (mulL_len _ _ _ _ _) hqR E8.out] at hst
              have hgr := only_set (g := g) (World.grownBy.refl wr (some g)) q (.int .i64 (psum xs k ys C2 i j k))
              have hsz4 : wr.heap.size ≤ (wr.setCell ⟨g, q, none⟩ (.int .i64 (psum xs k ys C2 i j k))).heap.size := by simp [World.setCell]
              have i1 : (0 : Int) ≤ (i : Int) * (C2 : Int) + (j : Int) := by omega
              have i2 : (i : Int) * (C2 : Int) + (j : Int) < (no : Int) := by omega
              have i3 := E9.out
              have hA4 := hA.keptOwn (sv := .slice (some ⟨g, 0, none⟩) no co) hgr hU (by omega)
              have hB4 := hB.keptOwn (sv := .slice (some ⟨g, 0, none⟩) no co) hgr hU (by omega)
              have hR4 := hR.keptOwn (sv := .slice (some ⟨g, 0, none⟩) no co) hgr hU (by omega)
              have hO4 := hO.keptOwn (sv := .slice (some ⟨g, 0, none⟩) no co) hgr hU (by omega)
              have hbw4 : Below w.heap.size w (wr.setCell ⟨g, q, none⟩ (.int .i64 (psum xs k ys C2 i j k))) := hbw.trans (below_keptOwn (sv := .slice (some ⟨g, 0, none⟩) no co) hgr hU (by omega) (by omega))
              have HS := Lib.hid hst
              clear hst
              go_wp2_with fail
              go_roundw
              case rel => exact ⟨j + 1, by go_num, by omega, Kb hA4, Kb hB4, Kb hR4, Kb hO4, by rw [← Nat.add_assoc, HQ.out]; (with_reducible (repeat (first | exact HS.out | refine OR.drew ?_ | refine OR.drewN ?_ _ | refine OR.alloc ?_ _ | refine OR.b_ ?_ | refine OR.l_ ?_))), Kw⟩
              case measure => simp only [intOf]; omega
        · obtain rfl : j = C2 := by omega
          have E7 : Hid ((i + 1) * j = i * j + j) := Lib.hid (by rw [Nat.add_mul, Nat.one_mul])
          go_wp2_with fail
          go_roundw
          case rel => exact ⟨i + 1, by go_num, by omega, Kb hA, Kb hB, Kb hR, Kb hO, by rw [E7.out]; (with_reducible (repeat (first | exact hown | refine OR.drew ?_ | refine OR.drewN ?_ _ | refine OR.alloc ?_ _ | refine OR.b_ ?_ | refine OR.l_ ?_))), Kw⟩
          case measure => simp only [intOf]; omega
    · obtain rfl : i = R := by omega
      have hfin := hown.as (fillTo_all (mulL_len xs i C ys C2))
      obtain ⟨ra, rb, rc, rf, rl⟩ := hR.mx
      clear hown
      go_wp2_with fail
      refine ret_M (r := i) (c := C2) (A := Ao) (n := no) (cap := co) Try.results171 rfl (Kb hR) rfl ?_
      exact MR.mk (xs := mulL xs i C ys C2) rfl (OR.mono (B := w.heap.size + 1 + 1 + 1) (Ko hfin) (by omega)) Kw
end Go.Proofs.Ytacjonkehcamgaa

/-
  DERIVED. What is drawn for the equations in whole numbers: l14Draw, DrawSolveInteger.
-/
namespace Go.Proofs.Ytacjonkehcamgaa
open Go.RowKit
set_option linter.unusedVariables false
set_option linter.unusedSimpArgs false
/-- The call drew a matrix and a list, their cells their own. -/
def DSI (wo : World) (e : Ending) (w' : World) : Prop := ∃ (r c : Int) (Am : Option Addr) (nm cm : Nat) (ys : List Int) (Ab : Option Addr) (nb cb : Nat) (bs : List Int), e = .returned (.tuple #[.agg #[.int .i64 r, .int .i64 c, .slice Am nm cm], .slice Ab nb cb]) ∧ OR w' wo.heap.size (.slice Am nm cm) ys ∧ OR w' wo.heap.size (.slice Ab nb cb) bs ∧ ys.length ≤ 17 ∧ bs.length ≤ 1001 ∧ Below wo.heap.size wo w'
theorem field_M2 (r c : Int) (A : Option Addr) (n cap : Nat) (w : World) : (Instr.field 26 (.agg #[.int .i64 r, .int .i64 c, .slice A n cap]) 2).run Try.prog w = .ok (.slice A n cap) w := by
  simp [Instr.field, asAgg, part, go_sem, Try.underlying26]
attribute [local go_sem] field_M2
/-- A drawn column. -/
def MD1 (B0 R : Nat) (most : Int) (w' : World) (v : Value) : Prop := ∃ Am nm cm ys, v = .agg #[.int .i64 R, .int .i64 1, .slice Am nm cm] ∧ OR w' B0 (.slice Am nm cm) ys ∧ ys.length = R ∧ ∀ k, -most ≤ ys.getD k 0 ∧ ys.getD k 0 ≤ most
theorem spec_l3Draw1 (b n cap : Nat) (A : Option Addr) (xs : List Int) (R : Nat) (most : Int) (w : World) {B : Nat} (hct : CT w w B b n cap A xs) (hR : R ≤ 24) (hm : 0 ≤ most ∧ most ≤ 100) :
    Calls Try.prog 187 #[.pointer (some ⟨b, 0, none⟩), .int .i64 R, .int .i64 1, .int .i64 most] w (DRV (MD1 w.heap.size R most) B b n cap A xs w) :=
  (spec_l3Draw b n cap A xs R 1 most w hct hR (by omega) hm).mono fun _ _ ⟨v, h1, ⟨Am, nm, cm, ys, h2, h3, h4, h5⟩, h6⟩ => ⟨v, h1, ⟨Am, nm, cm, ys, h2, h3, by omega, h5⟩, h6⟩
theorem spec_l3Mul1 (R C : Nat) (A A' : Option Addr) (n cap n' cap' : Nat) (xs ys : List Int) (w : World) {B B' : Nat} (h : RI w B A n xs) (h' : RI w B' A' n' ys) (hB : B ≤ w.heap.size) (hB' : B' ≤ w.heap.size) (hn : n ≤ 1048576) (hn' : n' ≤ 1048576) (M : IsM R C xs) (M2 : IsM C 1 ys) :
    Calls Try.prog 171 #[.agg #[.int .i64 R, .int .i64 C, .slice A n cap], .agg #[.int .i64 C, .int .i64 1, .slice A' n' cap']] w (fun e w' => ∃ Ao no co, e = .returned (.agg #[.int .i64 R, .int .i64 1, .slice Ao no co]) ∧ OR w' w.heap.size (.slice Ao no co) (mulL xs R C ys 1) ∧ Below w.heap.size w w') :=
  spec_l3Mul R C 1 A A' n cap n' cap' xs ys w h h' hB hB' hn hn' M M2
set_option maxRecDepth 100000 in
set_option maxHeartbeats 8000000 in
theorem spec_l14Draw (n cap : Nat) (A : Option Addr) (xs : List Int) (wo : World) (hby : RB wo wo.heap.size A n xs) (hn : n ≤ 2000000) :
    Calls Try.prog 95 #[.slice A n cap] wo (DSI wo) := by
  have HBY := Lib.hid hby
  clear hby
  go_enter Try.func95, Try.ntmps95
  go_wp2_with fail
  refine (spec_l1New n cap A xs _ (B := wo.heap.size) (by (with_reducible (repeat (first | exact HBY.out | refine RB.drew ?_ | refine RB.drewN ?_ _ | refine RB.alloc ?_ Ks _ | refine RB.setCell ?_ Ks _ | refine RB.below ?_ (by assumption) Ks)))) hn).mono ?_
  rintro e w ⟨b, rfl, hcu, hbs, hb2⟩
  have hsz2 := hb2.size
  simp at hsz2 hbs
  have hct : CT w w wo.heap.size b n cap A xs := CT.new hcu (by (with_reducible (repeat (first | exact HBY.out | refine RB.drew ?_ | refine RB.drewN ?_ _ | refine RB.alloc ?_ Ks _ | refine RB.setCell ?_ Ks _ | refine RB.below ?_ (by assumption) Ks)))) (by omega) hn
  have HB0 : Hid (Below wo.heap.size wo w) := Lib.hid Kw
  have hR0 : BM w wo.heap.size 0 0 none 0 0 := Ka
  have hb := hct.hb
  clear hb2 hcu
  go_wp2_with fail
  refine (spec_l3Any b n cap A xs _ (CT.self (w0 := w) (B := wo.heap.size) (by (with_reducible (repeat (first | exact hct | refine CT.drew ?_ | refine CT.drewN ?_ _ | refine CT.alloc ?_ _ | refine CT.far ?_ Ks _ | refine CT.below ?_ (by assumption) Ks)))))).mono ?_
  rintro e w1 ⟨v, rfl, ⟨r, c, Am, nm, cm, ys, rfl, ho1, hl1, hr1, hc1⟩, hct1⟩
  have hsz1 := hct1.size
  have hR1 : BM w1 wo.heap.size 0 0 none 0 0 := hR0.grown hct1.gr (by simp; omega)
  have hR : BM (w1.alloc (.cells #[.int .i64 r, .int .i64 c, .slice Am nm cm] 26)) wo.heap.size 0 0 none 0 0 := Kb hR1
  have hM : BM (w1.alloc (.cells #[.int .i64 r, .int .i64 c, .slice Am nm cm] 26)) w1.heap.size r c Am nm cm := Ka
  have ho : OR (w1.alloc (.cells #[.int .i64 r, .int .i64 c, .slice Am nm cm] 26)) w.heap.size (.slice Am nm cm) ys := ho1.alloc _
  have hct2 : CT w (w1.alloc (.cells #[.int .i64 r, .int .i64 c, .slice Am nm cm] 26)) wo.heap.size b n cap A xs := hct1.alloc _
  have hln := ho1.lenEq
  have hln2 : nm ≤ 17 ∧ nm ≤ ys.length ∧ ys.length ≤ nm := by omega
  have hs5 : w1.heap.size < (w1.alloc (.cells #[.int .i64 r, .int .i64 c, .slice Am nm cm] 26)).heap.size := by simp
  clear hct hct1 hR0 hR1 ho1 hln
  have hct := hct2
  clear hct2
  obtain ⟨oa, ob, oc, of, ol⟩ := hM.mx; obtain ⟨ra, rb, rc, rf, rl⟩ := hR.mx
  go_wp2_with fail
  generalize (w1.alloc (.cells #[.int .i64 r, .int .i64 c, .slice Am nm cm] 26)) = w2 at *
  generalize hbm : w1.heap.size = bM at *
  have hwM : w.heap.size ≤ bM := by omega
  have ne1 : ¬ bM = wo.heap.size := by omega
  have ne2 : ¬ wo.heap.size = bM := by omega
  clear hbm
  rcases hm : isMat r c ys with _ | _
  · have HM := Lib.hid hm
    clear hm
    refine (spec_IsMatrix r c Am nm cm ys _ (C := w2.heap.size) ho.reads (Nat.le_refl _) (by omega)).mono ?_
    rw [HM.out]
    rintro e w3 ⟨rfl, hb3⟩
    have hsz3 := hb3.size
    have hct_1 : CT w w3 wo.heap.size b n cap A xs := (by (with_reducible (repeat (first | exact hct | refine CT.drew ?_ | refine CT.drewN ?_ _ | refine CT.alloc ?_ _ | refine CT.far ?_ Ks _ | refine CT.below ?_ (by assumption) Ks)))); have hR_1 : BM w3 wo.heap.size 0 0 none 0 0 := (Kb hR); have hM_1 : BM w3 bM (r) (c) Am nm cm := (Kb hM); have ho_1 : OR w3 w.heap.size (.slice Am nm cm) ys := (Ko ho); clear oa ob oc of ol ra rb rc rf rl; clear hct hM hR ho; have hct := hct_1; have hM := hM_1; have hR := hR_1; have ho := ho_1; clear hct_1 hM_1 hR_1 ho_1; obtain ⟨oa, ob, oc, of, ol⟩ := hM.mx; obtain ⟨ra, rb, rc, rf, rl⟩ := hR.mx
    clear hb3
    go_wp2_with fail
    ((refine wp_region_held_drew (S := (fun w' => w'.cell? ⟨bM, 0, none⟩ = some (.int .i64 (r)) ∧ w'.cell? ⟨bM, 1, none⟩ = some (.int .i64 (c)) ∧ w'.cell? ⟨bM, 2, none⟩ = some (.slice Am nm cm))) (by kernel_rfl) ?_ (fun hHeld => ?_)); ((focus ((try dsimp only); (go_keep)))); ((refine tk_ (i := 0) (v := ?_) (y := Or.inl ⟨by rfl, ?_⟩) (h := ?_); rotate_left; (focus (((intro w hSw; (try dsimp only at hSw); go_simp) <;> (try with_reducible rfl)); done)); (try simp only [Act.put, p1_, p2_, p3_]))); ((refine tk_ (i := 1) (v := ?_) (y := Or.inl ⟨by rfl, ?_⟩) (h := ?_); rotate_left; (focus (((intro w hSw; (try dsimp only at hSw); go_simp) <;> (try with_reducible rfl)); done)); (try simp only [Act.put, p1_, p2_, p3_]))); ((refine tk_ (i := 2) (v := ?_) (y := Or.inl ⟨by rfl, ?_⟩) (h := ?_); rotate_left; (focus (((intro w hSw; (try dsimp only at hSw); go_simp) <;> (try with_reducible rfl)); done)); (try simp only [Act.put, p1_, p2_, p3_]))); ((refine tk_ (i := 3) (v := ?_) (y := Or.inl ⟨by rfl, ?_⟩) (h := ?_); rotate_left; (focus (((intro w hSw; (try dsimp only at hSw); go_simp) <;> (try with_reducible rfl)); done)); (try simp only [Act.put, p1_, p2_, p3_]))); (refine wpAnyH_ready (rs := [4]) (by kernel_rfl) (by simp) ?_); (refine AllReadyH.cons (by simp only [e1_, e2_, e3_]; try rfl) ?_ ?_); ((focus ((intro K hK); (go_simp); ((go_at_call 122; refine (spec_l8Right b n cap A xs (r) _ (CT.self (w0 := w) (B := wo.heap.size) (by (with_reducible (repeat (first | exact hct | refine CT.drew ?_ | refine CT.drewN ?_ _ | refine CT.alloc ?_ _ | refine CT.far ?_ Ks _ | refine CT.below ?_ (by assumption) Ks))))) (by omega)).mono ?_; rintro e w8 ⟨v, rfl, ⟨Ab, nb, cb, bs, rfl, hob, hlb⟩, hc1⟩; have hob2 : OR w8 (wo.heap.size + 1) (.slice Ab nb cb) bs := OR.mono hob Ks; clear hob; have hct_1 : CT w w8 wo.heap.size b n cap A xs := CT.trans (by (with_reducible (repeat (first | exact hct | refine CT.drew ?_ | refine CT.drewN ?_ _ | refine CT.alloc ?_ _ | refine CT.far ?_ Ks _ | refine CT.below ?_ (by assumption) Ks)))) hc1; have hR_1 : BM w8 wo.heap.size 0 0 none 0 0 := BX.grown (Kb hR) hc1.gr (fun e => by injection e; omega); have hM_1 : BM w8 bM ((r)) ((c)) Am nm cm := BX.grown (Kb hM) hc1.gr (fun e => by injection e; omega); have ho_1 : OR w8 w.heap.size (.slice Am nm cm) ys := OR.turned (Ko ho) hc1 (by omega); clear oa ob oc of ol ra rb rc rf rl; clear hct hM hR ho; have hct := hct_1; have hM := hM_1; have hR := hR_1; have ho := ho_1; clear hct_1 hM_1 hR_1 ho_1; have hszw8 := hc1.size; (try simp at hszw8); clear hc1; obtain ⟨oa, ob, oc, of, ol⟩ := hM.mx; obtain ⟨ra, rb, rc, rf, rl⟩ := hR.mx)); ((try go_wp2_with fail)); (refine hK.out _ _ ?_ (fun hHeld => ?_)); ((focus ((try dsimp only); (go_keep)))); (clear hK K); ((try simp only [Act.put, p1_, p2_, p3_])); (refine wpAnyH_ready (rs := [5]) (by kernel_rfl) (by simp) ?_); (refine AllReadyH.cons (by simp only [e1_, e2_, e3_]; try rfl) ?_ ?_); ((focus ((intro K hK); (go_simp); ((try go_wp2_with fail)); (refine hK.out _ _ ?_ (fun hHeld => ?_)); ((focus ((try dsimp only); (go_keep)))); (clear hK K); ((try simp only [Act.put, p1_, p2_, p3_])); ((refine tk_ (i := 6) (v := ?_) (y := Or.inl ⟨by rfl, ?_⟩) (h := ?_); rotate_left; (focus (((intro w hSw; (try dsimp only at hSw); go_simp) <;> (try with_reducible rfl)); done)); (try simp only [Act.put, p1_, p2_, p3_]))); (refine wpAnyH_done (by kernel_rfl) ?_ _)))); (rotate_left 1); (exact AllReadyH.nil)))); (rotate_left 1); (exact AllReadyH.nil))
    have hvr := B3.of hR
    have hbw8 : Below wo.heap.size wo w8 := HB0.out.trans (CT.under hct (by omega))
    have KM : OR w8 (wo.heap.size + 1) (.slice Am nm cm) ys := OR.mono ho (by omega)
    have KB : OR w8 (wo.heap.size + 1) (.slice Ab nb cb) bs := OR.mono hob2 (by omega)
    go_wp2_with fail
    refine ret_MB (b := wo.heap.size) (r := r) (c := c) (A := Am) (n := nm) (cap := cm) Try.results95 rfl (Kb hvr) rfl ?_
    exact ⟨r, c, Am, nm, cm, ys, Ab, nb, cb, bs, rfl, OR.mono (B := wo.heap.size + 1) (Ko KM) (by omega), OR.mono (B := wo.heap.size + 1) (Ko KB) (by omega), by omega, by omega, Kw⟩
  · have M := isMat_iff.1 hm
    obtain ⟨R, rfl⟩ := nat_of M.r0
    obtain ⟨C, rfl⟩ := nat_of M.c0
    have hR24 : R ≤ 24 := by have := M.r1; omega
    have hC24 : C ≤ 24 := by have := M.c1; omega
    have HM := Lib.hid hm
    clear hm M
    refine (spec_IsMatrix R C Am nm cm ys _ (C := w2.heap.size) ho.reads (Nat.le_refl _) (by omega)).mono ?_
    rw [HM.out]
    rintro e w3 ⟨rfl, hb3⟩
    have hsz3 := hb3.size
    have hct_1 : CT w w3 wo.heap.size b n cap A xs := (by (with_reducible (repeat (first | exact hct | refine CT.drew ?_ | refine CT.drewN ?_ _ | refine CT.alloc ?_ _ | refine CT.far ?_ Ks _ | refine CT.below ?_ (by assumption) Ks)))); have hR_1 : BM w3 wo.heap.size 0 0 none 0 0 := (Kb hR); have hM_1 : BM w3 bM (R) (C) Am nm cm := (Kb hM); have ho_1 : OR w3 w.heap.size (.slice Am nm cm) ys := (Ko ho); clear oa ob oc of ol ra rb rc rf rl; clear hct hM hR ho; have hct := hct_1; have hM := hM_1; have hR := hR_1; have ho := ho_1; clear hct_1 hM_1 hR_1 ho_1; obtain ⟨oa, ob, oc, of, ol⟩ := hM.mx; obtain ⟨ra, rb, rc, rf, rl⟩ := hR.mx
    clear hb3
    go_wp2_with fail
    refine (spec_l1Once b n cap A xs 2 _ (CT.self (w0 := w) (B := wo.heap.size) (by (with_reducible (repeat (first | exact hct | refine CT.drew ?_ | refine CT.drewN ?_ _ | refine CT.alloc ?_ _ | refine CT.far ?_ Ks _ | refine CT.below ?_ (by assumption) Ks)))))).mono ?_
    rintro e w4 ⟨v, rfl, ⟨q, rfl⟩, hc1⟩
    have hct_1 : CT w w4 wo.heap.size b n cap A xs := CT.trans (by (with_reducible (repeat (first | exact hct | refine CT.drew ?_ | refine CT.drewN ?_ _ | refine CT.alloc ?_ _ | refine CT.far ?_ Ks _ | refine CT.below ?_ (by assumption) Ks)))) hc1; have hR_1 : BM w4 wo.heap.size 0 0 none 0 0 := BX.grown (Kb hR) hc1.gr (fun e => by injection e; omega); have hM_1 : BM w4 bM (R) (C) Am nm cm := BX.grown (Kb hM) hc1.gr (fun e => by injection e; omega); have ho_1 : OR w4 w.heap.size (.slice Am nm cm) ys := OR.turned (Ko ho) hc1 (by omega); clear oa ob oc of ol ra rb rc rf rl; clear hct hM hR ho; have hct := hct_1; have hM := hM_1; have hR := hR_1; have ho := ho_1; clear hct_1 hM_1 hR_1 ho_1; have hszw4 := hc1.size; (try simp at hszw4); clear hc1; obtain ⟨oa, ob, oc, of, ol⟩ := hM.mx; obtain ⟨ra, rb, rc, rf, rl⟩ := hR.mx
    rcases q with _ | _
    · go_wp2_with fail
      ((refine wp_region_held_drew (S := (fun w' => w'.cell? ⟨bM, 0, none⟩ = some (.int .i64 (R)) ∧ w'.cell? ⟨bM, 1, none⟩ = some (.int .i64 (C)) ∧ w'.cell? ⟨bM, 2, none⟩ = some (.slice Am nm cm))) (by kernel_rfl) ?_ (fun hHeld => ?_)); ((focus ((try dsimp only); (go_keep)))); ((refine tk_ (i := 0) (v := ?_) (y := Or.inl ⟨by rfl, ?_⟩) (h := ?_); rotate_left; (focus (((intro w hSw; (try dsimp only at hSw); go_simp) <;> (try with_reducible rfl)); done)); (try simp only [Act.put, p1_, p2_, p3_]))); ((refine tk_ (i := 1) (v := ?_) (y := Or.inl ⟨by rfl, ?_⟩) (h := ?_); rotate_left; (focus (((intro w hSw; (try dsimp only at hSw); go_simp) <;> (try with_reducible rfl)); done)); (try simp only [Act.put, p1_, p2_, p3_]))); ((refine tk_ (i := 2) (v := ?_) (y := Or.inl ⟨by rfl, ?_⟩) (h := ?_); rotate_left; (focus (((intro w hSw; (try dsimp only at hSw); go_simp) <;> (try with_reducible rfl)); done)); (try simp only [Act.put, p1_, p2_, p3_]))); ((refine tk_ (i := 3) (v := ?_) (y := Or.inl ⟨by rfl, ?_⟩) (h := ?_); rotate_left; (focus (((intro w hSw; (try dsimp only at hSw); go_simp) <;> (try with_reducible rfl)); done)); (try simp only [Act.put, p1_, p2_, p3_]))); (refine wpAnyH_ready (rs := [4]) (by kernel_rfl) (by simp) ?_); (refine AllReadyH.cons (by simp only [e1_, e2_, e3_]; try rfl) ?_ ?_); ((focus ((intro K hK); (go_simp); ((go_at_call 122; refine (spec_l8Right b n cap A xs (R) _ (CT.self (w0 := w) (B := wo.heap.size) (by (with_reducible (repeat (first | exact hct | refine CT.drew ?_ | refine CT.drewN ?_ _ | refine CT.alloc ?_ _ | refine CT.far ?_ Ks _ | refine CT.below ?_ (by assumption) Ks))))) (by omega)).mono ?_; rintro e w8 ⟨v, rfl, ⟨Ab, nb, cb, bs, rfl, hob, hlb⟩, hc1⟩; have hob2 : OR w8 (wo.heap.size + 1) (.slice Ab nb cb) bs := OR.mono hob Ks; clear hob; have hct_1 : CT w w8 wo.heap.size b n cap A xs := CT.trans (by (with_reducible (repeat (first | exact hct | refine CT.drew ?_ | refine CT.drewN ?_ _ | refine CT.alloc ?_ _ | refine CT.far ?_ Ks _ | refine CT.below ?_ (by assumption) Ks)))) hc1; have hR_1 : BM w8 wo.heap.size 0 0 none 0 0 := BX.grown (Kb hR) hc1.gr (fun e => by injection e; omega); have hM_1 : BM w8 bM ((R)) ((C)) Am nm cm := BX.grown (Kb hM) hc1.gr (fun e => by injection e; omega); have ho_1 : OR w8 w.heap.size (.slice Am nm cm) ys := OR.turned (Ko ho) hc1 (by omega); clear oa ob oc of ol ra rb rc rf rl; clear hct hM hR ho; have hct := hct_1; have hM := hM_1; have hR := hR_1; have ho := ho_1; clear hct_1 hM_1 hR_1 ho_1; have hszw8 := hc1.size; (try simp at hszw8); clear hc1; obtain ⟨oa, ob, oc, of, ol⟩ := hM.mx; obtain ⟨ra, rb, rc, rf, rl⟩ := hR.mx)); ((try go_wp2_with fail)); (refine hK.out _ _ ?_ (fun hHeld => ?_)); ((focus ((try dsimp only); (go_keep)))); (clear hK K); ((try simp only [Act.put, p1_, p2_, p3_])); (refine wpAnyH_ready (rs := [5]) (by kernel_rfl) (by simp) ?_); (refine AllReadyH.cons (by simp only [e1_, e2_, e3_]; try rfl) ?_ ?_); ((focus ((intro K hK); (go_simp); ((try go_wp2_with fail)); (refine hK.out _ _ ?_ (fun hHeld => ?_)); ((focus ((try dsimp only); (go_keep)))); (clear hK K); ((try simp only [Act.put, p1_, p2_, p3_])); ((refine tk_ (i := 6) (v := ?_) (y := Or.inl ⟨by rfl, ?_⟩) (h := ?_); rotate_left; (focus (((intro w hSw; (try dsimp only at hSw); go_simp) <;> (try with_reducible rfl)); done)); (try simp only [Act.put, p1_, p2_, p3_]))); (refine wpAnyH_done (by kernel_rfl) ?_ _)))); (rotate_left 1); (exact AllReadyH.nil)))); (rotate_left 1); (exact AllReadyH.nil))
      have hvr := B3.of hR
      have hbw8 : Below wo.heap.size wo w8 := HB0.out.trans (CT.under hct (by omega))
      have KM : OR w8 (wo.heap.size + 1) (.slice Am nm cm) ys := OR.mono ho (by omega)
      have KB : OR w8 (wo.heap.size + 1) (.slice Ab nb cb) bs := OR.mono hob2 (by omega)
      go_wp2_with fail
      refine ret_MB (b := wo.heap.size) (r := R) (c := C) (A := Am) (n := nm) (cap := cm) Try.results95 rfl (Kb hvr) rfl ?_
      exact ⟨R, C, Am, nm, cm, ys, Ab, nb, cb, bs, rfl, OR.mono (B := wo.heap.size + 1) (Ko KM) (by omega), OR.mono (B := wo.heap.size + 1) (Ko KB) (by omega), by omega, by omega, Kw⟩
    · go_wp2_with fail
      refine (spec_l3Draw1 b n cap A xs C 5 _ (CT.self (w0 := w) (B := wo.heap.size) (by (with_reducible (repeat (first | exact hct | refine CT.drew ?_ | refine CT.drewN ?_ _ | refine CT.alloc ?_ _ | refine CT.far ?_ Ks _ | refine CT.below ?_ (by assumption) Ks))))) hC24 (by omega)).mono ?_
      rintro e w5 ⟨v, rfl, ⟨Ax, nx, cx, zs, rfl, hox, hlx, hbx⟩, hc1⟩
      have hlx2 := OR.lenEq (xs := zs) hox
      have M2 : IsM C 1 zs := ⟨by omega, by omega, by omega, by omega, by rw [hlx, Int.mul_one], by
        rw [List.all_eq_true]
        intro z hz
        obtain ⟨k, hk, rfl⟩ := List.getElem_of_mem hz
        have := hbx k
        rw [show zs.getD k 0 = zs[k] by simp [List.getD, hk]] at this
        exact (isNum_iff _).2 ⟨by omega, by omega⟩⟩
      have HM2 := Lib.hid M2
      have HOX0 : OR w5 (w.heap.size + 1) (.slice Ax nx cx) zs := OR.mono (xs := zs) hox (by omega)
      have hb5 : b < w4.heap.size := hc1.hb
      have hct_1 : CT w w5 wo.heap.size b n cap A xs := CT.trans (by (with_reducible (repeat (first | exact hct | refine CT.drew ?_ | refine CT.drewN ?_ _ | refine CT.alloc ?_ _ | refine CT.far ?_ Ks _ | refine CT.below ?_ (by assumption) Ks)))) hc1; have hR_1 : BM w5 wo.heap.size 0 0 none 0 0 := BX.grown (Kb hR) hc1.gr (fun e => by injection e; omega); have hM_1 : BM w5 bM (R) (C) Am nm cm := BX.grown (Kb hM) hc1.gr (fun e => by injection e; omega); have ho_1 : OR w5 w.heap.size (.slice Am nm cm) ys := OR.turned (Ko ho) hc1 (by omega); clear oa ob oc of ol ra rb rc rf rl; clear hct hM hR ho; have hct := hct_1; have hM := hM_1; have hR := hR_1; have ho := ho_1; clear hct_1 hM_1 hR_1 ho_1; have hszw5 := hc1.size; (try simp at hszw5); clear hc1; obtain ⟨oa, ob, oc, of, ol⟩ := hM.mx; obtain ⟨ra, rb, rc, rf, rl⟩ := hR.mx
      have hnx : nx ≤ 1048576 := by omega
      clear hox hbx M2 hlx hlx2
      have hX : BM (w5.alloc (.cells #[.int .i64 C, .int .i64 1, .slice Ax nx cx] 26)) w5.heap.size C 1 Ax nx cx := Ka
      have hct6 : CT w (w5.alloc (.cells #[.int .i64 C, .int .i64 1, .slice Ax nx cx] 26)) wo.heap.size b n cap A xs := hct.alloc _
      have hR6 : BM (w5.alloc (.cells #[.int .i64 C, .int .i64 1, .slice Ax nx cx] 26)) wo.heap.size 0 0 none 0 0 := Kb hR
      have hM6 : BM (w5.alloc (.cells #[.int .i64 C, .int .i64 1, .slice Ax nx cx] 26)) bM R C Am nm cm := Kb hM
      have ho6 : OR (w5.alloc (.cells #[.int .i64 C, .int .i64 1, .slice Ax nx cx] 26)) w.heap.size (.slice Am nm cm) ys := ho.alloc _
      have hox6 : OR (w5.alloc (.cells #[.int .i64 C, .int .i64 1, .slice Ax nx cx] 26)) (w.heap.size + 1) (.slice Ax nx cx) zs := HOX0.alloc _
      have hs6 : w5.heap.size < (w5.alloc (.cells #[.int .i64 C, .int .i64 1, .slice Ax nx cx] 26)).heap.size := by simp
      clear oa ob oc of ol ra rb rc rf rl
      clear hct hR hM ho HOX0
      have hct := hct6
      have hR := hR6
      have hM := hM6
      have ho := ho6
      clear hct6 hR6 hM6 ho6
      obtain ⟨oa, ob, oc, of, ol⟩ := hM.mx; obtain ⟨ra, rb, rc, rf, rl⟩ := hR.mx
      obtain ⟨xa, xb, xc, xf, xl⟩ := hX.mx
      go_upto_region 5 with fail
      generalize (w5.alloc (.cells #[.int .i64 C, .int .i64 1, .slice Ax nx cx] 26)) = w6 at *
      generalize hbx : w5.heap.size = bX at *
      have hbX : bM < bX := by omega
      have hlX := hX.lt
      have ne3 : ¬ bX = wo.heap.size := by omega
      have ne4 : ¬ wo.heap.size = bX := by omega
      have ne5 : ¬ bX = bM := by omega
      have ne6 : ¬ bM = bX := by omega
      clear hbx
      ((refine wp_region_held_drew (S := (fun w' => w'.cell? ⟨bM, 0, none⟩ = some (.int .i64 R) ∧ w'.cell? ⟨bM, 1, none⟩ = some (.int .i64 C) ∧ w'.cell? ⟨bM, 2, none⟩ = some (.slice Am nm cm) ∧ w'.cell? ⟨bX, 0, none⟩ = some (.int .i64 C) ∧ w'.cell? ⟨bX, 1, none⟩ = some (.int .i64 1) ∧ w'.cell? ⟨bX, 2, none⟩ = some (.slice Ax nx cx))) (by kernel_rfl) ?_ (fun hHeld => ?_)); ((focus ((try dsimp only); ((first | (go_keep; done) | exact ⟨oa, ob, oc, xa, xb, xc⟩))))); ((refine tk_ (i := 0) (v := ?_) (y := Or.inl ⟨by rfl, ?_⟩) (h := ?_); rotate_left; (focus (((intro w hSw; (try dsimp only at hSw); go_simp) <;> (try with_reducible rfl)); done)); (try simp only [Act.put, p1_, p2_, p3_]))); ((refine tk_ (i := 1) (v := ?_) (y := Or.inl ⟨by rfl, ?_⟩) (h := ?_); rotate_left; (focus (((intro w hSw; (try dsimp only at hSw); go_simp) <;> (try with_reducible rfl)); done)); (try simp only [Act.put, p1_, p2_, p3_]))); ((refine tk_ (i := 2) (v := ?_) (y := Or.inl ⟨by rfl, ?_⟩) (h := ?_); rotate_left; (focus (((intro w hSw; (try dsimp only at hSw); go_simp) <;> (try with_reducible rfl)); done)); (try simp only [Act.put, p1_, p2_, p3_]))); (refine wpAnyH_ready (rs := [3]) (by kernel_rfl) (by simp) ?_); (refine AllReadyH.cons (by simp only [e1_, e2_, e3_]; try rfl) ?_ ?_); ((focus ((intro K hK); (go_simp); ((go_at_call 171; refine (spec_l3Mul1 R C Am Ax nm cm nx cx ys zs _ (B := w6.heap.size) (B' := w6.heap.size) (by have q := ho.reads; (with_reducible (repeat (first | exact q | refine RI.drew ?_ | refine RI.drewN ?_ _ | refine RI.a_ ?_ | refine RI.s_ ?_ | refine RI.b_ ?_)))) (by have q := hox6.reads; (with_reducible (repeat (first | exact q | refine RI.drew ?_ | refine RI.drewN ?_ _ | refine RI.a_ ?_ | refine RI.s_ ?_ | refine RI.b_ ?_)))) Ks Ks (by omega) hnx (isMat_iff.1 HM.out) HM2.out).mono ?_; rintro e w8 ⟨Ab, nb, cb, rfl, hob_, hb8⟩; have hsz8 := hb8.size; (try simp at hsz8); have hob : OR w8 (wo.heap.size + 1) (.slice Ab nb cb) (mulL ys R C zs 1) := OR.mono (xs := mulL ys R C zs 1) hob_ Ks; clear hob_; have hX_1 : BM w8 bX C 1 Ax nx cx := (Kb hX); have hct_1 : CT w w8 wo.heap.size b n cap A xs := (by (with_reducible (repeat (first | exact hct | refine CT.drew ?_ | refine CT.drewN ?_ _ | refine CT.alloc ?_ _ | refine CT.far ?_ Ks _ | refine CT.below ?_ (by assumption) Ks)))); have hR_1 : BM w8 wo.heap.size 0 0 none 0 0 := (Kb hR); have hM_1 : BM w8 bM (R) (C) Am nm cm := (Kb hM); have ho_1 : OR w8 w.heap.size (.slice Am nm cm) ys := (Ko ho); clear oa ob oc of ol ra rb rc rf rl; clear hct hM hR ho; have hct := hct_1; have hM := hM_1; have hR := hR_1; have ho := ho_1; clear hct_1 hM_1 hR_1 ho_1; obtain ⟨oa, ob, oc, of, ol⟩ := hM.mx; obtain ⟨ra, rb, rc, rf, rl⟩ := hR.mx; clear xa xb xc xf xl hX hb8; obtain ⟨xa, xb, xc, xf, xl⟩ := hX_1.mx)); ((try go_wp2_with fail)); (refine hK.out _ _ ?_ (fun hHeld => ?_)); ((focus ((try dsimp only); ((first | (go_keep; done) | exact ⟨oa, ob, oc, xa, xb, xc⟩))))); (clear hK K); ((try simp only [Act.put, p1_, p2_, p3_])); ((refine tk_ (i := 4) (v := ?_) (y := Or.inl ⟨by rfl, ?_⟩) (h := ?_); rotate_left; (focus (((intro w hSw; (try dsimp only at hSw); go_simp) <;> (try with_reducible rfl)); done)); (try simp only [Act.put, p1_, p2_, p3_]))); (refine wpAnyH_ready (rs := [5]) (by kernel_rfl) (by simp) ?_); (refine AllReadyH.cons (by simp only [e1_, e2_, e3_]; try rfl) ?_ ?_); ((focus ((intro K hK); (go_simp); ((try go_wp2_with fail)); (refine hK.out _ _ ?_ (fun hHeld => ?_)); ((focus ((try dsimp only); ((first | (go_keep; done) | exact ⟨oa, ob, oc, xa, xb, xc⟩))))); (clear hK K); ((try simp only [Act.put, p1_, p2_, p3_])); ((refine tk_ (i := 6) (v := ?_) (y := Or.inl ⟨by rfl, ?_⟩) (h := ?_); rotate_left; (focus (((intro w hSw; (try dsimp only at hSw); go_simp) <;> (try with_reducible rfl)); done)); (try simp only [Act.put, p1_, p2_, p3_]))); (refine wpAnyH_done (by kernel_rfl) ?_ _)))); (rotate_left 1); (exact AllReadyH.nil)))); (rotate_left 1); (exact AllReadyH.nil))
      have hvr := B3.of hR
      have hbw8 : Below wo.heap.size wo w8 := HB0.out.trans (CT.under hct (by omega))
      have KM : OR w8 (wo.heap.size + 1) (.slice Am nm cm) ys := OR.mono ho (by omega)
      go_wp2_with fail
      refine ret_MB (b := wo.heap.size) (r := R) (c := C) (A := Am) (n := nm) (cap := cm) Try.results95 rfl (Kb hvr) rfl ?_
      exact ⟨R, C, Am, nm, cm, ys, Ab, nb, cb, mulL ys R C zs 1, rfl, OR.mono (B := wo.heap.size + 1) (Ko KM) (by omega), OR.mono (B := wo.heap.size + 1) (Ko hob) (by omega), by omega, by rw [mulL_len]; omega, Kw⟩
theorem RB.more {w : World} {B B' n : Nat} {A : Option Addr} {xs : List Int} (h : RB w B A n xs) (hB : B ≤ B') : RB w B' A n xs :=
  ⟨h.1, fun hn => by
    obtain ⟨b, o, e, hb, hc⟩ := h.2.1 hn
    exact ⟨b, o, e, by omega, hc⟩, h.2.2⟩
end Go.Proofs.Ytacjonkehcamgaa

/-
  DERIVED. MultiplyMatrices of the reference.
-/
namespace Go.Proofs.Ytacjonkehcamgaa
open Go.RowKit
set_option linter.unusedVariables false
set_option linter.unusedSimpArgs false
set_option maxRecDepth 100000 in
set_option maxHeartbeats 8000000 in
theorem spec_MultiplyMatrices (r c r2 c2 : Int) (A A' : Option Addr) (n cap n' cap' : Nat) (xs ys : List Int) (w : World) {B B' : Nat} (h : RI w B A n xs) (h' : RI w B' A' n' ys) (hB : B ≤ w.heap.size) (hB' : B' ≤ w.heap.size) (hn : n ≤ 1048576) (hn' : n' ≤ 1048576) :
    Calls Try.prog 228 #[.agg #[.int .i64 r, .int .i64 c, .slice A n cap], .agg #[.int .i64 r2, .int .i64 c2, .slice A' n' cap']] w (MBR (mulM r c xs r2 c2 ys) (mulB r c xs r2 c2 ys) w) := by
  have hlen := h.len
  have hlen' := h'.len
  have H2 := Lib.hid (h.more hB)
  have H3 := Lib.hid (h'.more hB')
  clear h h' hB hB'
  rcases mul_cases r c xs r2 c2 ys with ⟨hb0, hm⟩ | ⟨hb0, hm, hm2⟩ | ⟨hb0, hm, hm2, hne⟩ | ⟨hb0, hm, hm2, hne⟩
  · rw [mulM_no hb0, hb0]
    have HM := Lib.hid hm
    clear hb0 hm
    go_enter Try.func228, Try.ntmps228
    go_wp2_with fail
    (refine (spec_IsMatrix r c A n cap xs _ (C := w.heap.size) (Kr H2.out) Ks hn).mono ?_; rw [HM.out]; rintro e w1 ⟨rfl, hb⟩; have hsz := hb.size; simp at hsz; have hA : BM w1 w.heap.size r c A n cap := Ka; have hB : BM w1 (w.heap.size + 1) r2 c2 A' n' cap' := Ka; have hR : BM w1 (w.heap.size + 1 + 1) 0 0 none 0 0 := Ka; have hbw : Below w.heap.size w w1 := Kw; obtain ⟨aa, ab, ac, af, al⟩ := hA.mx; obtain ⟨ba, bb, bc, bf, bl⟩ := hB.mx; obtain ⟨ra, rb, rc, rf, rl⟩ := hR.mx)
    go_wp2_with fail
    refine ret_MB (r := 0) (c := 0) (A := none) (n := 0) (cap := 0) Try.results228 rfl (Kb hR) rfl ?_
    exact MBR.mk rfl (OR.nil_ _ _) Kw
  · rw [mulM_no hb0, hb0]
    have HM := Lib.hid hm
    have HM2 := Lib.hid hm2
    clear hb0 hm hm2
    go_enter Try.func228, Try.ntmps228
    go_wp2_with fail
    (refine (spec_IsMatrix r c A n cap xs _ (C := w.heap.size) (Kr H2.out) Ks hn).mono ?_; rw [HM.out]; rintro e w1 ⟨rfl, hb⟩; have hsz := hb.size; simp at hsz; have hA : BM w1 w.heap.size r c A n cap := Ka; have hB : BM w1 (w.heap.size + 1) r2 c2 A' n' cap' := Ka; have hR : BM w1 (w.heap.size + 1 + 1) 0 0 none 0 0 := Ka; have hbw : Below w.heap.size w w1 := Kw; obtain ⟨aa, ab, ac, af, al⟩ := hA.mx; obtain ⟨ba, bb, bc, bf, bl⟩ := hB.mx; obtain ⟨ra, rb, rc, rf, rl⟩ := hR.mx)
    go_wp2_with fail
    (refine (spec_IsMatrix r2 c2 A' n' cap' ys _ (C := w.heap.size) (Kr H3.out) Ks hn').mono ?_; rw [HM2.out]; rintro e w2 ⟨rfl, hb2⟩; have hsz2 := hb2.size; have hA2 : BM w2 w.heap.size r c A n cap := (Kb hA); have hB2 : BM w2 (w.heap.size + 1) r2 c2 A' n' cap' := (Kb hB); have hR2 : BM w2 (w.heap.size + 1 + 1) 0 0 none 0 0 := (Kb hR); have hbw2 : Below w.heap.size w w2 := Kw; clear hA hB hR hbw aa ab ac af al ba bb bc bf bl ra rb rc rf rl; obtain ⟨aa, ab, ac, af, al⟩ := hA2.mx; obtain ⟨ba, bb, bc, bf, bl⟩ := hB2.mx; obtain ⟨ra, rb, rc, rf, rl⟩ := hR2.mx)
    go_wp2_with fail
    refine ret_MB (r := 0) (c := 0) (A := none) (n := 0) (cap := 0) Try.results228 rfl (Kb hR2) rfl ?_
    exact MBR.mk rfl (OR.nil_ _ _) Kw
  · rw [mulM_no hb0, hb0]
    have HM := Lib.hid hm
    have HM2 := Lib.hid hm2
    have hnb : (c != r2) = true := by simpa using hne
    clear hb0 hm hm2 hne
    go_enter Try.func228, Try.ntmps228
    go_wp2_with fail
    (refine (spec_IsMatrix r c A n cap xs _ (C := w.heap.size) (Kr H2.out) Ks hn).mono ?_; rw [HM.out]; rintro e w1 ⟨rfl, hb⟩; have hsz := hb.size; simp at hsz; have hA : BM w1 w.heap.size r c A n cap := Ka; have hB : BM w1 (w.heap.size + 1) r2 c2 A' n' cap' := Ka; have hR : BM w1 (w.heap.size + 1 + 1) 0 0 none 0 0 := Ka; have hbw : Below w.heap.size w w1 := Kw; obtain ⟨aa, ab, ac, af, al⟩ := hA.mx; obtain ⟨ba, bb, bc, bf, bl⟩ := hB.mx; obtain ⟨ra, rb, rc, rf, rl⟩ := hR.mx)
    go_wp2_with fail
    (refine (spec_IsMatrix r2 c2 A' n' cap' ys _ (C := w.heap.size) (Kr H3.out) Ks hn').mono ?_; rw [HM2.out]; rintro e w2 ⟨rfl, hb2⟩; have hsz2 := hb2.size; have hA2 : BM w2 w.heap.size r c A n cap := (Kb hA); have hB2 : BM w2 (w.heap.size + 1) r2 c2 A' n' cap' := (Kb hB); have hR2 : BM w2 (w.heap.size + 1 + 1) 0 0 none 0 0 := (Kb hR); have hbw2 : Below w.heap.size w w2 := Kw; clear hA hB hR hbw aa ab ac af al ba bb bc bf bl ra rb rc rf rl; obtain ⟨aa, ab, ac, af, al⟩ := hA2.mx; obtain ⟨ba, bb, bc, bf, bl⟩ := hB2.mx; obtain ⟨ra, rb, rc, rf, rl⟩ := hR2.mx)
    go_wp2_with fail
    refine ret_MB (r := 0) (c := 0) (A := none) (n := 0) (cap := 0) Try.results228 rfl (Kb hR2) rfl ?_
    exact MBR.mk rfl (OR.nil_ _ _) Kw
  · subst hne
    have M := isMat_iff.1 hm
    have M2 := isMat_iff.1 hm2
    have HM := Lib.hid hm
    have HM2 := Lib.hid hm2
    have HB0 := Lib.hid hb0
    have HMM := Lib.hid M
    have HMM2 := Lib.hid M2
    obtain ⟨R, rfl⟩ := nat_of M.r0
    obtain ⟨C, rfl⟩ := nat_of M.c0
    obtain ⟨C2, rfl⟩ := nat_of M2.c0
    have hR' := M.r1
    have hC := M.c1
    have hC2 := M2.c1
    have hl1 : (n : Int) ≤ (R : Int) * (C : Int) ∧ (R : Int) * (C : Int) ≤ n := by have := M.len; omega
    have hl2 : (n' : Int) ≤ (C : Int) * (C2 : Int) ∧ (C : Int) * (C2 : Int) ≤ n' := by have := M2.len; omega
    have hLL : Hid ((mulL xs R C ys C2).length ≤ 576) := Lib.hid (by rw [mulL_len]; have := Nat.mul_le_mul (show R ≤ 24 by omega) (show C2 ≤ 24 by omega); omega)
    clear hm hm2 hb0 M M2 hlen hlen'
    go_enter Try.func228, Try.ntmps228
    go_wp2_with fail
    (refine (spec_IsMatrix R C A n cap xs _ (C := w.heap.size) (Kr H2.out) Ks hn).mono ?_; rw [HM.out]; rintro e w1 ⟨rfl, hb⟩; have hsz := hb.size; simp at hsz; have hA : BM w1 w.heap.size R C A n cap := Ka; have hB : BM w1 (w.heap.size + 1) C C2 A' n' cap' := Ka; have hR : BM w1 (w.heap.size + 1 + 1) 0 0 none 0 0 := Ka; have hbw : Below w.heap.size w w1 := Kw; obtain ⟨aa, ab, ac, af, al⟩ := hA.mx; obtain ⟨ba, bb, bc, bf, bl⟩ := hB.mx; obtain ⟨ra, rb, rc, rf, rl⟩ := hR.mx)
    go_wp2_with fail
    (refine (spec_IsMatrix C C2 A' n' cap' ys _ (C := w.heap.size) (Kr H3.out) Ks hn').mono ?_; rw [HM2.out]; rintro e w2 ⟨rfl, hb2⟩; have hsz2 := hb2.size; have hA2 : BM w2 w.heap.size R C A n cap := (Kb hA); have hB2 : BM w2 (w.heap.size + 1) C C2 A' n' cap' := (Kb hB); have hR2 : BM w2 (w.heap.size + 1 + 1) 0 0 none 0 0 := (Kb hR); have hbw2 : Below w.heap.size w w2 := Kw; clear hA hB hR hbw aa ab ac af al ba bb bc bf bl ra rb rc rf rl; obtain ⟨aa, ab, ac, af, al⟩ := hA2.mx; obtain ⟨ba, bb, bc, bf, bl⟩ := hB2.mx; obtain ⟨ra, rb, rc, rf, rl⟩ := hR2.mx)
    go_wp2_with fail
    refine (spec_l3Mul R C C2 A A' n cap n' cap' xs ys _ (B := w.heap.size) (B' := w.heap.size) (Kr H2.out) (Kr H3.out) Ks Ks hn hn' HMM.out HMM2.out).mono ?_
    rintro e w3 ⟨Ao, no, co, rfl, hown, hb3⟩
    have hsz3 := hb3.size
    have hno : no ≤ 1048576 := by have h8 : no = (mulL xs R C ys C2).length := hown.lenEq; have h9 := hLL.out; omega
    have hR3 : BM w3 (w.heap.size + 1 + 1) 0 0 none 0 0 := Kb hR2
    have hbw3 : Below w.heap.size w w3 := Kw
    have hown3 : OR w3 (w.heap.size + 1 + 1 + 1) (.slice Ao no co) (mulL xs R C ys C2) := hown.mono (by omega)
    clear hA2 hB2 hR2 hbw2 aa ab ac af al ba bb bc bf bl ra rb rc rf rl hown hb hb2 hb3
    go_wp2_with fail
    rcases hres : isMat R C2 (mulL xs R C ys C2) with _ | _
    all_goals
      have HRES := Lib.hid hres
      refine (spec_l3Done R C2 Ao no co _ _ (OR.reads (B := w.heap.size + 1 + 1 + 1) (Ko hown3)) (Nat.le_refl _) hno).mono ?_
      rw [HRES.out]
      first | rw [chkV_t] | rw [chkV_f]
      rintro e w5 ⟨rfl, hb5⟩
      have hsz5 := hb5.size
      have hR5 : BM w5 (w.heap.size + 1 + 1) 0 0 none 0 0 := Kb hR3
      have hfin5 : OR w5 (w.heap.size + 1 + 1 + 1) (.slice Ao no co) (mulL xs R C ys C2) := Ko hown3
      have hbw5 : Below w.heap.size w w5 := Kw
      obtain ⟨ra, rb, rc, rf, rl⟩ := hR5.mx
      clear hR3 hbw3 hb5 hres hown3
      go_wp2_with fail
    · have hb6 : mulB R C xs C C2 ys = false := by rw [HB0.out]; simpa using HRES.out
      rw [mulM_no hb6, hb6]
      refine ret_MB (r := 0) (c := 0) (A := none) (n := 0) (cap := 0) Try.results228 rfl (Kb hR5) rfl ?_
      exact MBR.mk rfl (OR.nil_ _ _) Kw
    · have hb6 : mulB R C xs C C2 ys = true := by rw [HB0.out]; simpa using HRES.out
      rw [mulM_yes hb6, hb6]
      refine ret_MB (r := R) (c := C2) (A := Ao) (n := no) (cap := co) Try.results228 rfl (Kb hR5) rfl ?_
      exact MBR.mk (xs := mulL xs R C ys C2) (by simp) (OR.mono (B := w.heap.size + 1 + 1 + 1) (Ko hfin5) (by omega)) Kw
end Go.Proofs.Ytacjonkehcamgaa

/-
  DERIVED. l14Times, IsSolution of the reference.
-/
namespace Go.Proofs.Ytacjonkehcamgaa
open Go.RowKit
set_option linter.unusedVariables false
set_option linter.unusedSimpArgs false
/-- The call returned an own slice and a flag. -/
def IBR (ys : List Int) (b : Bool) (w : World) (e : Ending) (w' : World) : Prop :=
  ∃ A n cap, e = .returned (.tuple #[.slice A n cap, .bool b]) ∧ OR w' w.heap.size (.slice A n cap) ys ∧ Below w.heap.size w w'
theorem IBR.mk {ys zs : List Int} {b : Bool} {A : Option Addr} {n cap : Nat} {w w' : World} (hz : ys = zs) (ho : OR w' w.heap.size (.slice A n cap) zs) (hb : Below w.heap.size w w') :
    IBR ys b w (.returned (.tuple #[.slice A n cap, .bool b])) w' := by subst hz; exact ⟨A, n, cap, rfl, ho, hb⟩
/-- Numbers solve a system. -/
def solB (r c : Int) (xs b x : List Int) : Bool := mulB r c xs x.length 1 x && eqB (mulM r c xs x.length 1 x).xs b
theorem mulM_len (r c : Int) (xs : List Int) (r2 c2 : Int) (ys : List Int) : (mulM r c xs r2 c2 ys).xs.length ≤ 576 := by
  unfold mulM
  split
  · rename_i h
    unfold mulB at h
    simp only [Bool.and_eq_true] at h
    have M := isMat_iff.1 h.1.1.1
    have M2 := isMat_iff.1 h.1.1.2
    show (mulL xs r.toNat c.toNat ys c2.toNat).length ≤ 576
    rw [mulL_len]
    have := Nat.mul_le_mul (show r.toNat ≤ 24 by have := M.r1; omega) (show c2.toNat ≤ 24 by have := M2.c1; omega)
    omega
  · simp [Mx.none]
set_option maxRecDepth 100000 in
set_option maxHeartbeats 4000000 in
theorem spec_l14Times (r c : Int) (A A3 : Option Addr) (n cap n3 cap3 : Nat) (xs x : List Int) (w : World) {B B3' : Nat} (h : RI w B A n xs) (h3 : RI w B3' A3 n3 x) (hB : B ≤ w.heap.size) (hB3 : B3' ≤ w.heap.size) (hn : n ≤ 1048576) (hn3 : n3 ≤ 1048576) :
    Calls Try.prog 193 #[.agg #[.int .i64 r, .int .i64 c, .slice A n cap], .slice A3 n3 cap3] w (IBR (mulM r c xs n3 1 x).xs (mulB r c xs n3 1 x) w) := by
  have H1 := Lib.hid (h.more hB)
  have H3 := Lib.hid (h3.more hB3)
  clear h h3 hB hB3
  rcases hres : mulB r c xs n3 1 x with _ | _
  all_goals
    have HRES := Lib.hid hres
    have HN := mulM_no (r := r) (c := c) (xs := xs) (r2 := n3) (c2 := 1) (ys := x)
    clear hres
    have HNO := Lib.hid HN
    clear HN
    go_enter Try.func193, Try.ntmps193
    go_wp2_with fail
    refine (spec_MultiplyMatrices r c n3 1 A A3 n cap n3 cap3 xs x _ (B := w.heap.size) (B' := w.heap.size) (Kr H1.out) (Kr H3.out) Ks Ks hn hn3).mono ?_
    rw [HRES.out]
    rintro e w2 ⟨Ar, nr, cr, rfl, ho, hb2⟩
    have hs2 := hb2.size
    simp at hs2
    have hbw2 : Below w.heap.size w w2 := Kw
    have hown : OR w2 w.heap.size (.slice Ar nr cr) (mulM r c xs n3 1 x).xs := ho.mono Ks
    clear ho hb2
    go_wp2_with fail
    go_ret2
  · exact IBR.mk (by rw [HNO.out HRES.out]; rfl) (OR.empty' _ _ (by simp) Ks) Kw
  · exact IBR.mk rfl (Ko hown) Kw
end Go.Proofs.Ytacjonkehcamgaa

/-
  DERIVED. FactorsOf of both.
-/
namespace Go.Proofs.Ytacjonkehcamgaa
open Go.RowKit
set_option linter.unusedVariables false
set_option linter.unusedSimpArgs false
theorem OR.shapeF {w : World} {B : Nat} {v : Value} {xs : List Int} (h : OR w B v xs) : ∃ A c, v = .slice A xs.length c := by
  rcases h.form with ⟨h1, h2⟩ | ⟨g, cap, h1, _⟩
  · subst h2; exact ⟨none, 0, h1⟩
  · exact ⟨_, _, h1⟩
/-- A number of the diagonal; 0 beyond it. -/
def dgF (R C : Nat) (f : Fn2) (i : Nat) : Int := if i < R ∧ i < C then f i i else 0
theorem dgF_in {R C i : Nat} {f : Fn2} (h : i < R) (h2 : i < C) : dgF R C f i = f i i := by unfold dgF; rw [if_pos ⟨h, h2⟩]
theorem dgF_out {R C i : Nat} {f : Fn2} (h : ¬ (i < R ∧ i < C)) : dgF R C f i = 0 := by unfold dgF; rw [if_neg h]
theorem dgF_num {R C i : Nat} {f : Fn2} (h : OKF R C f) : Num (dgF R C f i) := by
  unfold dgF
  split
  · rename_i h2; exact h i i h2.1 h2.2
  · unfold Num; omega
def facK (d : Nat → Int) : Nat → List Int
  | 0 => []
  | n + 1 => facK d n ++ (if d n = 0 then [] else [d n])
theorem facK_skip {d : Nat → Int} {n : Nat} (h : d n = 0) : facK d (n + 1) = facK d n := by
  show facK d n ++ (if _ then _ else _) = _
  rw [if_pos h, List.append_nil]
theorem facK_add {d : Nat → Int} {n : Nat} (h : d n ≠ 0) : facK d (n + 1) = facK d n ++ [d n] := by
  show facK d n ++ (if _ then _ else _) = _
  rw [if_neg h]
theorem facK_len (d : Nat → Int) : ∀ n, (facK d n).length ≤ n
  | 0 => Nat.le_refl _
  | n + 1 => by
    have := facK_len d n
    by_cases h : d n = 0
    · rw [facK_skip h]; omega
    · rw [facK_add h, List.length_append, List.length_singleton]; omega
theorem facK_beyond {d : Nat → Int} {m : Nat} (h : ∀ i, m ≤ i → d i = 0) : ∀ k, facK d (m + k) = facK d m
  | 0 => rfl
  | k + 1 => by rw [show m + (k + 1) = m + k + 1 by omega, facK_skip (h _ (by omega)), facK_beyond h k]
def facO (r c : Int) : Option SS → List Int
  | some s => facK (dgF r.toNat c.toNat s.f) (min r.toNat c.toNat)
  | none => []
def facV (r c : Int) (xs : List Int) : List Int := facO r c (sfX r c xs)
theorem facO_rows (R C : Nat) (s : SS) : facO R C (some s) = facK (dgF R C s.f) R := by
  show facK (dgF R C s.f) (min R C) = _
  have := facK_beyond (d := dgF R C s.f) (m := min R C) (fun i hi => dgF_out (by omega)) (R - min R C)
  rw [show min R C + (R - min R C) = R by omega] at this
  exact this.symm
theorem facV_len (r c : Int) (xs : List Int) : (facV r c xs).length ≤ 1048576 := by
  unfold facV
  rcases h : sfX r c xs with _ | s
  · exact Nat.zero_le _
  · rcases hm : isMat r c xs with _ | _
    · rw [sfX_no hm] at h; cases h
    · have M := isMat_iff.1 hm
      have h1 := facK_len (dgF r.toNat c.toNat s.f) (min r.toNat c.toNat)
      have := M.r1
      show (facK _ _).length ≤ _
      omega
theorem impl_diagonal (R C i : Nat) (A : Option Addr) (n cap : Nat) (f : Fn2) (w : World) {B : Nat} (h : OR w B (.slice A n cap) (tb R C f)) (hi : i ≤ 100) (hR : R ≤ 24) (hC : C ≤ 24) :
    Calls Try.prog 101 #[.agg #[.int .i64 R, .int .i64 C, .slice A n cap], .int .i64 i] w (BV (.int .i64 (dgF R C f i)) w) := by
  by_cases h1 : i < R
  · by_cases h2 : i < C
    · rw [dgF_in h1 h2]
      generalize hv : f i i = v
      have HV := Lib.hid hv
      clear hv
      go_enter Try.func101, Try.ntmps101
      go_wp2_with fail
      refine (impl_at_tb R C i i A n cap f v HV.out _ (B := B) (Ko h) (by omega) (by omega) h1 h2).mono ?_
      rintro e w1 ⟨rfl, hb1⟩
      go_wp2_with fail
      go_ret
      exact BV.mk rfl Kw
    · rw [dgF_out (by omega)]
      go_enter Try.func101, Try.ntmps101
      go_wp2_with fail
      go_ret
      exact BV.mk rfl Kw
  · rw [dgF_out (by omega)]
    go_enter Try.func101, Try.ntmps101
    go_wp2_with fail
    go_ret
    exact BV.mk rfl Kw
end Go.Proofs.Ytacjonkehcamgaa

/-
  DERIVED. What SolveInteger and RefuteInteger answer: no program in sight.
-/
namespace Go.Proofs.Ytacjonkehcamgaa
set_option linter.unusedVariables false
theorem dropF_cons {xs : List Int} {k : Nat} (h : k < xs.length) : xs.drop k = xs.getD k 0 :: xs.drop (k + 1) := by
  rw [List.drop_eq_getElem_cons h]
  simp [List.getD, h]
/-- The first place whose number is no multiple. -/
def fwF (d : Nat → Int) : Nat → List Int → Option Nat
  | _, [] => none
  | k, x :: l => if d k ∣ x then fwF d (k + 1) l else some k
def fwV : Option Nat → Int
  | none => -1
  | some k => k
theorem fwF_yes {d : Nat → Int} {cs : List Int} {k : Nat} (hk : k < cs.length) (h : d k ∣ cs.getD k 0) : fwF d k (cs.drop k) = fwF d (k + 1) (cs.drop (k + 1)) := by
  rw [dropF_cons hk]
  show (if _ then _ else _) = _
  rw [if_pos h]
theorem fwF_no {d : Nat → Int} {cs : List Int} {k : Nat} (hk : k < cs.length) (h : ¬ d k ∣ cs.getD k 0) : fwF d k (cs.drop k) = some k := by
  rw [dropF_cons hk]
  show (if _ then _ else _) = _
  rw [if_neg h]
theorem fwF_end {d : Nat → Int} {cs : List Int} {k : Nat} (hk : cs.length ≤ k) : fwF d k (cs.drop k) = none := by
  rw [List.drop_of_length_le hk]; rfl
theorem fwF_none {d : Nat → Int} : ∀ (cs : List Int) (k : Nat), fwF d k cs = none → ∀ i, i < cs.length → d (k + i) ∣ cs.getD i 0
  | [], k, _, i, hi => absurd hi (Nat.not_lt_zero _)
  | x :: l, k, h, i, hi => by
    have h' : (if d k ∣ x then fwF d (k + 1) l else some k) = none := h
    split at h'
    · rename_i hd
      match i, hi with
      | 0, _ => simpa using hd
      | i + 1, hi =>
        have := fwF_none l (k + 1) h' i (by simpa using hi)
        rw [show k + (i + 1) = k + 1 + i by omega]
        simpa using this
    · cases h'
theorem fwF_some {d : Nat → Int} : ∀ (cs : List Int) (k q : Nat), fwF d k cs = some q → k ≤ q ∧ q < k + cs.length ∧ ¬ d q ∣ cs.getD (q - k) 0
  | [], k, q, h => by cases h
  | x :: l, k, q, h => by
    have h' : (if d k ∣ x then fwF d (k + 1) l else some k) = some q := h
    split at h'
    · obtain ⟨a, b, c⟩ := fwF_some l (k + 1) q h'
      refine ⟨by omega, by simp; omega, ?_⟩
      rw [show q - k = (q - (k + 1)) + 1 by omega]
      simpa using c
    · rename_i hd
      cases h'
      exact ⟨Nat.le_refl _, by simp, by rw [Nat.sub_self]; simpa using hd⟩
/-- The Smith form and the right side that belongs to it. -/
def siS (r c : Int) (xs bs : List Int) : Option (SS × List Int) := (sfX r c xs).bind fun s => if (bs.length : Int) = r ∧ mulB r r (tb r.toNat r.toNat s.g) bs.length 1 bs = true then some (s, mulL (tb r.toNat r.toNat s.g) r.toNat r.toNat bs 1) else none
/-- The image of the solution under the Smith form. -/
def siY (R C : Nat) (s : SS) (cs : List Int) : List Int := tab C fun i => (cs.getD i 0).tdiv (dgF R C s.f i)
def siR (r c : Int) (xs bs : List Int) : List Int × Int :=
  match siS r c xs bs with
  | none => ([], 2)
  | some (s, cs) =>
    match fwF (dgF r.toNat c.toNat s.f) 0 cs with
    | some _ => ([], 1)
    | none => if mulB c c (tb c.toNat c.toNat s.h) c 1 (siY r.toNat c.toNat s cs) then ((mulM c c (tb c.toNat c.toNat s.h) c 1 (siY r.toNat c.toNat s cs)).xs, 0) else ([], 2)
/-- The number that a refutation divides by. -/
def riN (d x : Int) : Int := if d = 0 then 2 * x else d
/-- The ratios of row k over n. -/
def riL (R : Nat) (g : Fn2) (k : Nat) (n : Int) : Nat → List Int
  | 0 => []
  | j + 1 => riL R g k n j ++ [(lowR (g k j) n).1, (lowR (g k j) n).2]
theorem riL_len (R : Nat) (g : Fn2) (k : Nat) (n : Int) : ∀ j, (riL R g k n j).length = j * 2
  | 0 => rfl
  | j + 1 => by
    show (riL R g k n j ++ [_, _]).length = _
    rw [List.length_append, riL_len R g k n j]
    simp; omega
def riR (r c : Int) (xs bs : List Int) : Nat × List Int × Int :=
  match siS r c xs bs with
  | none => (0, [], 2)
  | some (s, cs) =>
    match fwF (dgF r.toNat c.toNat s.f) 0 cs with
    | none => (0, [], 1)
    | some k => if isNum (riN (dgF r.toNat c.toNat s.f k) (cs.getD k 0)) then (r.toNat, riL r.toNat s.g k (riN (dgF r.toNat c.toNat s.f k) (cs.getD k 0)) r.toNat, 0) else (0, [], 2)
theorem siS_some {R C : Nat} {xs bs : List Int} {s : SS} {cs : List Int} (h : siS R C xs bs = some (s, cs)) :
    sfX R C xs = some s ∧ bs.length = R ∧ mulB R R (tb R R s.g) bs.length 1 bs = true ∧ cs = mulL (tb R R s.g) R R bs 1 := by
  unfold siS at h
  rcases hx : sfX R C xs with _ | s'
  · rw [hx] at h; cases h
  · rw [hx] at h
    simp only [Option.bind_some, Int.toNat_natCast] at h
    split at h
    · rename_i hc
      cases h
      exact ⟨rfl, by omega, hc.2, rfl⟩
    · cases h
end Go.Proofs.Ytacjonkehcamgaa

/-
  DERIVED. What smithFor of the program and l14Ready of the reference answer.
-/
namespace Go.Proofs.Ytacjonkehcamgaa
open Go.RowKit
set_option linter.unusedVariables false
set_option linter.unusedSimpArgs false
/-- Something failed: three matrices, a slice, and the flag false. -/
def SFN (w : World) (e : Ending) (w' : World) : Prop :=
  ∃ (r1 c1 r2 c2 r3 c3 : Int) (A1 A2 A3 A4 : Option Addr) (n1 k1 n2 k2 n3 k3 n4 k4 : Nat), e = .returned (.tuple #[.agg #[.int .i64 r1, .int .i64 c1, .slice A1 n1 k1], .agg #[.int .i64 r2, .int .i64 c2, .slice A2 n2 k2], .agg #[.int .i64 r3, .int .i64 c3, .slice A3 n3 k3], .slice A4 n4 k4, .bool false]) ∧ Below w.heap.size w w'
/-- The Smith form, the right side that belongs to it, and the flag true. -/
def SFY (R C : Nat) (s : SS) (cs : List Int) (w : World) (e : Ending) (w' : World) : Prop :=
  ∃ A1 n1 k1 A2 n2 k2 A3 n3 k3 A4 n4 k4, e = .returned (.tuple #[.agg #[.int .i64 R, .int .i64 C, .slice A1 n1 k1], .agg #[.int .i64 R, .int .i64 R, .slice A2 n2 k2], .agg #[.int .i64 C, .int .i64 C, .slice A3 n3 k3], .slice A4 n4 k4, .bool true]) ∧
    OR w' w.heap.size (.slice A1 n1 k1) (tb R C s.f) ∧ OR w' w.heap.size (.slice A2 n2 k2) (tb R R s.g) ∧ OR w' w.heap.size (.slice A3 n3 k3) (tb C C s.h) ∧ OR w' w.heap.size (.slice A4 n4 k4) cs ∧ Below w.heap.size w w'
theorem ret_M3C {fn : Func} {R : Ending → World → Prop} {a : Act} {w : World} {t t' t'' s s2 : Tmp} {b n cap b' n' cap' b'' n'' cap'' : Nat} {r c r' c' r'' c'' : Int} {A A' A'' : Option Addr} (hr : fn.results = #[.cell t 26, .cell t' 26, .cell t'' 26, .tmp s, .tmp s2])
    (ht : a.tmps.getD t undef = .pointer (some ⟨b, 0, none⟩)) (ht' : a.tmps.getD t' undef = .pointer (some ⟨b', 0, none⟩)) (ht'' : a.tmps.getD t'' undef = .pointer (some ⟨b'', 0, none⟩)) (h : BM w b r c A n cap) (h' : BM w b' r' c' A' n' cap') (h'' : BM w b'' r'' c'' A'' n'' cap'') (hd : a.defers = [])
    (hR : R (.returned (.tuple #[.agg #[.int .i64 r, .int .i64 c, .slice A n cap], .agg #[.int .i64 r', .int .i64 c', .slice A' n' cap'], .agg #[.int .i64 r'', .int .i64 c'', .slice A'' n'' cap''], a.tmps.getD s undef, a.tmps.getD s2 undef])) w) : bodyPost Try.prog fn R .ret a w :=
  bodyPost_ret (v := .tuple #[.agg #[.int .i64 r, .int .i64 c, .slice A n cap], .agg #[.int .i64 r', .int .i64 c', .slice A' n' cap'], .agg #[.int .i64 r'', .int .i64 c'', .slice A'' n'' cap''], a.tmps.getD s undef, a.tmps.getD s2 undef]) (by
    obtain ⟨r0, r1, r2, rf, rl⟩ := h.mx
    obtain ⟨s0, s1, s2, sf, sl⟩ := h'.mx
    obtain ⟨t0, t1, t2, tf, tl⟩ := h''.mx
    simp only [Array.getD_eq_getD_getElem?] at ht ht' ht''
    simp [results, hr, ht, ht', ht'', go_sem, r0, r1, r2, s0, s1, s2, t0, t1, t2]) hd hR
theorem siS_none {r c : Int} {xs bs : List Int} (h : sfX r c xs = none) : siS r c xs bs = none := by unfold siS; rw [h]; rfl
theorem siS_len {R C : Nat} {xs bs : List Int} {s : SS} (h : sfX R C xs = some s) (hl : bs.length ≠ R) : siS R C xs bs = none := by
  unfold siS
  rw [h]
  show (if _ then _ else _) = _
  rw [if_neg (fun k => hl (by have := k.1; omega))]
theorem siS_mul {R C : Nat} {xs bs : List Int} {s : SS} (h : sfX R C xs = some s) (hl : bs.length = R) (hm : mulB R R (tb R R s.g) bs.length 1 bs = false) : siS R C xs bs = none := by
  unfold siS
  rw [h]
  show (if _ then _ else _) = _
  rw [if_neg (fun k => by have := k.2; rw [Int.toNat_natCast, hm] at this; cases this)]
theorem siS_yes {R C : Nat} {xs bs : List Int} {s : SS} (h : sfX R C xs = some s) (hl : bs.length = R) (hm : mulB R R (tb R R s.g) bs.length 1 bs = true) : siS R C xs bs = some (s, mulL (tb R R s.g) R R bs 1) := by
  unfold siS
  rw [h]
  show (if _ then _ else _) = _
  rw [if_pos ⟨by omega, by rw [Int.toNat_natCast]; exact hm⟩, Int.toNat_natCast]
/-- What smithFor and l14Ready answer. -/
def SFR (r c : Int) (xs bs : List Int) (w : World) (e : Ending) (w' : World) : Prop :=
  match siS r c xs bs with
  | none => SFN w e w'
  | some (s, cs) => SFY r.toNat c.toNat s cs w e w'
theorem SFR.of_no {r c : Int} {xs bs : List Int} {w w' : World} {e : Ending} (h : siS r c xs bs = none) (k : SFN w e w') : SFR r c xs bs w e w' := by unfold SFR; rw [h]; exact k
theorem SFR.of_yes {R C : Nat} {xs bs : List Int} {s : SS} {cs : List Int} {w w' : World} {e : Ending} (h : siS R C xs bs = some (s, cs)) (k : SFY R C s cs w e w') : SFR R C xs bs w e w' := by unfold SFR; rw [h]; exact k
theorem SFR.no {r c : Int} {xs bs : List Int} {w w' : World} {e : Ending} (h : siS r c xs bs = none) (k : SFR r c xs bs w e w') : SFN w e w' := by unfold SFR at k; rw [h] at k; exact k
theorem SFR.yes {R C : Nat} {xs bs : List Int} {s : SS} {cs : List Int} {w w' : World} {e : Ending} (h : siS R C xs bs = some (s, cs)) (k : SFR R C xs bs w e w') : SFY R C s cs w e w' := by unfold SFR at k; rw [h] at k; exact k
theorem M3R.elim_some {R C : Nat} {s : SS} {w w' : World} {e : Ending} (h : M3R (sfDO R C (some s)) (sfUO R (some s)) (sfVO C (some s)) (some s).isSome w e w') :
    ∃ A1 n1 c1 A2 n2 c2 A3 n3 c3, e = .returned (.tuple #[.agg #[.int .i64 (R : Int), .int .i64 (C : Int), .slice A1 n1 c1], .agg #[.int .i64 (R : Int), .int .i64 (R : Int), .slice A2 n2 c2], .agg #[.int .i64 (C : Int), .int .i64 (C : Int), .slice A3 n3 c3], .bool true]) ∧
      OR w' w.heap.size (.slice A1 n1 c1) (tb R C s.f) ∧ OR w' w.heap.size (.slice A2 n2 c2) (tb R R s.g) ∧ OR w' w.heap.size (.slice A3 n3 c3) (tb C C s.h) ∧ Apart (.slice A1 n1 c1) (.slice A2 n2 c2) ∧ Apart (.slice A1 n1 c1) (.slice A3 n3 c3) ∧ Apart (.slice A2 n2 c2) (.slice A3 n3 c3) ∧ Below w.heap.size w w' := h
end Go.Proofs.Ytacjonkehcamgaa

/-
  DERIVED. firstWrong of the program.
-/
namespace Go.Proofs.Ytacjonkehcamgaa
open Go.RowKit
set_option linter.unusedVariables false
set_option linter.unusedSimpArgs false
set_option maxRecDepth 100000 in
set_option maxHeartbeats 4000000 in
theorem impl_firstWrong (R C : Nat) (A Ac : Option Addr) (n cap nc capc : Nat) (f : Fn2) (cs : List Int) (w : World) {B B' : Nat} (h : OR w B (.slice A n cap) (tb R C f)) (hc : RI w B' Ac nc cs) (hB' : B' ≤ w.heap.size) (hl : cs.length = R) (hf : OKF R C f) (hcn : ∀ k, Num (cs.getD k 0)) (hR : R ≤ 24) (hC : C ≤ 24) :
    Calls Try.prog 100 #[.agg #[.int .i64 R, .int .i64 C, .slice A n cap], .slice Ac nc capc] w (BV (.int .i64 (fwV (fwF (dgF R C f) 0 cs))) w) := by
  have hln := hc.len
  have hlx : cs.length ≤ R ∧ R ≤ cs.length ∧ nc ≤ R ∧ R ≤ nc := by omega
  have HOW : Hid (∀ w', Below w.heap.size w w' → OR w' B (.slice A n cap) (tb R C f)) := Lib.hid (fun w' hb => h.below hb (Nat.le_refl _))
  have HC := Lib.hid (hc.more hB')
  have HF := Lib.hid hf
  have HCN := Lib.hid hcn
  clear hc hl hln hf h hcn
  obtain ⟨X, hX⟩ : ∃ X, fwF (dgF R C f) 0 cs = X := ⟨_, rfl⟩
  rw [hX]
  have HX0 := Lib.hid hX
  clear hX
  go_enter Try.func100, Try.ntmps100
  go_wp2_with fail
  go_loopw [8] (fun v wr => ∃ k : Nat, v = .int .i64 k ∧ k ≤ R ∧ fwF (dgF R C f) k (cs.drop k) = X ∧ BM wr w.heap.size R C A n cap ∧ Below w.heap.size w wr) (fun v _ => R - (intOf v).toNat)
  case atStart => exact ⟨0, rfl, Nat.zero_le _, HX0.out, Ka, Kw⟩
  case round =>
    obtain ⟨k, rfl, hk, hfw, hM, hbw⟩ := hrel
    have HX := Lib.hid hfw
    clear hfw
    obtain ⟨ma, mb, mc, mf, ml⟩ := hM.mx
    have hsw := hbw.size
    by_cases hlt : k < R
    · obtain ⟨b, o, rfl, hbb, hcells⟩ := HC.out.2 (by omega)
      have c1 := (hbw.cell (p := ⟨b, o + k, none⟩) hbb).trans (hcells k (by omega))
      have hbl := Nat.lt_of_lt_of_le hbb hbw.size
      clear hcells
      have hknc : k < nc := by omega
      have ho := HOW.out _ hbw
      obtain ⟨d1, d2⟩ := dgF_num (i := k) HF.out
      obtain ⟨x1, x2⟩ := HCN.out k
      by_cases hdv : dgF R C f k ∣ cs.getD k 0
      · have HNX : Hid (fwF (dgF R C f) (k + 1) (cs.drop (k + 1)) = X) := Lib.hid ((fwF_yes (k := k) (by omega) hdv).symm.trans HX.out)
        have HT : Hid (decide (dgF R C f k ∣ cs.getD k 0) = true) := Lib.hid (decide_eq_true hdv)
        clear hdv
        generalize cs.getD k 0 = x at *
        obtain ⟨z, hz⟩ : ∃ z, dgF R C f k = z := ⟨_, rfl⟩
        rw [hz] at d1 d2 HT
        have HZ := Lib.hid hz
        clear hz
        go_wp2_with fail
        ((refine wp_region_held_drew (S := (fun w' => w'.cell? ⟨b, o + k, none⟩ = some (.int .i64 x) ∧ w'.cell? ⟨w.heap.size, 0, none⟩ = some (.int .i64 R) ∧ w'.cell? ⟨w.heap.size, 1, none⟩ = some (.int .i64 C) ∧ w'.cell? ⟨w.heap.size, 2, none⟩ = some (.slice A n cap))) (by kernel_rfl) ?_ (fun hHeld => ?_)); ((focus ((try dsimp only); ((first | (go_keep; done) | exact ⟨c1, ma, mb, mc⟩))))); ((refine tk_ (i := 0) (v := ?_) (y := Or.inl ⟨by rfl, ?_⟩) (h := ?_); rotate_left; (focus (((intro w hSw; (try dsimp only at hSw); go_simp) <;> (try with_reducible rfl)); done)); (try simp only [Act.put, p1_, p2_, p3_]))); ((refine tk_ (i := 1) (v := ?_) (y := Or.inl ⟨by rfl, ?_⟩) (h := ?_); rotate_left; (focus (((intro w hSw; (try dsimp only at hSw); go_simp) <;> (try with_reducible rfl)); done)); (try simp only [Act.put, p1_, p2_, p3_]))); ((refine tk_ (i := 2) (v := ?_) (y := Or.inl ⟨by rfl, ?_⟩) (h := ?_); rotate_left; (focus (((intro w hSw; (try dsimp only at hSw); go_simp) <;> (try with_reducible rfl)); done)); (try simp only [Act.put, p1_, p2_, p3_]))); ((refine tk_ (i := 3) (v := ?_) (y := Or.inl ⟨by rfl, ?_⟩) (h := ?_); rotate_left; (focus (((intro w hSw; (try dsimp only at hSw); go_simp) <;> (try with_reducible rfl)); done)); (try simp only [Act.put, p1_, p2_, p3_]))); ((refine tk_ (i := 4) (v := ?_) (y := Or.inl ⟨by rfl, ?_⟩) (h := ?_); rotate_left; (focus (((intro w hSw; (try dsimp only at hSw); go_simp) <;> (try with_reducible rfl)); done)); (try simp only [Act.put, p1_, p2_, p3_]))); ((refine tk_ (i := 5) (v := ?_) (y := Or.inl ⟨by rfl, ?_⟩) (h := ?_); rotate_left; (focus (((intro w hSw; (try dsimp only at hSw); go_simp) <;> (try with_reducible rfl)); done)); (try simp only [Act.put, p1_, p2_, p3_]))); ((refine wpAnyH_ready (rs := [6]) (by kernel_rfl) (by simp) ?_; refine AllReadyH.cons (by simp only [e1_, e2_, e3_]; try rfl) (fun K hK => ?_) AllReadyH.nil; go_simp; (refine (impl_diagonal R C k A n cap f _ (B := B) (Ko ho) (by omega) hR hC).mono ?_; rw [HZ.out]; rintro e w5 ⟨rfl, hb5⟩; have hs5 := hb5.size; (try simp at hs5); (have hM_1 : BM w5 w.heap.size R C A n cap := (Kb hM)); (have hbw_1 : Below w.heap.size w w5 := Kw); (have c2 := (hb5.cell (p := ⟨b, o + k, none⟩) (by simpa using hbl)).trans c1); clear hM hbw c1 hb5 ma mb mc mf ml; have hM := hM_1; have hbw := hbw_1; have c1 := c2; clear hM_1 hbw_1 c2; obtain ⟨ma, mb, mc, mf, ml⟩ := hM.mx); (try go_wp2_with fail); refine hK.out _ _ ?_ (fun hHeld => ?_); (focus ((try dsimp only); ((first | (go_keep; done) | exact ⟨c1, ma, mb, mc⟩)))); clear hK K; (try simp only [Act.put, p1_, p2_, p3_]))); ((refine wpAnyH_ready (rs := [7]) (by kernel_rfl) (by simp) ?_; refine AllReadyH.cons (by simp only [e1_, e2_, e3_]; try rfl) (fun K hK => ?_) AllReadyH.nil; go_simp; (refine (impl_isMultiple x z _ ⟨x1, x2⟩ ⟨d1, d2⟩).mono ?_; rw [HT.out]; rintro e w' ⟨rfl, rfl⟩); (try go_wp2_with fail); refine hK.out _ _ ?_ (fun hHeld => ?_); (focus ((try dsimp only); ((first | (go_keep; done) | exact ⟨c1, ma, mb, mc⟩)))); clear hK K; (try simp only [Act.put, p1_, p2_, p3_]))); ((refine tk_ (i := 8) (v := ?_) (y := Or.inl ⟨by rfl, ?_⟩) (h := ?_); rotate_left; (focus (((intro w hSw; (try dsimp only at hSw); go_simp) <;> (try with_reducible rfl)); done)); (try simp only [Act.put, p1_, p2_, p3_]))); (refine wpAnyH_done (by kernel_rfl) ?_ _))
        go_wp2_with fail
        go_roundw
        case rel => exact ⟨k + 1, by go_num, by omega, HNX.out, Kb hM, Kw⟩
        case measure => simp only [intOf]; omega
      · have HFD : Hid (X = some k) := Lib.hid (by rw [← HX.out, fwF_no (by omega) hdv])
        have HT : Hid (decide (dgF R C f k ∣ cs.getD k 0) = false) := Lib.hid (decide_eq_false hdv)
        clear hdv
        generalize cs.getD k 0 = x at *
        obtain ⟨z, hz⟩ : ∃ z, dgF R C f k = z := ⟨_, rfl⟩
        rw [hz] at d1 d2 HT
        have HZ := Lib.hid hz
        clear hz
        go_wp2_with fail
        ((refine wp_region_held_drew (S := (fun w' => w'.cell? ⟨b, o + k, none⟩ = some (.int .i64 x) ∧ w'.cell? ⟨w.heap.size, 0, none⟩ = some (.int .i64 R) ∧ w'.cell? ⟨w.heap.size, 1, none⟩ = some (.int .i64 C) ∧ w'.cell? ⟨w.heap.size, 2, none⟩ = some (.slice A n cap))) (by kernel_rfl) ?_ (fun hHeld => ?_)); ((focus ((try dsimp only); ((first | (go_keep; done) | exact ⟨c1, ma, mb, mc⟩))))); ((refine tk_ (i := 0) (v := ?_) (y := Or.inl ⟨by rfl, ?_⟩) (h := ?_); rotate_left; (focus (((intro w hSw; (try dsimp only at hSw); go_simp) <;> (try with_reducible rfl)); done)); (try simp only [Act.put, p1_, p2_, p3_]))); ((refine tk_ (i := 1) (v := ?_) (y := Or.inl ⟨by rfl, ?_⟩) (h := ?_); rotate_left; (focus (((intro w hSw; (try dsimp only at hSw); go_simp) <;> (try with_reducible rfl)); done)); (try simp only [Act.put, p1_, p2_, p3_]))); ((refine tk_ (i := 2) (v := ?_) (y := Or.inl ⟨by rfl, ?_⟩) (h := ?_); rotate_left; (focus (((intro w hSw; (try dsimp only at hSw); go_simp) <;> (try with_reducible rfl)); done)); (try simp only [Act.put, p1_, p2_, p3_]))); ((refine tk_ (i := 3) (v := ?_) (y := Or.inl ⟨by rfl, ?_⟩) (h := ?_); rotate_left; (focus (((intro w hSw; (try dsimp only at hSw); go_simp) <;> (try with_reducible rfl)); done)); (try simp only [Act.put, p1_, p2_, p3_]))); ((refine tk_ (i := 4) (v := ?_) (y := Or.inl ⟨by rfl, ?_⟩) (h := ?_); rotate_left; (focus (((intro w hSw; (try dsimp only at hSw); go_simp) <;> (try with_reducible rfl)); done)); (try simp only [Act.put, p1_, p2_, p3_]))); ((refine tk_ (i := 5) (v := ?_) (y := Or.inl ⟨by rfl, ?_⟩) (h := ?_); rotate_left; (focus (((intro w hSw; (try dsimp only at hSw); go_simp) <;> (try with_reducible rfl)); done)); (try simp only [Act.put, p1_, p2_, p3_]))); ((refine wpAnyH_ready (rs := [6]) (by kernel_rfl) (by simp) ?_; refine AllReadyH.cons (by simp only [e1_, e2_, e3_]; try rfl) (fun K hK => ?_) AllReadyH.nil; go_simp; (refine (impl_diagonal R C k A n cap f _ (B := B) (Ko ho) (by omega) hR hC).mono ?_; rw [HZ.out]; rintro e w5 ⟨rfl, hb5⟩; have hs5 := hb5.size; (try simp at hs5); (have hM_1 : BM w5 w.heap.size R C A n cap := (Kb hM)); (have hbw_1 : Below w.heap.size w w5 := Kw); (have c2 := (hb5.cell (p := ⟨b, o + k, none⟩) (by simpa using hbl)).trans c1); clear hM hbw c1 hb5 ma mb mc mf ml; have hM := hM_1; have hbw := hbw_1; have c1 := c2; clear hM_1 hbw_1 c2; obtain ⟨ma, mb, mc, mf, ml⟩ := hM.mx); (try go_wp2_with fail); refine hK.out _ _ ?_ (fun hHeld => ?_); (focus ((try dsimp only); ((first | (go_keep; done) | exact ⟨c1, ma, mb, mc⟩)))); clear hK K; (try simp only [Act.put, p1_, p2_, p3_]))); ((refine wpAnyH_ready (rs := [7]) (by kernel_rfl) (by simp) ?_; refine AllReadyH.cons (by simp only [e1_, e2_, e3_]; try rfl) (fun K hK => ?_) AllReadyH.nil; go_simp; (refine (impl_isMultiple x z _ ⟨x1, x2⟩ ⟨d1, d2⟩).mono ?_; rw [HT.out]; rintro e w' ⟨rfl, rfl⟩); (try go_wp2_with fail); refine hK.out _ _ ?_ (fun hHeld => ?_); (focus ((try dsimp only); ((first | (go_keep; done) | exact ⟨c1, ma, mb, mc⟩)))); clear hK K; (try simp only [Act.put, p1_, p2_, p3_]))); ((refine tk_ (i := 8) (v := ?_) (y := Or.inl ⟨by rfl, ?_⟩) (h := ?_); rotate_left; (focus (((intro w hSw; (try dsimp only at hSw); go_simp) <;> (try with_reducible rfl)); done)); (try simp only [Act.put, p1_, p2_, p3_]))); (refine wpAnyH_done (by kernel_rfl) ?_ _))
        go_wp2_with fail
        go_ret
        exact BV.mk (vint (show (k : Int) = _ by rw [HFD.out]; rfl)) Kw
    · have hkE : k = R := by omega
      have HE : Hid (X = none) := Lib.hid (by rw [← HX.out, fwF_end (by omega)])
      clear hkE
      go_wp2_with fail
      go_ret
      exact BV.mk (vint (show (-1 : Int) = _ by rw [HE.out]; rfl)) Kw
end Go.Proofs.Ytacjonkehcamgaa

/-
  DERIVED. Solutions and refutations in whole numbers: no program in sight.
-/
namespace Go.Proofs.Ytacjonkehcamgaa
set_option linter.unusedVariables false
theorem tab_ext {n : Nat} {f g : Nat → Int} (h : ∀ k, k < n → f k = g k) : tab n f = tab n g := by
  unfold tab
  exact List.map_congr_left fun k hk => h k (List.mem_range.1 hk)
theorem tab_of {n : Nat} {xs : List Int} (h : xs.length = n) : tab n (fun k => xs.getD k 0) = xs := by
  apply List.ext_getElem?
  intro k
  by_cases hk : k < n
  · unfold tab
    simp [List.getElem?_range hk, List.getD, show k < xs.length by omega]
  · rw [List.getElem?_eq_none (by rw [tab_len]; omega), List.getElem?_eq_none (by omega)]
/-- A matrix times a column, as lists. -/
theorem mulL_col (f : Fn2) {R C : Nat} (z : List Int) : mulL (tb R C f) R C z 1 = tab R fun i => mv C f (fun k => z.getD k 0) i := by
  unfold mulL
  rw [Nat.mul_one]
  refine tab_ext fun q hq => ?_
  rw [Nat.div_one, Nat.mod_one]
  unfold prodAt mv
  refine sumTo_congr C fun k hk => ?_
  rw [cel_tb hq hk, cel_nat, Nat.mul_one, Nat.add_zero]
theorem mulL_cel {xs : List Int} {R C : Nat} (h : xs.length = R * C) (z : List Int) : mulL xs R C z 1 = tab R fun i => mv C (fun i j => cel xs C i j) (fun k => z.getD k 0) i := by
  conv => lhs; rw [tb_of h]
  exact mulL_col _ z
/-- The solution that SolveInteger finds is one. -/
theorem si_solves {R C : Nat} {xs bs x : List Int} (h : siR R C xs bs = (x, 0)) : bs.length = R ∧ x.length = C ∧ ∀ i, i < R → mv C (fun i j => cel xs C i j) (fun k => x.getD k 0) i = bs.getD i 0 := by
  unfold siR at h
  rcases hs : siS R C xs bs with _ | ⟨s, cs⟩
  · rw [hs] at h; cases h
  · rw [hs] at h
    simp only [Int.toNat_natCast] at h
    obtain ⟨k1, k2, k3, k4⟩ := siS_some hs
    rcases hf : fwF (dgF R C s.f) 0 cs with _ | q
    · rw [hf] at h
      dsimp only at h
      split at h
      · rename_i hm
        injection h with h1 _
        have hx : x = tab C fun i => mv C s.h (fun k => (siY R C s cs).getD k 0) i := by
          rw [← h1]
          unfold mulM
          rw [if_pos hm]
          show mulL (tb C C s.h) ((C : Int)).toNat ((C : Int)).toNat _ ((1 : Int)).toNat = _
          rw [Int.toNat_natCast]
          exact mulL_col _ _
        have hcs : cs = tab R fun i => mv R s.g (fun k => bs.getD k 0) i := by rw [k4]; exact mulL_col _ _
        have hcl : cs.length = R := by rw [hcs, tab_len]
        have hdv := fwF_none cs 0 hf
        refine ⟨k2, by rw [hx, tab_len], fun i hi => ?_⟩
        have hdiag := sfX_diag k1
        have key := sf_solves (sfX_umv k1) (b := fun k => bs.getD k 0) (y := fun k => (siY R C s cs).getD k 0) (fun i hi => ?_) i hi
        · rw [← key]
          refine mv_congr (fun _ _ => rfl) fun k hk => ?_
          rw [hx, tab_getD hk]
        · have hc : cs.getD i 0 = mv R s.g (fun k => bs.getD k 0) i := by rw [hcs, tab_getD hi]
          have hd := hdv i (by omega)
          rw [Nat.zero_add] at hd
          rw [← hc]
          by_cases hiC : i < C
          · have e1 : mv C s.f (fun k => (siY R C s cs).getD k 0) i = s.f i i * (siY R C s cs).getD i 0 :=
              sumTo_one (f := fun k => s.f i k * (siY R C s cs).getD k 0) C hiC (fun k hk hne => by
                show s.f i k * _ = 0
                rw [hdiag i k hi hk (fun e => hne e.symm), Int.zero_mul])
            rw [e1]
            unfold siY
            rw [tab_getD hiC]
            rw [dgF_in hi hiC] at hd ⊢
            exact Int.mul_tdiv_cancel' hd
          · rw [dgF_out (by omega)] at hd
            rw [Int.zero_dvd.1 hd]
            exact sumTo_null C fun k hk => by rw [hdiag i k hi hk (by omega), Int.zero_mul]
      · cases h
    · rw [hf] at h
      simp at h
end Go.Proofs.Ytacjonkehcamgaa

/-
  DERIVED. What SolveInteger answers: the form of its result, the loop that makes it.
-/
namespace Go.Proofs.Ytacjonkehcamgaa
open Go.RowKit
set_option linter.unusedVariables false
set_option linter.unusedSimpArgs false
/-- The call returned an own slice and a number. -/
def IIR (ys : List Int) (k : Int) (w : World) (e : Ending) (w' : World) : Prop :=
  ∃ A n cap, e = .returned (.tuple #[.slice A n cap, .int .i64 k]) ∧ OR w' w.heap.size (.slice A n cap) ys ∧ Below w.heap.size w w'
theorem IIR.mk {ys zs : List Int} {k k' : Int} {A : Option Addr} {n cap : Nat} {w w' : World} (hz : (ys, k) = (zs, k')) (ho : OR w' w.heap.size (.slice A n cap) zs) (hb : Below w.heap.size w w') :
    IIR ys k w (.returned (.tuple #[.slice A n cap, .int .i64 k'])) w' := by
  injection hz with h1 h2
  subst h1; subst h2; exact ⟨A, n, cap, rfl, ho, hb⟩
theorem siR_fail {r c : Int} {xs bs : List Int} (h : siS r c xs bs = none) : siR r c xs bs = ([], 2) := by unfold siR; rw [h]
theorem siR_none {R C : Nat} {xs bs : List Int} {s : SS} {cs : List Int} {k : Nat} (h : siS R C xs bs = some (s, cs)) (hk : fwF (dgF R C s.f) 0 cs = some k) : siR R C xs bs = ([], 1) := by
  unfold siR; rw [h]; simp only [Int.toNat_natCast]; rw [hk]
theorem siR_big {R C : Nat} {xs bs : List Int} {s : SS} {cs : List Int} (h : siS R C xs bs = some (s, cs)) (hk : fwF (dgF R C s.f) 0 cs = none) (hm : mulB C C (tb C C s.h) C 1 (siY R C s cs) = false) : siR R C xs bs = ([], 2) := by
  unfold siR; rw [h]; simp only [Int.toNat_natCast]; rw [hk]; dsimp only; rw [hm]; rfl
theorem siR_yes {R C : Nat} {xs bs : List Int} {s : SS} {cs : List Int} (h : siS R C xs bs = some (s, cs)) (hk : fwF (dgF R C s.f) 0 cs = none) (hm : mulB C C (tb C C s.h) C 1 (siY R C s cs) = true) : siR R C xs bs = (mulL (tb C C s.h) C C (siY R C s cs) 1, 0) := by
  unfold siR; rw [h]; simp only [Int.toNat_natCast]; rw [hk]; dsimp only; rw [hm, mulM_yes hm]; simp
theorem tab_cg {n : Nat} {f g : Nat → Int} (h : ∀ k, k < n → f k = g k) : tab n f = tab n g := List.map_congr_left fun k hk => h k (List.mem_range.1 hk)
/-- The y that the loop makes, up to place i. -/
def siK (R C : Nat) (s : SS) (cs : List Int) (i : Nat) : List Int := tab C fun j => if j < i then (cs.getD j 0).tdiv (dgF R C s.f j) else 0
theorem siK_zero (R C : Nat) (s : SS) (cs : List Int) : siK R C s cs 0 = List.replicate C 0 := by
  unfold siK tab
  apply List.ext_getElem?
  intro i
  by_cases h : i < C <;> simp [h]
theorem siK_end {R C : Nat} {s : SS} {cs : List Int} (hl : cs.length = R) : siK R C s cs (min R C) = siY R C s cs := by
  unfold siK siY
  refine tab_cg fun j hj => ?_
  by_cases h : j < min R C
  · rw [if_pos h]
  · rw [if_neg h, show cs.getD j 0 = 0 by simp only [List.getD, List.getElem?_eq_none (show cs.length ≤ j by omega)]; rfl, Int.zero_tdiv]
theorem siK_skip {R C : Nat} {s : SS} {cs : List Int} {i : Nat} (h : dgF R C s.f i = 0) : siK R C s cs (i + 1) = siK R C s cs i := by
  unfold siK
  refine tab_cg fun j hj => ?_
  by_cases h1 : j < i
  · rw [if_pos h1, if_pos (by omega)]
  · by_cases h2 : j < i + 1
    · obtain rfl : j = i := by omega
      rw [if_neg h1, if_pos h2, h, Int.tdiv_zero]
    · rw [if_neg h1, if_neg h2]
theorem siK_set {R C : Nat} {s : SS} {cs : List Int} {i : Nat} (hi : i < C) : (siK R C s cs i).set i ((cs.getD i 0).tdiv (dgF R C s.f i)) = siK R C s cs (i + 1) := by
  unfold siK tab
  apply List.ext_getElem?
  intro j
  by_cases hj : j < C
  · by_cases hji : j = i
    · subst hji
      simp [hj]
    · rw [List.getElem?_set_ne (Ne.symm hji)]
      by_cases h1 : j < i
      · simp [hj, h1, show j < i + 1 by omega]
      · simp [hj, h1, show ¬ j < i + 1 by omega]
  · rw [List.getElem?_eq_none (by simp; omega), List.getElem?_eq_none (by simp; omega)]
theorem siK_len (R C : Nat) (s : SS) (cs : List Int) (i : Nat) : (siK R C s cs i).length = C := by simp [siK, tab]
end Go.Proofs.Ytacjonkehcamgaa

/-
  DERIVED. What RefuteInteger answers: the form of its result.
-/
namespace Go.Proofs.Ytacjonkehcamgaa
open Go.RowKit
set_option linter.unusedVariables false
set_option linter.unusedSimpArgs false
/-- The call returned own ratios and a number. -/
def QIR (n : Nat) (qs : List Int) (k : Int) (w : World) (e : Ending) (w' : World) : Prop :=
  ∃ A m cap, e = .returned (.tuple #[.slice A m cap, .int .i64 k]) ∧ OF w' w.heap.size (.slice A m cap) n qs ∧ Below w.heap.size w w'
theorem QIR.mk {n n' : Nat} {qs qs' : List Int} {k k' : Int} {A : Option Addr} {m cap : Nat} {w w' : World} (hz : (n, qs, k) = (n', qs', k')) (ho : OF w' w.heap.size (.slice A m cap) n' qs') (hb : Below w.heap.size w w') :
    QIR n qs k w (.returned (.tuple #[.slice A m cap, .int .i64 k'])) w' := by
  injection hz with h1 h2
  injection h2 with h2 h3
  subst h1; subst h2; subst h3; exact ⟨A, m, cap, rfl, ho, hb⟩
theorem riR_fail {r c : Int} {xs bs : List Int} (h : siS r c xs bs = none) : riR r c xs bs = (0, [], 2) := by unfold riR; rw [h]
theorem riR_none {R C : Nat} {xs bs : List Int} {s : SS} {cs : List Int} (h : siS R C xs bs = some (s, cs)) (hk : fwF (dgF R C s.f) 0 cs = none) : riR R C xs bs = (0, [], 1) := by
  unfold riR; rw [h]; simp only [Int.toNat_natCast]; rw [hk]
theorem riR_big {R C : Nat} {xs bs : List Int} {s : SS} {cs : List Int} {k : Nat} (h : siS R C xs bs = some (s, cs)) (hk : fwF (dgF R C s.f) 0 cs = some k) (hm : isNum (riN (dgF R C s.f k) (cs.getD k 0)) = false) : riR R C xs bs = (0, [], 2) := by
  unfold riR; rw [h]; simp only [Int.toNat_natCast]; rw [hk]; dsimp only; rw [hm]; rfl
theorem riR_yes {R C : Nat} {xs bs : List Int} {s : SS} {cs : List Int} {k : Nat} (h : siS R C xs bs = some (s, cs)) (hk : fwF (dgF R C s.f) 0 cs = some k) (hm : isNum (riN (dgF R C s.f k) (cs.getD k 0)) = true) : riR R C xs bs = (R, riL R s.g k (riN (dgF R C s.f k) (cs.getD k 0)) R, 0) := by
  unfold riR; rw [h]; simp only [Int.toNat_natCast]; rw [hk]; dsimp only; rw [hm]; rfl
theorem makR_low {n d : Int} (h1 : Num n) (h2 : Num d) (h3 : d ≠ 0) : makR n d = lowR n d := by
  unfold makR; rw [h1.isN, h2.isN]; simp [h3]
theorem riL_succ (R : Nat) (g : Fn2) (k : Nat) (n : Int) (j : Nat) : riL R g k n (j + 1) = riL R g k n j ++ [(lowR (g k j) n).1, (lowR (g k j) n).2] := rfl
theorem riL_next {R : Nat} {g : Fn2} {k j : Nat} {x z : Int} {q : Int × Int} {qs : List Int} (h : riL R g k z j = qs) (hx : g k j = x) (hq : makR x z = q) (h1 : Num (g k j)) (h2 : Num z) (h3 : z ≠ 0) : riL R g k z (j + 1) = qs ++ [q.1, q.2] := by
  subst hx
  subst hq
  rw [riL_succ, h, makR_low h1 h2 h3]
/-- What has been asked for, found out ahead of the walk. -/
structure RiK (R C : Nat) (s : SS) (cs : List Int) (k : Nat) : Prop where
  kR : k < R
  nz : riN (dgF R C s.f k) (cs.getD k 0) ≠ 0
theorem RiK.of {R C : Nat} {s : SS} {cs : List Int} {k : Nat} (hl : cs.length = R) (h : fwF (dgF R C s.f) 0 cs = some k) : RiK R C s cs k := by
  obtain ⟨h1, h2, h3⟩ := fwF_some cs 0 k h
  rw [Nat.sub_zero] at h3
  refine ⟨by omega, fun e => ?_⟩
  unfold riN at e
  split at e
  · rename_i h0
    exact h3 (by rw [h0]; exact ⟨0, by omega⟩)
  · rename_i h0
    exact h0 e
theorem riR_cnt (r c : Int) (xs bs : List Int) : (riR r c xs bs).1 ≤ 1048576 := by
  rcases hS : siS r c xs bs with _ | ⟨s, cs⟩
  · rw [riR_fail hS]; exact Nat.zero_le _
  · have hm : isMat r c xs = true := by
      rcases hm : isMat r c xs with _ | _
      · rw [siS_none (sfX_no hm)] at hS; cases hS
      · rfl
    have M := isMat_iff.1 hm
    obtain ⟨R, rfl⟩ := nat_of M.r0
    obtain ⟨C, rfl⟩ := nat_of M.c0
    have hR : R ≤ 24 := by have := M.r1; omega
    rcases hF : fwF (dgF R C s.f) 0 cs with _ | k
    · rw [riR_none hS hF]; exact Nat.zero_le _
    · rcases hn : isNum (riN (dgF R C s.f k) (cs.getD k 0)) with _ | _
      · rw [riR_big hS hF hn]; exact Nat.zero_le _
      · rw [riR_yes hS hF hn]; show R ≤ _; omega
end Go.Proofs.Ytacjonkehcamgaa

/-
  DERIVED. SolveInteger and RefuteInteger together: no program in sight.
-/
namespace Go.Proofs.Ytacjonkehcamgaa
set_option linter.unusedVariables false
theorem lowR_num {n d : Int} (hn : isNum n = true) (hd : isNum d = true) (h0 : d ≠ 0) : ratOk (lowR n d).1 (lowR n d).2 = true := by
  obtain ⟨n1, n2⟩ := (isNum_iff n).1 hn
  obtain ⟨d1, d2⟩ := (isNum_iff d).1 hd
  obtain ⟨g1, g2⟩ := gcd_pos2 (n := n) h0
  have key : ∀ n d : Int, 0 < d → d ≤ 400000000 → n.natAbs ≤ 400000000 → ratOk (lowR n d).1 (lowR n d).2 = true := fun n d hp hq hm => by
    obtain ⟨g1, g2⟩ := gcd_pos2 (n := n) (d := d) (by omega)
    have hr : ratOk (n.tdiv (Int.gcd n d : Nat)) (d.tdiv (Int.gcd n d : Nat)) = true := by
      rw [ratOk_iff]
      have e1 := tdiv_abs n (Int.gcd n d : Nat)
      have e2 := tdiv_abs d (Int.gcd n d : Nat)
      have dv : ((Int.gcd n d : Nat) : Int) ∣ d := Int.gcd_dvd_right ..
      have dn : ((Int.gcd n d : Nat) : Int) ∣ n := Int.gcd_dvd_left ..
      have e3 := Int.tdiv_mul_cancel dv
      have hpos : 0 < d.tdiv (Int.gcd n d : Nat) := by
        refine Int.not_le.1 fun hle => ?_
        have := Int.mul_nonneg (show 0 ≤ -(d.tdiv (Int.gcd n d : Nat)) by omega) (show (0 : Int) ≤ (Int.gcd n d : Nat) by omega)
        rw [Int.neg_mul, e3] at this
        omega
      refine ⟨⟨by omega, by omega⟩, ⟨by omega, by omega⟩, ?_⟩
      rw [Int.tdiv_eq_ediv_of_dvd dn, Int.tdiv_eq_ediv_of_dvd dv]
      exact Int.gcd_ediv_gcd_ediv_gcd (by omega)
    rw [lowR_pos hp, if_pos hr]
    exact hr
  rcases Int.lt_or_le 0 d with hp | hp
  · exact key n d hp d2 (by omega)
  · rw [lowR_flip (by omega)]
    exact key (-n) (-d) (by omega) (by omega) (by omega)
/-- Ratio k of the list. -/
theorem riL_at (R : Nat) (g : Fn2) (k : Nat) (n : Int) : ∀ m j, j < m → fl (riL R g k n m) j = lowR (g k j) n
  | 0, j, h => absurd h (Nat.not_lt_zero _)
  | m + 1, j, h => by
    have hl := riL_len R g k n m
    unfold fl
    show ((riL R g k n m ++ [(lowR (g k m) n).1, (lowR (g k m) n).2]).getD (j * 2) 0, (riL R g k n m ++ [(lowR (g k m) n).1, (lowR (g k m) n).2]).getD (j * 2 + 1) 0) = _
    by_cases e : j = m
    · subst e
      have a1 : ¬ j * 2 < (riL R g k n j).length := by omega
      have a2 : ¬ j * 2 + 1 < (riL R g k n j).length := by omega
      simp only [List.getD, List.getElem?_append, if_neg a1, if_neg a2]
      rw [hl, Nat.sub_self, show j * 2 + 1 - j * 2 = 1 by omega]
      rfl
    · have ih := riL_at R g k n m j (by omega)
      unfold fl at ih
      have a1 : j * 2 < (riL R g k n m).length := by omega
      have a2 : j * 2 + 1 < (riL R g k n m).length := by omega
      simp only [List.getD, List.getElem?_append, if_pos a1, if_pos a2]
      simpa [List.getD] using ih
theorem si_else {r c : Int} {xs bs : List Int} (h : (siR r c xs bs).2 ≠ 0) : (siR r c xs bs).1 = [] := by
  unfold siR at h ⊢
  split
  · rfl
  · rename_i s cs hs
    rw [hs] at h
    dsimp only at h ⊢
    split
    · rfl
    · rename_i hf
      rw [hf] at h
      dsimp only at h
      split
      · rename_i hm
        rw [if_pos hm] at h
        exact absurd rfl h
      · rfl
theorem ri_found {r c : Int} {xs bs : List Int} (h : (siR r c xs bs).2 = 0) : riR r c xs bs = (0, [], 1) := by
  unfold siR at h
  unfold riR
  rcases hs : siS r c xs bs with _ | ⟨s, cs⟩
  · rw [hs] at h; cases h
  · rw [hs] at h
    dsimp only at h ⊢
    rcases hf : fwF (dgF r.toNat c.toNat s.f) 0 cs with _ | k
    · rfl
    · rw [hf] at h; cases h
theorem ri_none {R C : Nat} {xs bs : List Int} (h : (siR R C xs bs).2 = 1) : riR R C xs bs = (0, [], 2) ∨ ((riR R C xs bs).1 = R ∧ (riR R C xs bs).2.2 = 0 ∧ (riR R C xs bs).2.1.length = R * 2 ∧ ∀ j, j < R → ratOk (fl (riR R C xs bs).2.1 j).1 (fl (riR R C xs bs).2.1 j).2 = true) := by
  unfold siR at h
  unfold riR
  rcases hs : siS R C xs bs with _ | ⟨s, cs⟩
  · rw [hs] at h; cases h
  · rw [hs] at h
    simp only [Int.toNat_natCast] at h ⊢
    rcases hf : fwF (dgF R C s.f) 0 cs with _ | k
    · rw [hf] at h
      dsimp only at h
      split at h <;> cases h
    · dsimp only
      by_cases hn : isNum (riN (dgF R C s.f k) (cs.getD k 0)) = true
      · rw [if_pos hn]
        right
        obtain ⟨k1, k2, k3, k4⟩ := siS_some hs
        obtain ⟨_, hR, hC, hg⟩ := sfX_gd k1
        obtain ⟨a, b, d⟩ := fwF_some cs 0 k hf
        rw [Nat.sub_zero] at d
        have hcl : cs.length = R := by rw [k4, mulL_len]; omega
        have h0 : riN (dgF R C s.f k) (cs.getD k 0) ≠ 0 := by
          unfold riN
          split
          · rename_i hz
            intro e
            rw [hz] at d
            exact d (by rw [show cs.getD k 0 = 0 by omega]; exact Int.dvd_zero _)
          · rename_i hz; exact hz
        refine ⟨rfl, rfl, riL_len _ _ _ _ _, fun j hj => ?_⟩
        dsimp only
        rw [riL_at _ _ _ _ _ _ hj]
        exact lowR_num (hg.ok.g k j (by omega) hj).isN hn h0
      · rw [if_neg hn]
        exact .inl rfl
/-- The product with the solution is the right side. -/
theorem si_prod {R C : Nat} {xs bs x : List Int} (h : siR R C xs bs = (x, 0)) (hm : mulB R C xs x.length 1 x = true) : mulM R C xs x.length 1 x = ⟨R, 1, bs⟩ := by
  obtain ⟨h1, h2, h3⟩ := si_solves h
  unfold mulM
  rw [if_pos hm]
  have M : isMat (R : Int) (C : Int) xs = true := by
    unfold mulB at hm
    simp only [Bool.and_eq_true] at hm
    exact hm.1.1.1
  have hl : xs.length = R * C := by
    have := (isMat_iff.1 M).len
    rw [← Int.natCast_mul] at this
    omega
  have e : mulL xs ((R : Int)).toNat ((C : Int)).toNat x ((1 : Int)).toNat = bs := by
    show mulL xs R C x 1 = bs
    rw [mulL_cel hl, tab_ext h3]
    exact tab_of h1
  rw [e]
end Go.Proofs.Ytacjonkehcamgaa

/-
  DERIVED. Where there is a refutation, SolveInteger finds nothing and nothing solves: no program in sight.
-/
namespace Go.Proofs.Ytacjonkehcamgaa
set_option linter.unusedVariables false
theorem ref_excl {R C : Nat} {xs bs qs : List Int} (h : refB R C xs bs qs = true) (x : Nat → Int) : ¬ ∀ i, i < R → mv C (fun i j => cel xs C i j) x i = bs.getD i 0 := by
  unfold refB refP at h
  simp only [Bool.and_eq_true, decide_eq_true_eq, Int.toNat_natCast, List.all_eq_true] at h
  obtain ⟨_, ⟨h1, h2⟩, h3⟩ := h
  have hc : ∀ j, j < C → (refCol xs R C qs j).2 = 1 := fun j hj => h1 j (List.mem_range.2 hj)
  have hok : ∀ j, j < C → ratOk (refCol xs R C qs j).1 (refCol xs R C qs j).2 = true := fun j hj => by
    unfold refCol
    rw [rsum_den]
    have := hc j hj
    unfold refCol at this
    rw [this]; decide
  have hb : ratOk (refEnd R bs qs).1 (refEnd R bs qs).2 = true := by
    unfold refEnd
    rw [rsum_den]
    unfold refEnd at h2
    exact decide_eq_true h2
  exact ref_no (m := fun i j => cel xs C i j) (b := fun k => bs.getD k 0) (x := x) (g := fl qs) hc hok hb h3
theorem ref_si {R C : Nat} {xs bs qs : List Int} (h : refB R C xs bs qs = true) : (siR R C xs bs).2 ≠ 0 := by
  intro h0
  have hs : siR R C xs bs = ((siR R C xs bs).1, 0) := by rw [← h0]
  obtain ⟨_, _, h3⟩ := si_solves hs
  exact ref_excl h _ h3
end Go.Proofs.Ytacjonkehcamgaa

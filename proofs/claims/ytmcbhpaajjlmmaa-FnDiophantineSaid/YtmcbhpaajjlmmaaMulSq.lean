/-
  DERIVED. l3Mul.
-/
import Derived.Test.YtmcbhpaajjlmmaaMulq
namespace Go.Proofs.Ytmcbhpaajjlmmaa
open Go.RowKit
set_option linter.unusedVariables false
set_option linter.unusedSimpArgs false
set_option maxRecDepth 100000 in
set_option maxHeartbeats 8000000 in
theorem spec_l3Mul (R C C2 : Nat) (A A' : Option Addr) (n cap n' cap' : Nat) (xs ys : List Int) (w : World) {B B' : Nat} (h : RI w B A n xs) (h' : RI w B' A' n' ys) (hB : B ≤ w.heap.size) (hB' : B' ≤ w.heap.size) (hn : n ≤ 1048576) (hn' : n' ≤ 1048576) (M : IsM R C xs) (M2 : IsM C C2 ys) :
    Calls Try.prog 173 #[.agg #[.int .i64 R, .int .i64 C, .slice A n cap], .agg #[.int .i64 C, .int .i64 C2, .slice A' n' cap']] w (MR ⟨R, C2, mulL xs R C ys C2⟩ w) := by
  have hlen := h.len
  have hlen' := h'.len
  have H2 := Lib.hid (h.more hB)
  have H3 := Lib.hid (h'.more hB')
  clear h h' hB hB'
  have HMM := Lib.hid M
  have HMM2 := Lib.hid M2
  have hR' := M.r1
  have hC := M.c1
  have hC2 := M2.c1
  have hl1 : (n : Int) ≤ (R : Int) * (C : Int) ∧ (R : Int) * (C : Int) ≤ n := by have := M.len; omega
  have hl2 : (n' : Int) ≤ (C : Int) * (C2 : Int) ∧ (C : Int) * (C2 : Int) ≤ n' := by have := M2.len; omega
  have hRC : R * C2 ≤ 24 * 24 := Nat.mul_le_mul (by omega) (by omega)
  clear M M2 hlen hlen'
  go_enter Try.func173, Try.ntmps173
  go_wp2_with fail
  refine (spec_l3New R C2 _ (by omega) (by omega) (by omega)).mono ?_
  rintro e w3 ⟨Ao, no, co, rfl, hown, hb3⟩
  have hsz3 := hb3.size
  simp at hsz3
  have hno := hown.lenEq
  have hU : Own (.slice Ao no co) (w.heap.size + 1 + 1 + 1) w3.heap.size := hown.own.wide (by first | omega | (simp; done) | (simp; omega)) (Nat.le_refl _)
  have hno1 : no ≤ R * C2 ∧ R * C2 ≤ no := by simp at hno; omega
  have hno2 : (no : Int) ≤ (R : Int) * (C2 : Int) ∧ (R : Int) * (C2 : Int) ≤ no := by rw [← Int.natCast_mul]; omega
  have hA3 : BM (w3.alloc (.cells #[.int .i64 R, .int .i64 C2, .slice Ao no co] 28)) w.heap.size R C A n cap := by (with_reducible (repeat (first | assumption | refine BX.n_ | refine BX.b_ ?_ | apply BX.drew | apply BX.drewN | refine BX.put ?_ | refine BX.put2 ?_ | refine BX.f_ ?_ | apply BX.alloc | refine B3.n_ | refine B3.of (by assumption) | refine B3.b_ ?_ | apply B3.drew | apply B3.drewN | refine B3.f_ ?_ | apply B3.alloc)))
  have hB3 : BM (w3.alloc (.cells #[.int .i64 R, .int .i64 C2, .slice Ao no co] 28)) (w.heap.size + 1) C C2 A' n' cap' := by (with_reducible (repeat (first | assumption | refine BX.n_ | refine BX.b_ ?_ | apply BX.drew | apply BX.drewN | refine BX.put ?_ | refine BX.put2 ?_ | refine BX.f_ ?_ | apply BX.alloc | refine B3.n_ | refine B3.of (by assumption) | refine B3.b_ ?_ | apply B3.drew | apply B3.drewN | refine B3.f_ ?_ | apply B3.alloc)))
  have hR3 : BM (w3.alloc (.cells #[.int .i64 R, .int .i64 C2, .slice Ao no co] 28)) (w.heap.size + 1 + 1) 0 0 none 0 0 := by (with_reducible (repeat (first | assumption | refine BX.n_ | refine BX.b_ ?_ | apply BX.drew | apply BX.drewN | refine BX.put ?_ | refine BX.put2 ?_ | refine BX.f_ ?_ | apply BX.alloc | refine B3.n_ | refine B3.of (by assumption) | refine B3.b_ ?_ | apply B3.drew | apply B3.drewN | refine B3.f_ ?_ | apply B3.alloc)))
  have hO3 : BM (w3.alloc (.cells #[.int .i64 R, .int .i64 C2, .slice Ao no co] 28)) w3.heap.size R C2 Ao no co := by (with_reducible (repeat (first | assumption | refine BX.n_ | refine BX.b_ ?_ | apply BX.drew | apply BX.drewN | refine BX.put ?_ | refine BX.put2 ?_ | refine BX.f_ ?_ | apply BX.alloc | refine B3.n_ | refine B3.of (by assumption) | refine B3.b_ ?_ | apply B3.drew | apply B3.drewN | refine B3.f_ ?_ | apply B3.alloc)))
  have hown3 : OR (w3.alloc (.cells #[.int .i64 R, .int .i64 C2, .slice Ao no co] 28)) (w.heap.size + 1 + 1 + 1) (.slice Ao no co) (fillTo (mulL xs R C ys C2) (R * C2) 0) := by
    rw [fillTo_zero]; exact (hown.mono (by first | omega | (simp; done) | (simp; omega))).alloc _
  have hbw3 : Below w.heap.size w (w3.alloc (.cells #[.int .i64 R, .int .i64 C2, .slice Ao no co] 28)) := by (repeat (first | (with_reducible (first | exact Below.refl _ _ | assumption | refine below_drewN ?_ _ | refine Below.drew ?_ | refine Below.alloc ?_ ?_ _ | refine Below.setCell ?_ ?_ _ | refine below_i ?_)) | go_size))
  have hq3 : w.heap.size + 1 + 1 + 1 ≤ w3.heap.size := by omega
  have hU0 : Hid (0 < R * C2 → ∃ g, Ao = some ⟨g, 0, none⟩ ∧ w.heap.size + 1 + 1 + 1 ≤ g ∧ g < w3.heap.size) := Lib.hid (fun hp => by have := hown.begins (by simpa using hp); simpa using this)
  clear hown hno hb3
  go_wp2_with fail
  generalize hbO : w3.heap.size = bO at *
  have HBO := Lib.hid hbO
  clear hbO
  go_loopw [6] (fun v wr => ∃ i : Nat, v = .int .i64 i ∧ i ≤ R ∧ BM wr w.heap.size R C A n cap ∧ BM wr (w.heap.size + 1) C C2 A' n' cap' ∧ BM wr (w.heap.size + 1 + 1) 0 0 none 0 0 ∧ BM wr bO R C2 Ao no co ∧ OR wr (w.heap.size + 1 + 1 + 1) (.slice Ao no co) (fillTo (mulL xs R C ys C2) (R * C2) (i*C2)) ∧ Below w.heap.size w wr) (fun v _ => R - (intOf v).toNat)
  case atStart => exact ⟨0, rfl, Nat.zero_le _, hA3, hB3, hR3, hO3, by rw [Nat.zero_mul]; exact hown3, hbw3⟩
  case round =>
    clear hA3 hB3 hR3 hO3 hown3 hbw3
    obtain ⟨i, rfl, hi, hA, hB, hR, hO, hown, hbw⟩ := hrel
    obtain ⟨aa, ab, ac, af, al⟩ := hA.mx; obtain ⟨ba, bb, bc, bf, bl⟩ := hB.mx; obtain ⟨oa, ob, oc, of, ol⟩ := hO.mx
    by_cases hiR : i < R
    · go_wp2_with fail
      obtain ⟨wo, rfl⟩ : ∃ wo : World, wo = wr := ⟨_, rfl⟩
      go_loopw [7, 8, 9] (fun v _ _ wr => ∃ j : Nat, v = .int .i64 j ∧ j ≤ C2 ∧ BM wr w.heap.size R C A n cap ∧ BM wr (w.heap.size + 1) C C2 A' n' cap' ∧ BM wr (w.heap.size + 1 + 1) 0 0 none 0 0 ∧ BM wr bO R C2 Ao no co ∧ OR wr (w.heap.size + 1 + 1 + 1) (.slice Ao no co) (fillTo (mulL xs R C ys C2) (R * C2) (i*C2+j)) ∧ Below w.heap.size w wr) (fun v _ _ _ => C2 - (intOf v).toNat)
      case atStart => exact ⟨0, rfl, Nat.zero_le _, hA, hB, hR, hO, hown, hbw⟩
      case round =>
        clear hA hB hR hO hown hbw
        clear aa ab ac af al ba bb bc bf bl oa ob oc of ol
        obtain ⟨j, rfl, hj, hA, hB, hR, hO, hown, hbw⟩ := hrel
        obtain ⟨aa, ab, ac, af, al⟩ := hA.mx; obtain ⟨ba, bb, bc, bf, bl⟩ := hB.mx; obtain ⟨oa, ob, oc, of, ol⟩ := hO.mx
        by_cases hjC : j < C2
        · go_wp2_with fail
          obtain ⟨wo2, rfl⟩ : ∃ wo : World, wo = wr := ⟨_, rfl⟩
          go_loopw [8, 9] (fun u v wr => ∃ k : Nat, v = .int .i64 k ∧ u = .int .i64 (psum xs C ys C2 i j k) ∧ k ≤ C ∧ BM wr w.heap.size R C A n cap ∧ BM wr (w.heap.size + 1) C C2 A' n' cap' ∧ BM wr (w.heap.size + 1 + 1) 0 0 none 0 0 ∧ BM wr bO R C2 Ao no co ∧ OR wr (w.heap.size + 1 + 1 + 1) (.slice Ao no co) (fillTo (mulL xs R C ys C2) (R * C2) (i*C2+j)) ∧ Below w.heap.size w wr) (fun _ v _ => C - (intOf v).toNat)
          case atStart => exact ⟨0, rfl, rfl, Nat.zero_le _, hA, hB, hR, hO, hown, hbw⟩
          case round =>
            clear hA hB hR hO hown hbw
            clear aa ab ac af al ba bb bc bf bl oa ob oc of ol
            obtain ⟨k, rfl, rfl, hk, hA, hB, hR, hO, hown, hbw⟩ := hrel
            obtain ⟨aa, ab, ac, af, al⟩ := hA.mx; obtain ⟨ba, bb, bc, bf, bl⟩ := hB.mx; obtain ⟨oa, ob, oc, of, ol⟩ := hO.mx
            generalize hq : i * C2 + j = q at *
            have HQ := Lib.hid hq
            clear hq
            by_cases hkC : k < C
            · obtain ⟨p1, p2⟩ := psum_bd HMM.out HMM2.out i j k (by omega)
              obtain ⟨p3, p4⟩ := psum_bd HMM.out HMM2.out i j (k + 1) (by omega)
              have hps : psum xs C ys C2 i j (k + 1) = psum xs C ys C2 i j k + cel xs C i k * cel ys C2 k j := rfl
              rw [hps] at p3 p4
              have HPS := Lib.hid hps
              clear hps
              obtain ⟨x1, x2, x3, x4⟩ := idx_bd (r := R) (c := C) (i := i) (j := k) hR' hC (by omega) (by omega) (by omega) (by omega)
              obtain ⟨x5, x6, x7, x8⟩ := idx_bd (r := C) (c := C2) (i := k) (j := j) hC hC2 (by omega) (by omega) (by omega) (by omega)
              obtain ⟨y1, y2⟩ := HMM.out.cel_bd i k
              obtain ⟨y3, y4⟩ := HMM2.out.cel_bd k j
              obtain ⟨z1, z2⟩ := mul_bd4 _ _ 400000000 400000000 y1 y2 y3 y4
              have g1 : IntKind.i64.wrap (cel xs C i k * cel ys C2 k j) = cel xs C i k * cel ys C2 k j := IntWalk.i64_in _ (by omega)
              have g2 : IntKind.i64.wrap (psum xs C ys C2 i j k + cel xs C i k * cel ys C2 k j) = psum xs C ys C2 i j k + cel xs C i k * cel ys C2 k j := IntWalk.i64_in _ (by omega)
              go_wp2_with fail
              obtain ⟨ab1, ao1, rfl, hab, hac⟩ := H2.out.2 (by omega)
              obtain ⟨bb1, bo1, rfl, hbb, hbc⟩ := H3.out.2 (by omega)
              have c1 := (hbw.cell (p := ⟨ab1, ao1 + ((i : Int) * (C : Int) + (k : Int)).toNat, none⟩) hab).trans (hac _ (by omega))
              have c2 := (hbw.cell (p := ⟨bb1, bo1 + ((k : Int) * (C2 : Int) + (j : Int)).toNat, none⟩) hbb).trans (hbc _ (by omega))
              clear hac hbc
              rw [show xs.getD ((i : Int) * (C : Int) + (k : Int)).toNat 0 = cel xs C i k from rfl] at c1
              rw [show ys.getD ((k : Int) * (C2 : Int) + (j : Int)).toNat 0 = cel ys C2 k j from rfl] at c2
              have g3 : IntKind.i64.wrap ((i : Int) * (C : Int)) = (i : Int) * (C : Int) := IntWalk.i64_in _ (by omega)
              have g4 : IntKind.i64.wrap ((k : Int) * (C2 : Int)) = (k : Int) * (C2 : Int) := IntWalk.i64_in _ (by omega)
              have g5 : IntKind.i64.wrap ((i : Int) * (C : Int) + (k : Int)) = (i : Int) * (C : Int) + (k : Int) := IntWalk.i64_in _ (by omega)
              have g6 : IntKind.i64.wrap ((k : Int) * (C2 : Int) + (j : Int)) = (k : Int) * (C2 : Int) + (j : Int) := IntWalk.i64_in _ (by omega)
              have g7 : 0 ≤ (i : Int) * (C : Int) + (k : Int) ∧ (i : Int) * (C : Int) + (k : Int) < (n : Int) := by omega
              have g8 : 0 ≤ (k : Int) * (C2 : Int) + (j : Int) ∧ (k : Int) * (C2 : Int) + (j : Int) < (n' : Int) := by omega
              obtain ⟨g7a, g7b⟩ := g7
              obtain ⟨g8a, g8b⟩ := g8
              generalize cel xs C i k = xv at *
              generalize cel ys C2 k j = yv at *
              ((refine wp_region_held_drew (S := (fun w' => w'.cell? ⟨w.heap.size, 1, none⟩ = some (.int .i64 C) ∧ w'.cell? ⟨w.heap.size, 2, none⟩ = some (.slice (some ⟨ab1, ao1, none⟩) n cap) ∧ w'.cell? ⟨w.heap.size + 1, 1, none⟩ = some (.int .i64 C2) ∧ w'.cell? ⟨w.heap.size + 1, 2, none⟩ = some (.slice (some ⟨bb1, bo1, none⟩) n' cap') ∧ w'.cell? ⟨ab1, ao1 + ((i : Int) * (C : Int) + (k : Int)).toNat, none⟩ = some (.int .i64 xv) ∧ w'.cell? ⟨bb1, bo1 + ((k : Int) * (C2 : Int) + (j : Int)).toNat, none⟩ = some (.int .i64 yv))) (by kernel_rfl) ?_ (fun hHeld => ?_)); ((focus ((try dsimp only); (go_keep)))); ((refine tk_ (i := 0) (v := ?_) (y := Or.inl ⟨by rfl, ?_⟩) (h := ?_); rotate_left; (focus (((intro w hSw; (try dsimp only at hSw); go_simp) <;> (try with_reducible rfl)); done)); (try simp only [Act.put, p1_, p2_, p3_]))); ((refine tk_ (i := 1) (v := ?_) (y := Or.inl ⟨by rfl, ?_⟩) (h := ?_); rotate_left; (focus (((intro w hSw; (try dsimp only at hSw); go_simp) <;> (try with_reducible rfl)); done)); (try simp only [Act.put, p1_, p2_, p3_]))); ((refine tk_ (i := 2) (v := ?_) (y := Or.inl ⟨by rfl, ?_⟩) (h := ?_); rotate_left; (focus (((intro w hSw; (try dsimp only at hSw); go_simp) <;> (try with_reducible rfl)); done)); (try simp only [Act.put, p1_, p2_, p3_]))); ((refine tk_ (i := 3) (v := ?_) (y := Or.inl ⟨by rfl, ?_⟩) (h := ?_); rotate_left; (focus (((intro w hSw; (try dsimp only at hSw); go_simp) <;> (try with_reducible rfl)); done)); (try simp only [Act.put, p1_, p2_, p3_]))); ((refine tk_ (i := 4) (v := ?_) (y := Or.inl ⟨by rfl, ?_⟩) (h := ?_); rotate_left; (focus (((intro w hSw; (try dsimp only at hSw); go_simp) <;> (try with_reducible rfl)); done)); (try simp only [Act.put, p1_, p2_, p3_]))); ((refine tk_ (i := 5) (v := ?_) (y := Or.inl ⟨by rfl, ?_⟩) (h := ?_); rotate_left; (focus (((intro w hSw; (try dsimp only at hSw); go_simp) <;> (try with_reducible rfl)); done)); (try simp only [Act.put, p1_, p2_, p3_]))); ((refine tk_ (i := 6) (v := ?_) (y := Or.inl ⟨by rfl, ?_⟩) (h := ?_); rotate_left; (focus (((intro w hSw; (try dsimp only at hSw); go_simp) <;> (try with_reducible rfl)); done)); (try simp only [Act.put, p1_, p2_, p3_]))); ((refine tk_ (i := 7) (v := ?_) (y := Or.inl ⟨by rfl, ?_⟩) (h := ?_); rotate_left; (focus (((intro w hSw; (try dsimp only at hSw); go_simp) <;> (try with_reducible rfl)); done)); (try simp only [Act.put, p1_, p2_, p3_]))); ((refine tk_ (i := 8) (v := ?_) (y := Or.inl ⟨by rfl, ?_⟩) (h := ?_); rotate_left; (focus (((intro w hSw; (try dsimp only at hSw); go_simp) <;> (try with_reducible rfl)); done)); (try simp only [Act.put, p1_, p2_, p3_]))); ((refine tk_ (i := 9) (v := ?_) (y := Or.inl ⟨by rfl, ?_⟩) (h := ?_); rotate_left; (focus (((intro w hSw; (try dsimp only at hSw); go_simp) <;> (try with_reducible rfl)); done)); (try simp only [Act.put, p1_, p2_, p3_]))); ((refine tk_ (i := 10) (v := ?_) (y := Or.inl ⟨by rfl, ?_⟩) (h := ?_); rotate_left; (focus (((intro w hSw; (try dsimp only at hSw); go_simp) <;> (try with_reducible rfl)); done)); (try simp only [Act.put, p1_, p2_, p3_]))); ((refine tk_ (i := 11) (v := ?_) (y := Or.inl ⟨by rfl, ?_⟩) (h := ?_); rotate_left; (focus (((intro w hSw; (try dsimp only at hSw); go_simp) <;> (try with_reducible rfl)); done)); (try simp only [Act.put, p1_, p2_, p3_]))); ((refine tk_ (i := 12) (v := ?_) (y := Or.inl ⟨by rfl, ?_⟩) (h := ?_); rotate_left; (focus (((intro w hSw; (try dsimp only at hSw); go_simp) <;> (try with_reducible rfl)); done)); (try simp only [Act.put, p1_, p2_, p3_]))); ((refine tk_ (i := 13) (v := ?_) (y := Or.inl ⟨by rfl, ?_⟩) (h := ?_); rotate_left; (focus (((intro w hSw; (try dsimp only at hSw); go_simp) <;> (try with_reducible rfl)); done)); (try simp only [Act.put, p1_, p2_, p3_]))); ((refine tk_ (i := 14) (v := ?_) (y := Or.inl ⟨by rfl, ?_⟩) (h := ?_); rotate_left; (focus (((intro w hSw; (try dsimp only at hSw); go_simp) <;> (try with_reducible rfl)); done)); (try simp only [Act.put, p1_, p2_, p3_]))); ((refine tk_ (i := 15) (v := ?_) (y := Or.inl ⟨by rfl, ?_⟩) (h := ?_); rotate_left; (focus (((intro w hSw; (try dsimp only at hSw); go_simp) <;> (try with_reducible rfl)); done)); (try simp only [Act.put, p1_, p2_, p3_]))); ((refine tk_ (i := 16) (v := ?_) (y := Or.inl ⟨by rfl, ?_⟩) (h := ?_); rotate_left; (focus (((intro w hSw; (try dsimp only at hSw); go_simp) <;> (try with_reducible rfl)); done)); (try simp only [Act.put, p1_, p2_, p3_]))); ((refine tk_ (i := 17) (v := ?_) (y := Or.inl ⟨by rfl, ?_⟩) (h := ?_); rotate_left; (focus (((intro w hSw; (try dsimp only at hSw); go_simp) <;> (try with_reducible rfl)); done)); (try simp only [Act.put, p1_, p2_, p3_]))); ((refine tk_ (i := 18) (v := ?_) (y := Or.inl ⟨by rfl, ?_⟩) (h := ?_); rotate_left; (focus (((intro w hSw; (try dsimp only at hSw); go_simp) <;> (try with_reducible rfl)); done)); (try simp only [Act.put, p1_, p2_, p3_]))); ((refine tk_ (i := 19) (v := ?_) (y := Or.inl ⟨by rfl, ?_⟩) (h := ?_); rotate_left; (focus (((intro w hSw; (try dsimp only at hSw); go_simp) <;> (try with_reducible rfl)); done)); (try simp only [Act.put, p1_, p2_, p3_]))); ((refine tk_ (i := 20) (v := ?_) (y := Or.inl ⟨by rfl, ?_⟩) (h := ?_); rotate_left; (focus (((intro w hSw; (try dsimp only at hSw); go_simp) <;> (try with_reducible rfl)); done)); (try simp only [Act.put, p1_, p2_, p3_]))); ((refine tk_ (i := 21) (v := ?_) (y := Or.inl ⟨by rfl, ?_⟩) (h := ?_); rotate_left; (focus (((intro w hSw; (try dsimp only at hSw); go_simp) <;> (try with_reducible rfl)); done)); (try simp only [Act.put, p1_, p2_, p3_]))); ((refine tk_ (i := 22) (v := ?_) (y := Or.inl ⟨by rfl, ?_⟩) (h := ?_); rotate_left; (focus (((intro w hSw; (try dsimp only at hSw); go_simp) <;> (try with_reducible rfl)); done)); (try simp only [Act.put, p1_, p2_, p3_]))); ((refine tk_ (i := 23) (v := ?_) (y := Or.inl ⟨by rfl, ?_⟩) (h := ?_); rotate_left; (focus (((intro w hSw; (try dsimp only at hSw); go_simp) <;> (try with_reducible rfl)); done)); (try simp only [Act.put, p1_, p2_, p3_]))); (refine wpAnyH_done (by kernel_rfl) ?_ _))
              clear g1 g2 g3 g4 g5 g6 c1 c2
              go_wp2_with fail
              go_roundw
              case rel => exact ⟨k + 1, by go_num, by rw [HPS.out], by omega, by (with_reducible (repeat (first | exact hA | refine BX.n_ | refine BX.b_ ?_ | apply BX.drew | apply BX.drewN | refine BX.put ?_ | refine BX.put2 ?_ | refine BX.f_ ?_ | apply BX.alloc | refine B3.n_ | exact B3.of hA | refine B3.b_ ?_ | apply B3.drew | apply B3.drewN | refine B3.f_ ?_ | apply B3.alloc))), by (with_reducible (repeat (first | exact hB | refine BX.n_ | refine BX.b_ ?_ | apply BX.drew | apply BX.drewN | refine BX.put ?_ | refine BX.put2 ?_ | refine BX.f_ ?_ | apply BX.alloc | refine B3.n_ | exact B3.of hB | refine B3.b_ ?_ | apply B3.drew | apply B3.drewN | refine B3.f_ ?_ | apply B3.alloc))), by (with_reducible (repeat (first | exact hR | refine BX.n_ | refine BX.b_ ?_ | apply BX.drew | apply BX.drewN | refine BX.put ?_ | refine BX.put2 ?_ | refine BX.f_ ?_ | apply BX.alloc | refine B3.n_ | exact B3.of hR | refine B3.b_ ?_ | apply B3.drew | apply B3.drewN | refine B3.f_ ?_ | apply B3.alloc))), by (with_reducible (repeat (first | exact hO | refine BX.n_ | refine BX.b_ ?_ | apply BX.drew | apply BX.drewN | refine BX.put ?_ | refine BX.put2 ?_ | refine BX.f_ ?_ | apply BX.alloc | refine B3.n_ | exact B3.of hO | refine B3.b_ ?_ | apply B3.drew | apply B3.drewN | refine B3.f_ ?_ | apply B3.alloc))), by (with_reducible (repeat (first | exact hown | refine OR.drew ?_ | refine OR.drewN ?_ _ | refine OR.alloc ?_ _ | refine OR.b_ ?_ | refine OR.l_ ?_))), by (repeat (first | (with_reducible (first | exact Below.refl _ _ | assumption | refine below_drewN ?_ _ | refine Below.drew ?_ | refine Below.alloc ?_ ?_ _ | refine Below.setCell ?_ ?_ _ | refine below_i ?_)) | go_size))⟩
              case measure => simp only [intOf]; omega
            · obtain rfl : k = C := by omega
              obtain ⟨x1, x2, x3, x4⟩ := idx_bd (r := R) (c := C2) (i := i) (j := j) hR' hC2 (by omega) (by omega) (by omega) (by omega)
              have hqR : q < R * C2 := by rw [← HQ.out]; exact idx_nat hiR hjC
              have e9 : ((i : Int) * (C2 : Int) + (j : Int)).toNat = q := by rw [← HQ.out, ← Int.natCast_mul, ← Int.natCast_add, Int.toNat_natCast]
              have e8 : (mulL xs R k ys C2).getD q 0 = psum xs k ys C2 i j k := by rw [← HQ.out]; exact mulL_at hiR hjC
              have E9 := Lib.hid e9
              have E8 := Lib.hid e8
              clear e9 e8
              have hnq : q < no := by omega
              obtain ⟨g, rfl, hg1, hg2⟩ := hU0.out (by omega)
              have hc1 := hown.cell q (by rw [fillTo_len (mulL_len _ _ _ _ _) (by omega)]; exact hqR)
              have hf1 := hown.frozen q
              generalize (fillTo (mulL xs R k ys C2) (R * C2) q).getD q 0 = oldv at hc1
              have hst := hown.set_ q (psum xs k ys C2 i j k)
              rw [fillTo_set' (mulL_len _ _ _ _ _) hqR E8.out] at hst
              have hgr := only_set (g := g) (World.grownBy.refl wr (some g)) q (.int .i64 (psum xs k ys C2 i j k))
              have hsz4 : wr.heap.size ≤ (wr.setCell ⟨g, q, none⟩ (.int .i64 (psum xs k ys C2 i j k))).heap.size := by simp [World.setCell]
              have i1 : (0 : Int) ≤ (i : Int) * (C2 : Int) + (j : Int) := by omega
              have i2 : (i : Int) * (C2 : Int) + (j : Int) < (no : Int) := by omega
              have i3 := E9.out
              have hA4 := hA.keptOwn (sv := .slice (some ⟨g, 0, none⟩) no co) hgr hU (by omega)
              have hB4 := hB.keptOwn (sv := .slice (some ⟨g, 0, none⟩) no co) hgr hU (by omega)
              have hR4 := hR.keptOwn (sv := .slice (some ⟨g, 0, none⟩) no co) hgr hU (by omega)
              have hO4 := hO.keptOwn (sv := .slice (some ⟨g, 0, none⟩) no co) hgr hU (by omega)
              have hbw4 : Below w.heap.size w (wr.setCell ⟨g, q, none⟩ (.int .i64 (psum xs k ys C2 i j k))) := hbw.trans (below_keptOwn (sv := .slice (some ⟨g, 0, none⟩) no co) hgr hU (by omega) (by omega))
              have HS := Lib.hid hst
              clear hst
              go_wp2_with fail
              go_roundw
              case rel => exact ⟨j + 1, by go_num, by omega, by (with_reducible (repeat (first | exact hA4 | refine BX.n_ | refine BX.b_ ?_ | apply BX.drew | apply BX.drewN | refine BX.put ?_ | refine BX.put2 ?_ | refine BX.f_ ?_ | apply BX.alloc | refine B3.n_ | exact B3.of hA4 | refine B3.b_ ?_ | apply B3.drew | apply B3.drewN | refine B3.f_ ?_ | apply B3.alloc))), by (with_reducible (repeat (first | exact hB4 | refine BX.n_ | refine BX.b_ ?_ | apply BX.drew | apply BX.drewN | refine BX.put ?_ | refine BX.put2 ?_ | refine BX.f_ ?_ | apply BX.alloc | refine B3.n_ | exact B3.of hB4 | refine B3.b_ ?_ | apply B3.drew | apply B3.drewN | refine B3.f_ ?_ | apply B3.alloc))), by (with_reducible (repeat (first | exact hR4 | refine BX.n_ | refine BX.b_ ?_ | apply BX.drew | apply BX.drewN | refine BX.put ?_ | refine BX.put2 ?_ | refine BX.f_ ?_ | apply BX.alloc | refine B3.n_ | exact B3.of hR4 | refine B3.b_ ?_ | apply B3.drew | apply B3.drewN | refine B3.f_ ?_ | apply B3.alloc))), by (with_reducible (repeat (first | exact hO4 | refine BX.n_ | refine BX.b_ ?_ | apply BX.drew | apply BX.drewN | refine BX.put ?_ | refine BX.put2 ?_ | refine BX.f_ ?_ | apply BX.alloc | refine B3.n_ | exact B3.of hO4 | refine B3.b_ ?_ | apply B3.drew | apply B3.drewN | refine B3.f_ ?_ | apply B3.alloc))), by rw [← Nat.add_assoc, HQ.out]; (with_reducible (repeat (first | exact HS.out | refine OR.drew ?_ | refine OR.drewN ?_ _ | refine OR.alloc ?_ _ | refine OR.b_ ?_ | refine OR.l_ ?_))), by (repeat (first | (with_reducible (first | exact Below.refl _ _ | assumption | refine below_drewN ?_ _ | refine Below.drew ?_ | refine Below.alloc ?_ ?_ _ | refine Below.setCell ?_ ?_ _ | refine below_i ?_)) | go_size))⟩
              case measure => simp only [intOf]; omega
        · obtain rfl : j = C2 := by omega
          have E7 : Hid ((i + 1) * j = i * j + j) := Lib.hid (by rw [Nat.add_mul, Nat.one_mul])
          go_wp2_with fail
          go_roundw
          case rel => exact ⟨i + 1, by go_num, by omega, by (with_reducible (repeat (first | exact hA | refine BX.n_ | refine BX.b_ ?_ | apply BX.drew | apply BX.drewN | refine BX.put ?_ | refine BX.put2 ?_ | refine BX.f_ ?_ | apply BX.alloc | refine B3.n_ | exact B3.of hA | refine B3.b_ ?_ | apply B3.drew | apply B3.drewN | refine B3.f_ ?_ | apply B3.alloc))), by (with_reducible (repeat (first | exact hB | refine BX.n_ | refine BX.b_ ?_ | apply BX.drew | apply BX.drewN | refine BX.put ?_ | refine BX.put2 ?_ | refine BX.f_ ?_ | apply BX.alloc | refine B3.n_ | exact B3.of hB | refine B3.b_ ?_ | apply B3.drew | apply B3.drewN | refine B3.f_ ?_ | apply B3.alloc))), by (with_reducible (repeat (first | exact hR | refine BX.n_ | refine BX.b_ ?_ | apply BX.drew | apply BX.drewN | refine BX.put ?_ | refine BX.put2 ?_ | refine BX.f_ ?_ | apply BX.alloc | refine B3.n_ | exact B3.of hR | refine B3.b_ ?_ | apply B3.drew | apply B3.drewN | refine B3.f_ ?_ | apply B3.alloc))), by (with_reducible (repeat (first | exact hO | refine BX.n_ | refine BX.b_ ?_ | apply BX.drew | apply BX.drewN | refine BX.put ?_ | refine BX.put2 ?_ | refine BX.f_ ?_ | apply BX.alloc | refine B3.n_ | exact B3.of hO | refine B3.b_ ?_ | apply B3.drew | apply B3.drewN | refine B3.f_ ?_ | apply B3.alloc))), by rw [E7.out]; (with_reducible (repeat (first | exact hown | refine OR.drew ?_ | refine OR.drewN ?_ _ | refine OR.alloc ?_ _ | refine OR.b_ ?_ | refine OR.l_ ?_))), by (repeat (first | (with_reducible (first | exact Below.refl _ _ | assumption | refine below_drewN ?_ _ | refine Below.drew ?_ | refine Below.alloc ?_ ?_ _ | refine Below.setCell ?_ ?_ _ | refine below_i ?_)) | go_size))⟩
          case measure => simp only [intOf]; omega
    · obtain rfl : i = R := by omega
      have hfin := hown.as (fillTo_all (mulL_len xs i C ys C2))
      obtain ⟨ra, rb, rc, rf, rl⟩ := hR.mx
      clear hown
      go_wp2_with fail
      refine ret_M (r := i) (c := C2) (A := Ao) (n := no) (cap := co) Try.results173 rfl (by (with_reducible (repeat (first | exact hR | refine BX.n_ | refine BX.b_ ?_ | apply BX.drew | apply BX.drewN | refine BX.put ?_ | refine BX.put2 ?_ | refine BX.f_ ?_ | apply BX.alloc | refine B3.n_ | exact B3.of hR | refine B3.b_ ?_ | apply B3.drew | apply B3.drewN | refine B3.f_ ?_ | apply B3.alloc)))) rfl ?_
      exact MR.mk (xs := mulL xs i C ys C2) rfl (OR.mono (B := w.heap.size + 1 + 1 + 1) (by (with_reducible (repeat (first | exact hfin | refine OR.drew ?_ | refine OR.drewN ?_ _ | refine OR.alloc ?_ _ | refine OR.b_ ?_ | refine OR.l_ ?_)))) (by omega)) (by (repeat (first | (with_reducible (first | exact Below.refl _ _ | assumption | refine below_drewN ?_ _ | refine Below.drew ?_ | refine Below.alloc ?_ ?_ _ | refine Below.setCell ?_ ?_ _ | refine below_i ?_)) | go_size)))
end Go.Proofs.Ytmcbhpaajjlmmaa

/-
  DERIVED. The contracts of ReduceMod, both.
-/
import Derived.Test.YtlggfmfelakadaaGreatDoorc2
import Derived.Test.YtlggfmfelakadaaGreatDoorc3
namespace Go.Proofs.YtlggfmfelakadaaGreatDoor
open Go.RowKit
set_option linter.unusedVariables false
/-- The residues of a list. -/
def redL (xs : List Int) (p : Int) : List Int := xs.map (· % p)
def redK (xs : List Int) (p : Int) (k : Nat) : List Int := redL (xs.take k) p ++ xs.drop k
def redB (r c : Int) (xs : List Int) (p : Int) : Bool := isMat r c xs && isPr p
def redM (r c : Int) (xs : List Int) (p : Int) : Mx := if redB r c xs p then ⟨r, c, redL xs p⟩ else .none
theorem redK_len (xs : List Int) (p : Int) (k : Nat) : (redK xs p k).length = xs.length := by
  simp [redK, redL]; omega
theorem redK_set (xs : List Int) (p : Int) (k : Nat) (hk : k < xs.length) : (redK xs p k).set k (xs.getD k 0 % p) = redK xs p (k + 1) := by
  unfold redK redL
  apply List.ext_getElem?
  intro i
  grind
theorem redK_end (xs : List Int) (p : Int) {k : Nat} (hk : xs.length ≤ k) : redK xs p k = redL xs p := by
  simp [redK, List.take_of_length_le hk, List.drop_of_length_le hk]
theorem redK_at (xs : List Int) (p : Int) (k : Nat) : (redK xs p k).getD k 0 = xs.getD k 0 := by
  simp only [redK, redL, List.getD]
  rcases Nat.lt_or_ge k xs.length with h | h
  · rw [List.getElem?_append_right (by simp; omega)]
    simp [Nat.min_eq_left (Nat.le_of_lt h)]
  · simp [h]
theorem redM_len (r c : Int) (xs : List Int) (p : Int) : (redM r c xs p).xs.length ≤ xs.length := by
  unfold redM
  split
  · simp [redL]
  · simp [Mx.none]
set_option maxRecDepth 100000 in
set_option maxHeartbeats 2000000 in
theorem impl_ReduceMod (r c p : Int) (A : Option Addr) (n cap : Nat) (xs : List Int) (w : World) {B : Nat} (h : RI w B A n xs) (hB : B ≤ w.heap.size) (hn : n ≤ 1048576) :
    Calls Tryz.prog 61 #[.agg #[.int .i64 r, .int .i64 c, .slice A n cap], .int .i64 p] w (MBR (redM r c xs p) (redB r c xs p) w) := by
  have hlx : xs.length ≤ 1048576 := by have := h.len; omega
  have H2 := Lib.hid (h.more hB)
  clear h
  rcases hm : isMat r c xs && isPr p with _ | _
  · have hb0 : redB r c xs p = false := hm
    have hm0 : redM r c xs p = .none := by unfold redM; rw [hb0]; rfl
    rw [hb0, hm0]
    clear hb0 hm0
    have hcs : isMat r c xs = false ∨ (isMat r c xs = true ∧ isPr p = false) := by
      cases h1 : isMat r c xs <;> cases h2 : isPr p <;> simp_all
    have hcs' : isPr p = false ∨ (isPr p = true ∧ isMat r c xs = false) := by
      cases h1 : isMat r c xs <;> cases h2 : isPr p <;> simp_all
    clear hm
    rcases hcs' with hp | ⟨hp, hm⟩
    all_goals
      have HP := Lib.hid hp
      try have HM := Lib.hid hm
      clear hcs
      go_enter Tryz.func61, Tryz.ntmps61
      go_wp2_with (first | (go_at_call 41; refine (impl_IsPrime _ _).mono ?_; rintro e w' ⟨rfl, rfl⟩) | (go_at_call 18; refine (impl_IsMatrix r c A n cap xs _ (C := w.heap.size) (Kr H2.out) Ks hn).mono ?_; rw [HM.out]; rintro e w1 ⟨rfl, hb⟩; have hz := hb.size; (try simp at hz); have kk := bkeep (w := w) hb Ks; obtain ⟨kc, kf⟩ := kk; (try (have kk := bkeepb (w.heap.size) hb Ks; obtain ⟨kc0, kf0, kl0⟩ := kk)); (try (have kk := bkeepb (w.heap.size + 1) hb Ks; obtain ⟨kc1, kf1, kl1⟩ := kk)); (try (have kk := bkeepb (w.heap.size + 1 + 1) hb Ks; obtain ⟨kc2, kf2, kl2⟩ := kk)); (try (have kk := bkeepb (w.heap.size + 1 + 1 + 1) hb Ks; obtain ⟨kc3, kf3, kl3⟩ := kk)); (try (have kk := bkeepb (wr.heap.size) hb Ks; obtain ⟨kr0, ks0, kt0⟩ := kk)); (try (have kk := bkeepb (wr.heap.size + 1) hb Ks; obtain ⟨kr1, ks1, kt1⟩ := kk)); (try (have kk := bkeepb (wr.heap.size + 1 + 1) hb Ks; obtain ⟨kr2, ks2, kt2⟩ := kk))))
      refine ret_MB (r := 0) (c := 0) (A := none) (n := 0) (cap := 0) Tryz.results61 rfl Ka rfl ?_
      exact MBR.mk rfl (OR.nil_ _ _) Kw
  · have hb0 : redB r c xs p = true := hm
    have hm0 : redM r c xs p = ⟨r, c, redL xs p⟩ := by unfold redM; rw [hb0]; rfl
    rw [hb0, hm0]
    clear hb0 hm0
    rw [Bool.and_eq_true] at hm
    obtain ⟨hm, hp⟩ := hm
    have M := isMat_iff.1 hm
    have HM := Lib.hid hm
    have HP := Lib.hid hp
    clear hm
    go_enter Tryz.func61, Tryz.ntmps61
    go_wp2_with (first | (go_at_call 41; refine (impl_IsPrime _ _).mono ?_; rintro e w' ⟨rfl, rfl⟩) | (go_at_call 18; refine (impl_IsMatrix r c A n cap xs _ (C := w.heap.size) (Kr H2.out) Ks hn).mono ?_; rw [HM.out]; rintro e w1 ⟨rfl, hb⟩; have hz := hb.size; (try simp at hz); have kk := bkeep (w := w) hb Ks; obtain ⟨kc, kf⟩ := kk; (try (have kk := bkeepb (w.heap.size) hb Ks; obtain ⟨kc0, kf0, kl0⟩ := kk)); (try (have kk := bkeepb (w.heap.size + 1) hb Ks; obtain ⟨kc1, kf1, kl1⟩ := kk)); (try (have kk := bkeepb (w.heap.size + 1 + 1) hb Ks; obtain ⟨kc2, kf2, kl2⟩ := kk)); (try (have kk := bkeepb (w.heap.size + 1 + 1 + 1) hb Ks; obtain ⟨kc3, kf3, kl3⟩ := kk)); (try (have kk := bkeepb (wr.heap.size) hb Ks; obtain ⟨kr0, ks0, kt0⟩ := kk)); (try (have kk := bkeepb (wr.heap.size + 1) hb Ks; obtain ⟨kr1, ks1, kt1⟩ := kk)); (try (have kk := bkeepb (wr.heap.size + 1 + 1) hb Ks; obtain ⟨kr2, ks2, kt2⟩ := kk))) | (go_at_call 36; refine (impl_copyMatrix r c A n cap xs _ (B := w.heap.size) (Kr H2.out) Ks hn).mono ?_; rintro e w2 ⟨A2, n2, cap2, rfl, hn2, hown, hb2⟩; have hz2 := hb2.size; (try simp at hz2); have kk := bkeep (w := w) hb2 Ks; obtain ⟨kc2_, kf2_⟩ := kk; have kk := bkeepb (w.heap.size) hb2 Ks; obtain ⟨kc2_0, kf2_0, kl2_0⟩ := kk; have kk := bkeepb (w.heap.size + 1) hb2 Ks; obtain ⟨kc2_1, kf2_1, kl2_1⟩ := kk))
    have hR : BM (w2.alloc (Obj.cells #[Value.int IntKind.i64 r, Value.int IntKind.i64 c, Value.slice A2 xs.length cap2] 26)) (w.heap.size + 1) 0 0 none 0 0 := Ka
    have hO : BM (w2.alloc (Obj.cells #[Value.int IntKind.i64 r, Value.int IntKind.i64 c, Value.slice A2 xs.length cap2] 26)) w2.heap.size r c A2 xs.length cap2 := Ka
    have hb02 : Below w.heap.size w w2 := Kw
    have hown' : OR w2 w1.heap.size (.slice A2 xs.length cap2) xs := hn2 ▸ hown
    go_loopw [7, 22] (fun v u wr => ∃ k : Nat, u = .int .i64 k ∧ k ≤ xs.length ∧ OR wr w1.heap.size (.slice A2 xs.length cap2) (redK xs p k) ∧ BM wr w2.heap.size r c A2 xs.length cap2 ∧ BM wr (w.heap.size + 1) 0 0 none 0 0 ∧ Below w.heap.size w wr) (fun _ v _ => xs.length - (intOf v).toNat)
    case atStart => exact ⟨0, rfl, Nat.zero_le _, (hown'.alloc _).as (by simp [redK, redL]), hO, hR, Kw⟩
    case round =>
      clear hO hR
      obtain ⟨k, rfl, hk, hownk, hO, hR, hbk⟩ := hrel
      obtain ⟨o0, o1, o2, of, ol⟩ := hO.mx
      obtain ⟨r0, r1, r2, rf, rl⟩ := hR.mx
      by_cases hlt : k < xs.length
      · obtain ⟨g, rfl, hg1, hg2⟩ := hown.begins (by omega)
        have hc0 := hownk.cell k (by rw [redK_len]; omega)
        rw [redK_at xs p k] at hc0
        obtain ⟨hx1, hx2⟩ := M.nums k
        have hst := hownk.set_ k (xs.getD k 0 % p)
        rw [redK_set xs p k hlt] at hst
        generalize xs.getD k 0 = x at hc0 hx1 hx2 hst
        obtain ⟨hq1, hq2⟩ := isPr_bds hp
        have hf1 := hownk.frozen k
        go_wp2
        go_still_tail 11, (by kernel_rfl)
        still_call (still_ev (impl_mod x p _ (by omega) (by omega) (by omega) (by omega)))
        repeat still_step
        refine wpStill_nil ?_
        change wpList _ _ _ _ _ wr.drew
        go_wp2
        go_roundw
        case rel => exact ⟨k + 1, by go_num, by omega, hst, Kb hO, Kb hR, Kw⟩
        case measure => simp only [intOf]; omega
      · go_wp2
        refine ret_MB Tryz.results61 rfl (Kb hR) rfl ?_
        have hend := hownk.as (redK_end xs p (show xs.length ≤ k by omega))
        exact MBR.mk rfl (OR.mono (B := w1.heap.size) (Ko hend) (by omega)) Kw

end Go.Proofs.YtlggfmfelakadaaGreatDoor

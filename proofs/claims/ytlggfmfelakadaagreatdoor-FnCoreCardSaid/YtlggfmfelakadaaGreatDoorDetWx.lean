/-
  DERIVED. A determinant by its first row, as a list; withoutCross, l6Without.
-/
import Derived.Test.YtlggfmfelakadaaGreatDoorc2
import Derived.Test.YtlggfmfelakadaaGreatDoorc4
import Derived.Test.YtlggfmfelakadaaGreatDoorc3
import Derived.Deep.DrawnRows
namespace Go.Proofs.YtlggfmfelakadaaGreatDoor
open Go.RowKit
set_option linter.unusedVariables false
set_option linter.unusedSimpArgs false
theorem OR.sliceFormD {w : World} {B : Nat} {v : Value} {xs : List Int} (h : OR w B v xs) : ∃ A m c, v = .slice A m c := by
  rcases h.form with ⟨h1, _⟩ | ⟨g, cap, h1, _⟩
  · exact ⟨_, _, _, h1⟩
  · exact ⟨_, _, _, h1⟩
/-- The first Q cells of C columns, without row 0 and column col. -/
def wcK (xs : List Int) (C col : Nat) : Nat → List Int
  | 0 => []
  | Q + 1 => if Q / C ≠ 0 ∧ Q % C ≠ col then wcK xs C col Q ++ [xs.getD Q 0] else wcK xs C col Q
theorem wcK_yes {xs : List Int} {C col i k : Nat} (hk : k < C) (hi : i ≠ 0) (hc : k ≠ col) : wcK xs C col (i * C + (k + 1)) = wcK xs C col (i * C + k) ++ [xs.getD (i * C + k) 0] := by
  rw [← Nat.add_assoc]
  conv => lhs; unfold wcK
  rw [(idx_div hk).1, (idx_div hk).2, if_pos ⟨hi, hc⟩]
theorem wcK_no {xs : List Int} {C col i k : Nat} (hk : k < C) (h : i = 0 ∨ k = col) : wcK xs C col (i * C + (k + 1)) = wcK xs C col (i * C + k) := by
  rw [← Nat.add_assoc]
  conv => lhs; unfold wcK
  rw [(idx_div hk).1, (idx_div hk).2, if_neg]
  rintro ⟨h1, h2⟩
  rcases h with h | h
  · exact h1 h
  · exact h2 h
theorem wcK_next {xs : List Int} {C col i : Nat} : wcK xs C col (i * C + C) = wcK xs C col ((i + 1) * C + 0) := by rw [Nat.add_mul, Nat.one_mul, Nat.add_zero]
theorem wcK_row {xs : List Int} {C col i : Nat} : ∀ k, k ≤ C → (wcK xs C col (i * C + k)).length = (wcK xs C col (i * C)).length + (if i = 0 then 0 else k - (if col < k then 1 else 0))
  | 0, _ => by simp
  | k + 1, hk => by
    have ih := wcK_row (xs := xs) (C := C) (col := col) (i := i) k (by omega)
    by_cases hi : i = 0
    · rw [wcK_no (by omega) (.inl hi), ih, if_pos hi, if_pos hi]
    · by_cases hc : k = col
      · rw [wcK_no (by omega) (.inr hc), ih, if_neg hi, if_neg hi, if_neg (by omega), if_pos (by omega)]
        omega
      · rw [wcK_yes (by omega) hi hc, List.length_append, ih, if_neg hi, if_neg hi]
        by_cases h2 : col < k
        · rw [if_pos h2, if_pos (by omega)]; simp; omega
        · rw [if_neg h2, if_neg (by omega)]; simp; omega
theorem wcK_len {xs : List Int} {C col : Nat} (hc : col < C) : ∀ i, (wcK xs C col (i * C)).length = (i - 1) * (C - 1)
  | 0 => by simp [wcK]
  | i + 1 => by
    rw [Nat.add_mul, Nat.one_mul, wcK_row C (Nat.le_refl _), wcK_len hc i, if_pos hc]
    by_cases hi : i = 0
    · subst hi; simp
    · rw [if_neg hi]
      obtain ⟨m, rfl⟩ : ∃ m, i = m + 1 := ⟨i - 1, by omega⟩
      show (m + 1 - 1) * (C - 1) + (C - 1) = (m + 1 + 1 - 1) * (C - 1)
      rw [Nat.add_sub_cancel, Nat.add_sub_cancel, Nat.add_mul, Nat.one_mul]
theorem wcK_num {xs : List Int} {C col : Nat} (h : xs.all isNum = true) : ∀ Q, (wcK xs C col Q).all isNum = true
  | 0 => rfl
  | Q + 1 => by
    unfold wcK
    split
    · rw [List.all_append, wcK_num h Q, Bool.true_and]
      show (isNum (xs.getD Q 0) && true) = true
      rw [(getD_num h Q).isN]; rfl
    · exact wcK_num h Q
/-- The sum over the first columns; the determinant. -/
def detS (D : List Int → Option Int) (C : Nat) (xs : List Int) : Nat → Option Int
  | 0 => some 0
  | j + 1 => (detS D C xs j).bind fun s => if xs.getD j 0 = 0 then some s else (D (wcK xs C j (C * C))).bind fun d => some (s + (if j % 2 = 1 then -(xs.getD j 0) else xs.getD j 0) * d)
def detL : Nat → List Int → Option Int
  | 0, _ => some 1
  | n + 1, xs => (detS (detL n) (n + 1) xs (n + 1)).bind fun s => if isNum s then some s else none
theorem detL_num : ∀ (n : Nat) (xs : List Int) (d : Int), detL n xs = some d → Num d
  | 0, xs, d, h => by cases h; exact Num.one
  | n + 1, xs, d, h => by
    unfold detL at h
    cases hs : detS (detL n) (n + 1) xs (n + 1) with
    | none => rw [hs] at h; cases h
    | some s =>
      rw [hs] at h
      simp only [Option.bind_some] at h
      split at h
      · rename_i hn; cases h; exact Num.of hn
      · cases h
set_option maxRecDepth 100000 in
set_option maxHeartbeats 8000000 in
theorem impl_withoutCross (C j : Nat) (A : Option Addr) (n cap : Nat) (xs : List Int) (w : World) {B : Nat} (h : RI w B A n xs) (hB : B ≤ w.heap.size) (hl : xs.length = C * C) (hjC : j < C) (hC : C ≤ 24) :
    Calls Tryz.prog 85 #[.agg #[.int .i64 C, .int .i64 C, .slice A n cap], .int .i64 0, .int .i64 j] w (MR ⟨(C : Int) - 1, (C : Int) - 1, wcK xs C j (C * C)⟩ w) := by
  have hln := h.len
  have H2 := Lib.hid (h.more hB)
  clear h
  have hln2 : C * C ≤ n ∧ n ≤ C * C := by omega
  have hCC : C * C ≤ 24 * 24 := Nat.mul_le_mul hC hC
  have hC0 : 0 < C := by omega
  clear hl hln
  go_enter Tryz.func85, Tryz.ntmps85
  go_wp2_with fail
  go_loopw [8] (fun v wr => ∃ (i : Nat) (A' : Option Addr) (m c : Nat), v = .int .i64 i ∧ i ≤ C ∧ BM wr w.heap.size C C A n cap ∧ BM wr (w.heap.size + 1) 0 0 none 0 0 ∧ BM wr (w.heap.size + 1 + 1 + 1) ((C : Int) - 1) ((C : Int) - 1) A' m c ∧ OR wr (w.heap.size + 1 + 1) (.slice A' m c) (wcK xs C j (i * C + 0)) ∧ (∀ g, (Value.slice A' m c).ownBlock = some g → g ≠ w.heap.size + 1 + 1 + 1) ∧ Below w.heap.size w wr) (fun v _ => C - (intOf v).toNat)
  case atStart =>
    refine ⟨0, _, _, _, rfl, Nat.zero_le _, Ka, Ka, Ka, ?_, ?_, Kw⟩
    · rw [Nat.zero_mul, Nat.add_zero]
      exact OR.alloc (OR.empty' _ (w.heap.size + 1 + 1) (by simp) (by simp)) _
    · intro g hg
      simp [Value.ownBlock] at hg
      try omega
  case round =>
    obtain ⟨i, A', m, c, rfl, hi, hM, hR, hO, ho, hne, hbw⟩ := hrel
    have HN := Lib.hid hne
    clear hne
    obtain ⟨ma, mb, mc, mf, ml⟩ := hM.mx; obtain ⟨ra, rb, rc, rf, rl⟩ := hR.mx; obtain ⟨oa, ob, oc, of, ol⟩ := hO.mx
    by_cases hiC : i < C
    · have hiC2 : i * C + C ≤ C * C := by have h3 := Nat.mul_le_mul_right C (show i + 1 ≤ C by omega); rw [Nat.add_mul, Nat.one_mul] at h3; exact h3
      go_wp2_with fail
      obtain ⟨wo2, rfl⟩ : ∃ wo : World, wo = wr := ⟨_, rfl⟩
      go_loopg [9] (C + 1) (fun gn v wr => ∃ (k : Nat) (A' : Option Addr) (m c : Nat), v = .int .i64 k ∧ k ≤ C ∧ C - k < gn ∧ BM wr w.heap.size C C A n cap ∧ BM wr (w.heap.size + 1) 0 0 none 0 0 ∧ BM wr (w.heap.size + 1 + 1 + 1) ((C : Int) - 1) ((C : Int) - 1) A' m c ∧ OR wr (w.heap.size + 1 + 1) (.slice A' m c) (wcK xs C j (i * C + k)) ∧ (∀ g, (Value.slice A' m c).ownBlock = some g → g ≠ w.heap.size + 1 + 1 + 1) ∧ Below w.heap.size w wr)
      case atStart => exact ⟨0, A', m, c, rfl, Nat.zero_le _, by omega, hM, hR, hO, ho, HN.out, hbw⟩
      case round =>
        clear ma mb mc mf ml ra rb rc rf rl oa ob oc of ol
        clear hM hR hO ho HN hbw
        obtain ⟨k, A', m, c, rfl, hk, hgk, hM, hR, hO, ho, hne, hbw⟩ := hrel
        have HN := Lib.hid hne
        clear hne
        obtain ⟨ma, mb, mc, mf, ml⟩ := hM.mx; obtain ⟨ra, rb, rc, rf, rl⟩ := hR.mx; obtain ⟨oa, ob, oc, of, ol⟩ := hO.mx
        have hszr := hbw.size
        by_cases hkC : k < C
        · by_cases h0 : i = 0
          · have HS := Lib.hid (wcK_no (xs := xs) (C := C) (col := j) (i := i) hkC (.inl h0))
            have hb0 : ((i : Int) != 0) = false := by simp [h0]
            clear h0
            go_wp2_with fail
            go_roundg (gk - 1)
            case measure => omega
            case rel => exact ⟨k + 1, A', m, c, by go_num, by omega, by omega, Kb hM, Kb hR, Kb hO, by rw [HS.out]; exact ho, HN.out, Kw⟩
          · have hb0 : ((i : Int) != 0) = true := by simp; omega
            by_cases hkj : k = j
            · have HS := Lib.hid (wcK_no (xs := xs) (C := C) (col := j) (i := i) hkC (.inr hkj))
              have hb1 : ((k : Int) != (j : Int)) = false := by simp [hkj]
              clear h0 hkj
              go_wp2_with fail
              go_roundg (gk - 1)
              case measure => omega
              case rel => exact ⟨k + 1, A', m, c, by go_num, by omega, by omega, Kb hM, Kb hR, Kb hO, by rw [HS.out]; exact ho, HN.out, Kw⟩
            · have HS := Lib.hid (wcK_yes (xs := xs) (C := C) (col := j) (i := i) hkC h0 hkj)
              have hb1 : ((k : Int) != (j : Int)) = true := by simp; omega
              have hlen2 : (wcK xs C j (i * C + k)).length ≤ 100000 := by
                rw [wcK_row k hk, wcK_len hjC]
                have h5 := Nat.mul_le_mul (show i - 1 ≤ 24 by omega) (show C - 1 ≤ 24 by omega)
                split <;> omega
              have hix : i * C + k < C * C := by omega
              clear h0 hkj
              generalize wcK xs C j (i * C + k) = zs at *
              have HC : Hid (∀ w', RI w' w.heap.size A n xs → w.heap.size ≤ w'.heap.size → Calls Tryz.prog 33 #[.agg #[.int .i64 C, .int .i64 C, .slice A n cap], .int .i64 i, .int .i64 k] w' (BV (.int .i64 (xs.getD (i * C + k) 0)) w')) := Lib.hid (fun w' k1 k2 => by
                have i1 : (i : Int) * (C : Int) = ((i * C : Nat) : Int) := by rw [Int.natCast_mul]
                have := impl_at C C i k A n cap xs w' k1 k2 (by omega) (by omega) (by omega)
                rw [cel_nat] at this
                exact this)
              have hlo := hO.lt
              have hq1 : ¬ w.heap.size = w.heap.size + 1 + 1 + 1 := by omega
              have hq2 : ¬ w.heap.size + 1 + 1 + 1 = w.heap.size := by omega
              generalize xs.getD (i * C + k) 0 = z at *
              go_wp2_with fail
              ((refine wp_region_held_drew (S := (fun w' => w'.cell? ⟨w.heap.size, 0, none⟩ = some (.int .i64 C) ∧ w'.cell? ⟨w.heap.size, 1, none⟩ = some (.int .i64 C) ∧ w'.cell? ⟨w.heap.size, 2, none⟩ = some (.slice A n cap))) (by kernel_rfl) ?_ (fun hHeld => ?_)); ((focus ((try dsimp only); ((first | (go_keep; done) | (with_reducible exact ⟨ma, mb, mc⟩) | (simp [go_sem, ma, mb, mc, hq1, hq2]; done)))))); ((refine tk_ (i := 0) (v := ?_) (y := Or.inl ⟨by rfl, ?_⟩) (h := ?_); rotate_left; (focus (((intro w hSw; (try dsimp only at hSw); go_simp) <;> (try with_reducible rfl)); done)); (try simp only [Act.put, p1_, p2_, p3_]))); ((refine tk_ (i := 2) (v := ?_) (y := Or.inl ⟨by rfl, ?_⟩) (h := ?_); rotate_left; (focus (((intro w hSw; (try dsimp only at hSw); go_simp) <;> (try with_reducible rfl)); done)); (try simp only [Act.put, p1_, p2_, p3_]))); ((refine tk_ (i := 3) (v := ?_) (y := Or.inl ⟨by rfl, ?_⟩) (h := ?_); rotate_left; (focus (((intro w hSw; (try dsimp only at hSw); go_simp) <;> (try with_reducible rfl)); done)); (try simp only [Act.put, p1_, p2_, p3_]))); ((refine tk_ (i := 4) (v := ?_) (y := Or.inl ⟨by rfl, ?_⟩) (h := ?_); rotate_left; (focus (((intro w hSw; (try dsimp only at hSw); go_simp) <;> (try with_reducible rfl)); done)); (try simp only [Act.put, p1_, p2_, p3_]))); (refine wpAnyH_ready (rs := [1, 5]) (by kernel_rfl) (by simp) ?_); (refine AllReadyH.cons (by simp only [e1_, e2_, e3_]; try rfl) ?_ ?_); ((focus ((intro K hK); (go_simp); ((try go_wp2_with fail)); (refine hK.out _ _ ?_ (fun hHeld => ?_)); ((focus ((try dsimp only); ((first | (go_keep; done) | (with_reducible exact ⟨ma, mb, mc⟩) | (simp [go_sem, ma, mb, mc, hq1, hq2]; done)))))); (clear hK K); ((try simp only [Act.put, p1_, p2_, p3_])); (refine wpAnyH_ready (rs := [5]) (by kernel_rfl) (by simp) ?_); (refine AllReadyH.cons (by simp only [e1_, e2_, e3_]; try rfl) ?_ ?_); ((focus ((intro K hK); (go_simp); ((go_at_call 33; refine (HC.out _ (Kr H2.out) Ks).mono ?_; rintro e w4 ⟨rfl, hb4⟩; have hs4 := hb4.size; (try simp at hs4); have hM_1 : BM w4 w.heap.size C C A n cap := (Kb hM); have hR_1 : BM w4 (w.heap.size + 1) 0 0 none 0 0 := (Kb hR); have hO_1 : BM w4 (w.heap.size + 1 + 1 + 1) ((C : Int) - 1) ((C : Int) - 1) A' m c := (Kb hO); have ho_1 : OR w4 (w.heap.size + 1 + 1) (.slice A' m c) zs := (Ko ho); have hbw_1 : Below w.heap.size w w4 := Kw; clear ma mb mc mf ml ra rb rc rf rl oa ob oc of ol; clear hM hR hO ho hbw hb4; (have hM := hM_1); (have hR := hR_1); (have hO := hO_1); (have ho := ho_1); (have hbw := hbw_1); clear hM_1 hR_1 hO_1 ho_1 hbw_1; obtain ⟨ma, mb, mc, mf, ml⟩ := hM.mx; obtain ⟨ra, rb, rc, rf, rl⟩ := hR.mx; obtain ⟨oa, ob, oc, of, ol⟩ := hO.mx; have hlo := hO.lt)); ((try go_wp2_with fail)); (refine hK.out _ _ ?_ (fun hHeld => ?_)); ((focus ((try dsimp only); ((first | (go_keep; done) | (with_reducible exact ⟨ma, mb, mc⟩) | (simp [go_sem, ma, mb, mc, hq1, hq2]; done)))))); (clear hK K); ((try simp only [Act.put, p1_, p2_, p3_])); (refine wpAnyH_ready (rs := [6]) (by kernel_rfl) (by simp) ?_); (refine AllReadyH.cons (by simp only [e1_, e2_, e3_]; try rfl) ?_ ?_); ((focus ((intro K hK); (go_simp); ((try go_wp2_with fail)); (refine hK.out _ _ ?_ (fun hHeld => ?_)); ((focus ((try dsimp only); ((first | (go_keep; done) | (with_reducible exact ⟨ma, mb, mc⟩) | (simp [go_sem, ma, mb, mc, hq1, hq2]; done)))))); (clear hK K); ((try simp only [Act.put, p1_, p2_, p3_])); (refine wpAnyH_ready (rs := [7]) (by kernel_rfl) (by simp) ?_); (refine AllReadyH.cons (by simp only [e1_, e2_, e3_]; try rfl) ?_ ?_); ((focus ((intro K hK); ((refine step_append_one _ rfl (.tmp 39) (.tmp 44) rfl (w.heap.size + 1 + 1) (.slice A' m c) zs rfl (Ko ho) _ z rfl (by simp [go_sem]) (by omega) Ks ?_; intro v1 w5 hown1 hgr hat; go_loud (obtain ⟨A2, m2, c2, rfl⟩ := hown1.sliceFormD); have hs5 := hgr.size; (try simp at hs5); have hM5 : BM w5 w.heap.size C C A n cap := (by refine BX.grown (w := _) ?_ hgr (ho.ne_low (by omega)); (with_reducible (repeat (first | exact hM | refine BX.n_ | refine BX.b_ ?_ | apply BX.drew | apply BX.drewN | refine BX.put ?_ | refine BX.put2 ?_ | refine BX.f_ ?_ | apply BX.alloc | refine B3.n_ | exact B3.of hM | refine B3.b_ ?_ | apply B3.drew | apply B3.drewN | refine B3.f_ ?_ | apply B3.alloc)))); have hR5 : BM w5 (w.heap.size + 1) 0 0 none 0 0 := (by refine BX.grown (w := _) ?_ hgr (ho.ne_low (by omega)); (with_reducible (repeat (first | exact hR | refine BX.n_ | refine BX.b_ ?_ | apply BX.drew | apply BX.drewN | refine BX.put ?_ | refine BX.put2 ?_ | refine BX.f_ ?_ | apply BX.alloc | refine B3.n_ | exact B3.of hR | refine B3.b_ ?_ | apply B3.drew | apply B3.drewN | refine B3.f_ ?_ | apply B3.alloc)))); have hO5 : BM w5 ((w.heap.size + 1 + 1 + 1)) ((C : Int) - 1) ((C : Int) - 1) A' m c := (by refine BX.grown (w := _) ?_ hgr (fun e => HN.out _ e.symm rfl); (with_reducible (repeat (first | exact hO | refine BX.n_ | refine BX.b_ ?_ | apply BX.drew | apply BX.drewN | refine BX.put ?_ | refine BX.put2 ?_ | refine BX.f_ ?_ | apply BX.alloc | refine B3.n_ | exact B3.of hO | refine B3.b_ ?_ | apply B3.drew | apply B3.drewN | refine B3.f_ ?_ | apply B3.alloc)))); have hN5 : Hid (∀ g, (Value.slice A2 m2 c2).ownBlock = some g → g ≠ (w.heap.size + 1 + 1 + 1)) := Lib.hid (by intro g' hg'; rcases hat with e | e; (exact HN.out g' (e ▸ hg')); (rw [e] at hg'; injection hg' with hg'; (try simp at hg'); omega)); have hbw5 : Below w.heap.size w w5 := Below.trans Kw (only_below (B := w.heap.size) hgr Ks (fun g' e => by have := (ho.own g' e).1; omega)); clear ma mb mc mf ml ra rb rc rf rl oa ob oc of ol; clear hM hR hO hbw hgr hat HN; (have hM := hM5); (have hR := hR5); (have hO := hO5); (have hbw := hbw5); (have HN := hN5); clear hM5 hR5 hO5 hbw5 hN5; obtain ⟨ma, mb, mc, mf, ml⟩ := hM.mx; obtain ⟨ra, rb, rc, rf, rl⟩ := hR.mx; obtain ⟨oa, ob, oc, of, ol⟩ := hO.mx; have ho := hown1; clear hown1)); (refine hK.out _ _ ?_ (fun hHeld => ?_)); ((focus ((try dsimp only); ((first | (go_keep; done) | (with_reducible exact ⟨ma, mb, mc⟩) | (simp [go_sem, ma, mb, mc, hq1, hq2]; done)))))); (clear hK K); ((try simp only [Act.put, p1_, p2_, p3_])); ((refine tk_ (i := 8) (v := ?_) (y := Or.inl ⟨by rfl, ?_⟩) (h := ?_); rotate_left; (focus (((intro w hSw; (try dsimp only at hSw); go_simp) <;> (try with_reducible rfl)); done)); (try simp only [Act.put, p1_, p2_, p3_]))); (refine wpAnyH_ready (rs := [9]) (by kernel_rfl) (by simp) ?_); (refine AllReadyH.cons (by simp only [e1_, e2_, e3_]; try rfl) ?_ ?_); ((focus ((intro K hK); (go_simp); ((try go_wp2_with fail)); (refine hK.out _ _ ?_ (fun hHeld => ?_)); ((focus ((try dsimp only); ((first | (go_keep; done) | (with_reducible exact ⟨ma, mb, mc⟩) | (simp [go_sem, ma, mb, mc, hq1, hq2]; done)))))); (clear hK K); ((try simp only [Act.put, p1_, p2_, p3_])); (refine wpAnyH_done (by kernel_rfl) ?_ _)))); (rotate_left 1); (exact AllReadyH.nil)))); (rotate_left 1); (exact AllReadyH.nil)))); (rotate_left 1); (exact AllReadyH.nil)))); (rotate_left 1); (exact AllReadyH.nil)))); (rotate_left 1); (refine AllReadyH.cons (by simp only [e1_, e2_, e3_]; try rfl) ?_ ?_); ((focus ((intro K hK); (go_simp); ((go_at_call 33; refine (HC.out _ (Kr H2.out) Ks).mono ?_; rintro e w4 ⟨rfl, hb4⟩; have hs4 := hb4.size; (try simp at hs4); have hM_1 : BM w4 w.heap.size C C A n cap := (Kb hM); have hR_1 : BM w4 (w.heap.size + 1) 0 0 none 0 0 := (Kb hR); have hO_1 : BM w4 (w.heap.size + 1 + 1 + 1) ((C : Int) - 1) ((C : Int) - 1) A' m c := (Kb hO); have ho_1 : OR w4 (w.heap.size + 1 + 1) (.slice A' m c) zs := (Ko ho); have hbw_1 : Below w.heap.size w w4 := Kw; clear ma mb mc mf ml ra rb rc rf rl oa ob oc of ol; clear hM hR hO ho hbw hb4; (have hM := hM_1); (have hR := hR_1); (have hO := hO_1); (have ho := ho_1); (have hbw := hbw_1); clear hM_1 hR_1 hO_1 ho_1 hbw_1; obtain ⟨ma, mb, mc, mf, ml⟩ := hM.mx; obtain ⟨ra, rb, rc, rf, rl⟩ := hR.mx; obtain ⟨oa, ob, oc, of, ol⟩ := hO.mx; have hlo := hO.lt)); ((try go_wp2_with fail)); (refine hK.out _ _ ?_ (fun hHeld => ?_)); ((focus ((try dsimp only); ((first | (go_keep; done) | (with_reducible exact ⟨ma, mb, mc⟩) | (simp [go_sem, ma, mb, mc, hq1, hq2]; done)))))); (clear hK K); ((try simp only [Act.put, p1_, p2_, p3_])); (refine wpAnyH_ready (rs := [1, 6]) (by kernel_rfl) (by simp) ?_); (refine AllReadyH.cons (by simp only [e1_, e2_, e3_]; try rfl) ?_ ?_); ((focus ((intro K hK); (go_simp); ((try go_wp2_with fail)); (refine hK.out _ _ ?_ (fun hHeld => ?_)); ((focus ((try dsimp only); ((first | (go_keep; done) | (with_reducible exact ⟨ma, mb, mc⟩) | (simp [go_sem, ma, mb, mc, hq1, hq2]; done)))))); (clear hK K); ((try simp only [Act.put, p1_, p2_, p3_])); (refine wpAnyH_ready (rs := [6]) (by kernel_rfl) (by simp) ?_); (refine AllReadyH.cons (by simp only [e1_, e2_, e3_]; try rfl) ?_ ?_); ((focus ((intro K hK); (go_simp); ((try go_wp2_with fail)); (refine hK.out _ _ ?_ (fun hHeld => ?_)); ((focus ((try dsimp only); ((first | (go_keep; done) | (with_reducible exact ⟨ma, mb, mc⟩) | (simp [go_sem, ma, mb, mc, hq1, hq2]; done)))))); (clear hK K); ((try simp only [Act.put, p1_, p2_, p3_])); (refine wpAnyH_ready (rs := [7]) (by kernel_rfl) (by simp) ?_); (refine AllReadyH.cons (by simp only [e1_, e2_, e3_]; try rfl) ?_ ?_); ((focus ((intro K hK); ((refine step_append_one _ rfl (.tmp 39) (.tmp 44) rfl (w.heap.size + 1 + 1) (.slice A' m c) zs rfl (Ko ho) _ z rfl (by simp [go_sem]) (by omega) Ks ?_; intro v1 w5 hown1 hgr hat; go_loud (obtain ⟨A2, m2, c2, rfl⟩ := hown1.sliceFormD); have hs5 := hgr.size; (try simp at hs5); have hM5 : BM w5 w.heap.size C C A n cap := (by refine BX.grown (w := _) ?_ hgr (ho.ne_low (by omega)); (with_reducible (repeat (first | exact hM | refine BX.n_ | refine BX.b_ ?_ | apply BX.drew | apply BX.drewN | refine BX.put ?_ | refine BX.put2 ?_ | refine BX.f_ ?_ | apply BX.alloc | refine B3.n_ | exact B3.of hM | refine B3.b_ ?_ | apply B3.drew | apply B3.drewN | refine B3.f_ ?_ | apply B3.alloc)))); have hR5 : BM w5 (w.heap.size + 1) 0 0 none 0 0 := (by refine BX.grown (w := _) ?_ hgr (ho.ne_low (by omega)); (with_reducible (repeat (first | exact hR | refine BX.n_ | refine BX.b_ ?_ | apply BX.drew | apply BX.drewN | refine BX.put ?_ | refine BX.put2 ?_ | refine BX.f_ ?_ | apply BX.alloc | refine B3.n_ | exact B3.of hR | refine B3.b_ ?_ | apply B3.drew | apply B3.drewN | refine B3.f_ ?_ | apply B3.alloc)))); have hO5 : BM w5 ((w.heap.size + 1 + 1 + 1)) ((C : Int) - 1) ((C : Int) - 1) A' m c := (by refine BX.grown (w := _) ?_ hgr (fun e => HN.out _ e.symm rfl); (with_reducible (repeat (first | exact hO | refine BX.n_ | refine BX.b_ ?_ | apply BX.drew | apply BX.drewN | refine BX.put ?_ | refine BX.put2 ?_ | refine BX.f_ ?_ | apply BX.alloc | refine B3.n_ | exact B3.of hO | refine B3.b_ ?_ | apply B3.drew | apply B3.drewN | refine B3.f_ ?_ | apply B3.alloc)))); have hN5 : Hid (∀ g, (Value.slice A2 m2 c2).ownBlock = some g → g ≠ (w.heap.size + 1 + 1 + 1)) := Lib.hid (by intro g' hg'; rcases hat with e | e; (exact HN.out g' (e ▸ hg')); (rw [e] at hg'; injection hg' with hg'; (try simp at hg'); omega)); have hbw5 : Below w.heap.size w w5 := Below.trans Kw (only_below (B := w.heap.size) hgr Ks (fun g' e => by have := (ho.own g' e).1; omega)); clear ma mb mc mf ml ra rb rc rf rl oa ob oc of ol; clear hM hR hO hbw hgr hat HN; (have hM := hM5); (have hR := hR5); (have hO := hO5); (have hbw := hbw5); (have HN := hN5); clear hM5 hR5 hO5 hbw5 hN5; obtain ⟨ma, mb, mc, mf, ml⟩ := hM.mx; obtain ⟨ra, rb, rc, rf, rl⟩ := hR.mx; obtain ⟨oa, ob, oc, of, ol⟩ := hO.mx; have ho := hown1; clear hown1)); (refine hK.out _ _ ?_ (fun hHeld => ?_)); ((focus ((try dsimp only); ((first | (go_keep; done) | (with_reducible exact ⟨ma, mb, mc⟩) | (simp [go_sem, ma, mb, mc, hq1, hq2]; done)))))); (clear hK K); ((try simp only [Act.put, p1_, p2_, p3_])); ((refine tk_ (i := 8) (v := ?_) (y := Or.inl ⟨by rfl, ?_⟩) (h := ?_); rotate_left; (focus (((intro w hSw; (try dsimp only at hSw); go_simp) <;> (try with_reducible rfl)); done)); (try simp only [Act.put, p1_, p2_, p3_]))); (refine wpAnyH_ready (rs := [9]) (by kernel_rfl) (by simp) ?_); (refine AllReadyH.cons (by simp only [e1_, e2_, e3_]; try rfl) ?_ ?_); ((focus ((intro K hK); (go_simp); ((try go_wp2_with fail)); (refine hK.out _ _ ?_ (fun hHeld => ?_)); ((focus ((try dsimp only); ((first | (go_keep; done) | (with_reducible exact ⟨ma, mb, mc⟩) | (simp [go_sem, ma, mb, mc, hq1, hq2]; done)))))); (clear hK K); ((try simp only [Act.put, p1_, p2_, p3_])); (refine wpAnyH_done (by kernel_rfl) ?_ _)))); (rotate_left 1); (exact AllReadyH.nil)))); (rotate_left 1); (exact AllReadyH.nil)))); (rotate_left 1); (exact AllReadyH.nil)))); (rotate_left 1); (refine AllReadyH.cons (by simp only [e1_, e2_, e3_]; try rfl) ?_ ?_); ((focus ((intro K hK); (go_simp); ((try go_wp2_with fail)); (refine hK.out _ _ ?_ (fun hHeld => ?_)); ((focus ((try dsimp only); ((first | (go_keep; done) | (with_reducible exact ⟨ma, mb, mc⟩) | (simp [go_sem, ma, mb, mc, hq1, hq2]; done)))))); (clear hK K); ((try simp only [Act.put, p1_, p2_, p3_])); (refine wpAnyH_ready (rs := [1]) (by kernel_rfl) (by simp) ?_); (refine AllReadyH.cons (by simp only [e1_, e2_, e3_]; try rfl) ?_ ?_); ((focus ((intro K hK); (go_simp); ((try go_wp2_with fail)); (refine hK.out _ _ ?_ (fun hHeld => ?_)); ((focus ((try dsimp only); ((first | (go_keep; done) | (with_reducible exact ⟨ma, mb, mc⟩) | (simp [go_sem, ma, mb, mc, hq1, hq2]; done)))))); (clear hK K); ((try simp only [Act.put, p1_, p2_, p3_])); (refine wpAnyH_ready (rs := [7]) (by kernel_rfl) (by simp) ?_); (refine AllReadyH.cons (by simp only [e1_, e2_, e3_]; try rfl) ?_ ?_); ((focus ((intro K hK); ((refine step_append_one _ rfl (.tmp 39) (.tmp 44) rfl (w.heap.size + 1 + 1) (.slice A' m c) zs rfl (Ko ho) _ z rfl (by simp [go_sem]) (by omega) Ks ?_; intro v1 w5 hown1 hgr hat; go_loud (obtain ⟨A2, m2, c2, rfl⟩ := hown1.sliceFormD); have hs5 := hgr.size; (try simp at hs5); have hM5 : BM w5 w.heap.size C C A n cap := (by refine BX.grown (w := _) ?_ hgr (ho.ne_low (by omega)); (with_reducible (repeat (first | exact hM | refine BX.n_ | refine BX.b_ ?_ | apply BX.drew | apply BX.drewN | refine BX.put ?_ | refine BX.put2 ?_ | refine BX.f_ ?_ | apply BX.alloc | refine B3.n_ | exact B3.of hM | refine B3.b_ ?_ | apply B3.drew | apply B3.drewN | refine B3.f_ ?_ | apply B3.alloc)))); have hR5 : BM w5 (w.heap.size + 1) 0 0 none 0 0 := (by refine BX.grown (w := _) ?_ hgr (ho.ne_low (by omega)); (with_reducible (repeat (first | exact hR | refine BX.n_ | refine BX.b_ ?_ | apply BX.drew | apply BX.drewN | refine BX.put ?_ | refine BX.put2 ?_ | refine BX.f_ ?_ | apply BX.alloc | refine B3.n_ | exact B3.of hR | refine B3.b_ ?_ | apply B3.drew | apply B3.drewN | refine B3.f_ ?_ | apply B3.alloc)))); have hO5 : BM w5 ((w.heap.size + 1 + 1 + 1)) ((C : Int) - 1) ((C : Int) - 1) A' m c := (by refine BX.grown (w := _) ?_ hgr (fun e => HN.out _ e.symm rfl); (with_reducible (repeat (first | exact hO | refine BX.n_ | refine BX.b_ ?_ | apply BX.drew | apply BX.drewN | refine BX.put ?_ | refine BX.put2 ?_ | refine BX.f_ ?_ | apply BX.alloc | refine B3.n_ | exact B3.of hO | refine B3.b_ ?_ | apply B3.drew | apply B3.drewN | refine B3.f_ ?_ | apply B3.alloc)))); have hN5 : Hid (∀ g, (Value.slice A2 m2 c2).ownBlock = some g → g ≠ (w.heap.size + 1 + 1 + 1)) := Lib.hid (by intro g' hg'; rcases hat with e | e; (exact HN.out g' (e ▸ hg')); (rw [e] at hg'; injection hg' with hg'; (try simp at hg'); omega)); have hbw5 : Below w.heap.size w w5 := Below.trans Kw (only_below (B := w.heap.size) hgr Ks (fun g' e => by have := (ho.own g' e).1; omega)); clear ma mb mc mf ml ra rb rc rf rl oa ob oc of ol; clear hM hR hO hbw hgr hat HN; (have hM := hM5); (have hR := hR5); (have hO := hO5); (have hbw := hbw5); (have HN := hN5); clear hM5 hR5 hO5 hbw5 hN5; obtain ⟨ma, mb, mc, mf, ml⟩ := hM.mx; obtain ⟨ra, rb, rc, rf, rl⟩ := hR.mx; obtain ⟨oa, ob, oc, of, ol⟩ := hO.mx; have ho := hown1; clear hown1)); (refine hK.out _ _ ?_ (fun hHeld => ?_)); ((focus ((try dsimp only); ((first | (go_keep; done) | (with_reducible exact ⟨ma, mb, mc⟩) | (simp [go_sem, ma, mb, mc, hq1, hq2]; done)))))); (clear hK K); ((try simp only [Act.put, p1_, p2_, p3_])); ((refine tk_ (i := 8) (v := ?_) (y := Or.inl ⟨by rfl, ?_⟩) (h := ?_); rotate_left; (focus (((intro w hSw; (try dsimp only at hSw); go_simp) <;> (try with_reducible rfl)); done)); (try simp only [Act.put, p1_, p2_, p3_]))); (refine wpAnyH_ready (rs := [9]) (by kernel_rfl) (by simp) ?_); (refine AllReadyH.cons (by simp only [e1_, e2_, e3_]; try rfl) ?_ ?_); ((focus ((intro K hK); (go_simp); ((try go_wp2_with fail)); (refine hK.out _ _ ?_ (fun hHeld => ?_)); ((focus ((try dsimp only); ((first | (go_keep; done) | (with_reducible exact ⟨ma, mb, mc⟩) | (simp [go_sem, ma, mb, mc, hq1, hq2]; done)))))); (clear hK K); ((try simp only [Act.put, p1_, p2_, p3_])); (refine wpAnyH_done (by kernel_rfl) ?_ _)))); (rotate_left 1); (exact AllReadyH.nil)))); (rotate_left 1); (exact AllReadyH.nil)))); (rotate_left 1); (exact AllReadyH.nil)))); (rotate_left 1); (exact AllReadyH.nil)))); (rotate_left 2); (exact AllReadyH.nil))
              all_goals go_wp2_with fail
              all_goals go_roundg (gk - 1)
              all_goals first
                | (show gk - 1 < gk; omega)
                | exact ⟨k + 1, A2, m2, c2, by go_num, by omega, by omega, Kb hM, Kb hR, hO.put2, by rw [HS.out]; exact OR.far ho (fun e => HN.out _ e rfl) _, HN.out, Kw⟩
        · obtain rfl : k = C := by omega
          have ho2 := ho.as wcK_next
          clear ho
          go_wp2_with fail
          go_roundw
          case rel => exact ⟨i + 1, A', m, c, by go_num, by omega, Kb hM, Kb hR, Kb hO, ho2, HN.out, Kw⟩
          case measure => simp only [intOf]; omega
    · obtain rfl : i = C := by omega
      rw [Nat.add_zero] at ho
      go_wp2_with fail
      refine ret_M (r := (i : Int) - 1) (c := (i : Int) - 1) (A := A') (n := m) (cap := c) Tryz.results85 rfl (BX.put (B3.of hR)) rfl ?_
      exact MR.mk rfl (OR.mono (B := w.heap.size + 1 + 1) (OR.low (OR.low (OR.low ho (by simp) _) (by simp) _) (by simp) _) (by omega)) Kw
end Go.Proofs.YtlggfmfelakadaaGreatDoor

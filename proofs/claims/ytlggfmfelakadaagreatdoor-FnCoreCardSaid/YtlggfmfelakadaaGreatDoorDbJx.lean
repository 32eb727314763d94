/-
  DERIVED. DeterminantByImages of the program.
-/
import Derived.Test.YtlggfmfelakadaaGreatDoorc8
import Derived.Test.YtlggfmfelakadaaGreatDoorc3
import Derived.Test.YtlggfmfelakadaaGreatDoorc2
import Derived.Test.YtlggfmfelakadaaGreatDoorRatx
import Derived.Test.YtlggfmfelakadaaGreatDoorChinx
namespace Go.Proofs.YtlggfmfelakadaaGreatDoor
open Go.RowKit
set_option linter.unusedVariables false
set_option linter.unusedSimpArgs false
theorem OR.shapeK {w : World} {B : Nat} {v : Value} {xs : List Int} (h : OR w B v xs) : ∃ A m c, v = .slice A m c := by
  rcases h.form with ⟨h1, _⟩ | ⟨g, cap, h1, _⟩ <;> exact ⟨_, _, _, h1⟩
theorem bndI_bd : ∀ (l : List Int) (p b : Int), (-400000000 ≤ p ∧ p ≤ 400000000) → bndI p l = some b → -400000000 ≤ b ∧ b ≤ 400000000
  | [], p, b, hp, h => by
    have : p = b := by simpa [bndI] using h
    omega
  | x :: l, p, b, hp, h => by
    unfold bndI at h
    split at h
    · rename_i hc
      first
        | exact bndI_bd l _ b (by simp only [Bool.and_eq_true, isNum_iff] at hc; omega) h
        | cases h
    · first
        | cases h
        | (rename_i hc; exact bndI_bd l _ b (by simp only [Bool.and_eq_true, isNum_iff] at hc; omega) h)
theorem bndRes_bd {r c : Int} {xs : List Int} {b : Int} (h : bndRes r c xs = some b) : -400000000 ≤ b ∧ b ≤ 400000000 := by
  unfold bndRes at h
  split at h
  · exact bndI_bd _ _ _ (by omega) h
  · cases h
theorem dbV_none {r c : Int} {xs : List Int} (h : bndRes r c xs = none) : dbV r c xs = none := by unfold dbV dbN; rw [h]; rfl
theorem dbV_bad {r c : Int} {xs : List Int} {b : Int} (h : bndRes r c xs = some b) (h2 : dbG b 13 0 = none) : dbV r c xs = none := by unfold dbV dbN; rw [h, Option.bind_some, h2]; rfl
theorem dbV_some {r c : Int} {xs : List Int} {b : Int} {n : Nat} (h : bndRes r c xs = some b) (h2 : dbG b 13 0 = some n) : dbV r c xs = some (symOf (chV (dbR r c xs n) (plK n)).1 (chV (dbR r c xs n) (plK n)).2) := by unfold dbV dbN; rw [h, Option.bind_some, h2]; rfl
theorem dbR_yes {r c : Int} {xs : List Int} {n : Nat} (h : isPr (101 + (n : Int)) = true) : dbR r c xs (n + 1) = dbR r c xs n ++ [detM r c xs (101 + (n : Int))] := by unfold dbR; rw [plK_yes h, List.map_append]; rfl
theorem dbR_no {r c : Int} {xs : List Int} {n : Nat} (h : isPr (101 + (n : Int)) = false) : dbR r c xs (n + 1) = dbR r c xs n := by unfold dbR; rw [plK_no h]
theorem dbR_len {r c : Int} {xs : List Int} (n : Nat) : (dbR r c xs n).length = (plK n).length := by simp [dbR]
set_option maxRecDepth 100000 in
set_option maxHeartbeats 8000000 in
theorem impl_DeterminantByImages (r c : Int) (A : Option Addr) (n cap : Nat) (xs : List Int) (w : World) {B : Nat} (h : RI w B A n xs) (hB : B ≤ w.heap.size) (hn : n ≤ 1048576) (hnc : n ≤ cap) (hcap : cap ≤ 9223372036854775807) :
    Calls Tryz.prog 14 #[.agg #[.int .i64 r, .int .i64 c, .slice A n cap]] w (BV (optV (dbV r c xs)) w) := by
  have H2 := Lib.hid (h.more hB)
  clear h
  rcases hbd : bndRes r c xs with _ | b
  · have HV := Lib.hid (dbV_none hbd)
    have HB := Lib.hid hbd
    clear hbd
    go_enter Tryz.func14, Tryz.ntmps14
    go_wp2_with fail
    refine (impl_RowBound r c A n cap xs _ (B := w.heap.size) (Kr H2.out) Ks hn hnc hcap).mono ?_
    rw [HB.out]
    rintro e w1 ⟨rfl, hb1⟩
    have hsz1 := hb1.size
    simp at hsz1
    unfold optV
    go_wp2_with fail
    go_ret2; exact BV.mk (by rw [HV.out]; rfl) Kw
  · obtain ⟨b1, b2⟩ := bndRes_bd hbd
    have HB := Lib.hid hbd
    clear hbd
    obtain ⟨X, hX⟩ : ∃ X, dbG b 13 0 = X := ⟨_, rfl⟩
    have hX0 := Lib.hid hX
    clear hX
    go_enter Tryz.func14, Tryz.ntmps14
    go_wp2_with fail
    refine (impl_RowBound r c A n cap xs _ (B := w.heap.size) (Kr H2.out) Ks hn hnc hcap).mono ?_
    rw [HB.out]
    rintro e w1 ⟨rfl, hb1⟩
    have hsz1 := hb1.size
    simp at hsz1
    have hM : BM w1 w.heap.size r c A n cap := Ka
    have hbw : Below w.heap.size w w1 := Kw
    clear hb1
    unfold optV
    obtain ⟨ma, mb, mc, mf, ml⟩ := hM.mx
    go_wp2_with fail
    go_loopg [6, 7, 8, 9] 14 (fun g v6 v7 v8 v9 wr => ∃ (k : Nat) (p q : Int) (A6 A7 : Option Addr) (m6 c6 m7 c7 : Nat), v9 = .int .i64 p ∧ v8 = .int .i64 q ∧ v6 = .slice A6 m6 c6 ∧ v7 = .slice A7 m7 c7 ∧ k ≤ 12 ∧ 13 < g + k ∧ Hid (p = 101 + (k : Int)) ∧ Hid (q = ppK k) ∧ Hid (dbG b (13 - k) k = X) ∧ BM wr w.heap.size r c A n cap ∧ OR wr (w.heap.size + 1) (.slice A6 m6 c6) (dbR r c xs k) ∧ OR wr (w.heap.size + 1) (.slice A7 m7 c7) (plK k) ∧ Apart (.slice A6 m6 c6) (.slice A7 m7 c7) ∧ Below w.heap.size w wr)
    case atStart => exact ⟨0, 101, 1, _, _, _, _, _, _, rfl, rfl, rfl, rfl, by omega, by omega, Lib.hid rfl, Lib.hid rfl, hX0, Kb hM, (by first | (refine OR.alloc (OR.empty' _ _ ?_ ?_) _; (focus (simp; done)); (focus (first | omega | (simp; done) | (simp; omega)))) | (refine OR.empty' _ _ ?_ ?_; (focus (simp; done)); (focus (first | omega | (simp; done) | (simp; omega))))), (by first | (refine OR.alloc (OR.empty' _ _ ?_ ?_) _; (focus (simp; done)); (focus (first | omega | (simp; done) | (simp; omega)))) | (refine OR.empty' _ _ ?_ ?_; (focus (simp; done)); (focus (first | omega | (simp; done) | (simp; omega))))), (fun g h1 h2 => by simp [Value.ownBlock] at h1 h2; omega), Kw⟩
    case round =>
      clear ma mb mc mf ml
      clear hM hbw
      obtain ⟨k, p, q, A6, A7, m6, c6, m7, c7, rfl, rfl, rfl, rfl, hk, hg, HP, HQ, HX, hM, h6, h7, hap6, hbw⟩ := hrel
      have hap7 := hap6.symm
      have hp1 : 101 ≤ p ∧ p ≤ 113 := by have := HP.out; omega
      have hpl := pl_bds k hk
      have hq1 : 1 ≤ q ∧ q ≤ 121330189 := by have := HQ.out; have := hpl.1; omega
      have e7 := h7.lenEq
      have e6 := h6.lenEq
      rw [dbR_len] at e6
      have hm4 : m6 ≤ 4 ∧ m7 ≤ 4 := by have := hpl.2.1; omega
      have l6 : (dbR r c xs k).length ≤ 4 := by rw [dbR_len]; exact hpl.2.1
      have l7 : (plK k).length ≤ 4 := hpl.2.1
      have hMO := Lib.hid hpl.2.2.1
      have hszr := hbw.size
      have hml := hM.lt
      clear e6 e7 hpl
      have hf6 : ((m6 : Int) == 8) = false := by simp; omega
      have hf7 : ((m7 : Int) == 8) = false := by simp; omega
      obtain ⟨ma, mb, mc, mf, ml⟩ := hM.mx
      by_cases hc : q ≤ 2 * b
      · have hng : ¬ 2 * b < ppK k := by rw [← HQ.out]; omega
        obtain ⟨pq1, pq2⟩ : 0 ≤ q * p ∧ q * p ≤ 121330189 * 113 := ⟨Int.mul_nonneg (by omega) (by omega), Int.mul_le_mul hq1.2 hp1.2 (by omega) (by omega)⟩
        rcases hpr : isPr p with _ | _
        · have hpr2 := hpr
          rw [HP.out] at hpr2
          have hk12 : k ≠ 12 := fun e => by
            subst e
            rw [pl_last.1] at hpr2; cases hpr2
          have HPR := Lib.hid hpr
          have HX2 : Hid (dbG b (13 - (k + 1)) (k + 1) = X) := Lib.hid (by rw [← HX.out, show 13 - k = (13 - (k + 1)) + 1 by omega, dbG_no hng hpr2])
          have HR2 := Lib.hid (dbR_no (r := r) (c := c) (xs := xs) hpr2)
          have HK2 := Lib.hid (plK_no hpr2)
          have HQ2 : Hid (q = ppK (k + 1)) := Lib.hid (by rw [ppK_no hpr2]; exact HQ.out)
          have HP2 : Hid (p + 1 = 101 + ((k + 1 : Nat) : Int)) := Lib.hid (by have := HP.out; omega)
          clear hpr hpr2 hng pq1 pq2
          go_wp2_with fail
          refine (impl_IsPrime p _).mono ?_
          rw [HPR.out]
          rintro e w' ⟨rfl, rfl⟩
          go_wp2_with fail
          go_roundg (gk - 1)
          case measure => omega
          case rel => exact ⟨k + 1, p + 1, q, A6, A7, m6, c6, m7, c7, by first | rfl | go_num, rfl, rfl, rfl, by omega, by omega, HP2, HQ2, HX2, Kb hM, by rw [HR2.out]; (with_reducible (repeat (first | exact h6 | refine OR.drew ?_ | refine OR.drewN ?_ _ | refine OR.alloc ?_ _ | refine OR.b_ ?_))), by rw [HK2.out]; (with_reducible (repeat (first | exact h7 | refine OR.drew ?_ | refine OR.drewN ?_ _ | refine OR.alloc ?_ _ | refine OR.b_ ?_))), hap6, Kw⟩
        · have hpr2 := hpr
          rw [HP.out] at hpr2
          have HPR := Lib.hid hpr
          rcases hnm : isNum (q * p) with _ | _
          · have hnm2 := hnm
            rw [HQ.out, HP.out] at hnm2
            have HXN : Hid (X = none) := Lib.hid (by rw [← HX.out, show 13 - k = (12 - k) + 1 by omega, dbG_bad hng hpr2 hnm2])
            have HV : Hid (dbV r c xs = none) := Lib.hid (dbV_bad HB.out (hX0.out.trans HXN.out))
            have HNM := Lib.hid hnm
            have hnb := (isNum_not _).1 hnm
            have HMF : Hid (mulF q p = -4611686018427387904) := Lib.hid (by rw [mulF_num (by omega) (by omega), fit_out hnb]; rfl)
            clear hpr hpr2 hng hnm hnm2
            go_wp2_with fail
            refine (impl_IsPrime p _).mono ?_
            rw [HPR.out]
            rintro e w' ⟨rfl, rfl⟩
            go_wp2_with (first | (go_at_call 42; (first | refine (impl_IsNumber_yes _ _ (by omega)).mono ?_ | refine (impl_IsNumber_no _ _ (by omega)).mono ?_ | refine (impl_IsNumber _ _).mono ?_); rintro e w' ⟨rfl, rfl⟩))
            go_ret2; exact BV.mk (by rw [HV.out]; rfl) Kw
          · have hnm2 := hnm
            rw [HQ.out, HP.out] at hnm2
            have hk12 : k ≠ 12 := fun e => by
              subst e
              rw [pl_last.2] at hnm2; cases hnm2
            have HX2 : Hid (dbG b (13 - (k + 1)) (k + 1) = X) := Lib.hid (by rw [← HX.out, show 13 - k = (13 - (k + 1)) + 1 by omega, dbG_yes hng hpr2 hnm2])
            have HR2 := Lib.hid (dbR_yes (r := r) (c := c) (xs := xs) hpr2)
            have HK2 := Lib.hid (plK_yes hpr2)
            have HQ2 : Hid (q * p = ppK (k + 1)) := Lib.hid (by rw [ppK_yes hpr2, HQ.out, HP.out])
            have HP2 : Hid (p + 1 = 101 + ((k + 1 : Nat) : Int)) := Lib.hid (by have := HP.out; omega)
            have HNM := Lib.hid hnm
            have hnb := (isNum_iff _).1 hnm
            have HMF : Hid (mulF q p = q * p) := Lib.hid (by rw [mulF_num (by omega) (by omega), fit_in hnb])
            have hnbad : (q * p == -4611686018427387904) = false := by simp; omega
            clear hpr hpr2 hng hnm hnm2
            go_wp2_with fail
            refine (impl_IsPrime p _).mono ?_
            rw [HPR.out]
            rintro e w' ⟨rfl, rfl⟩
            go_wp2_with (first | (go_at_call 42; (first | refine (impl_IsNumber_yes _ _ (by omega)).mono ?_ | refine (impl_IsNumber_no _ _ (by omega)).mono ?_ | refine (impl_IsNumber _ _).mono ?_); rintro e w' ⟨rfl, rfl⟩))
            obtain ⟨d, hd⟩ : ∃ d, detM r c xs p = d := ⟨_, rfl⟩
            have HD : Hid (detM r c xs (101 + (k : Int)) = d) := Lib.hid (by rw [← HP.out]; exact hd)
            refine (impl_DeterminantMod r c p A n cap xs _ (B := w.heap.size) (Kr H2.out) Ks hn).mono ?_
            rw [hd]
            clear hd
            rintro e w3 ⟨rfl, hb3⟩
            have hsz3 := hb3.size
            have hM_1 : BM w3 w.heap.size r c A n cap := (Kb hM); have h6_1 : OR w3 (w.heap.size + 1) (.slice A6 m6 c6) (dbR r c xs k) := (by (with_reducible (repeat (first | exact h6 | refine OR.drew ?_ | refine OR.drewN ?_ _ | refine OR.alloc ?_ _ | refine OR.b_ ?_)))); have h7_1 : OR w3 (w.heap.size + 1) (.slice A7 m7 c7) (plK k) := (by (with_reducible (repeat (first | exact h7 | refine OR.drew ?_ | refine OR.drewN ?_ _ | refine OR.alloc ?_ _ | refine OR.b_ ?_)))); have hbw_1 : Below w.heap.size w w3 := Kw; clear ma mb mc mf ml; clear hM h6 h7 hbw; have hM := hM_1; have h6 := h6_1; have h7 := h7_1; have hbw := hbw_1; clear hM_1 h6_1 h7_1 hbw_1; obtain ⟨ma, mb, mc, mf, ml⟩ := hM.mx
            clear hb3
            go_wp2_with (at_builtin; refine wpList_append_one _ rfl (.tmp 52) (.tmp 54) rfl (w.heap.size + 1) (.slice A6 m6 c6) _ rfl (h6.alloc _) _ (d) rfl ?f1 ?f2 ?f3 ?_)
            case f1 => simp [go_sem]
            case f2 => omega
            case f3 => simp; omega
            intro v1 w4 hown1 hgr hat
            have hapn := Apart.grown (v' := v1) (u := .slice A7 m7 c7) hap6 (h7.alloc (.cells #[.int .i64 (d)] 3)) (by simpa using hat)
            have hother := (OR.alloc h7 (.cells #[.int .i64 (d)] 3)).kept hgr (hap6.symm.ne)
            have hM_1 := (BX.alloc hM (.cells #[.int .i64 (d)] 3)).grown hgr (OR.ne_low (h6.alloc (.cells #[.int .i64 (d)] 3)) (by omega))
            have hb_1 : Below w.heap.size w w4 := Below.trans (show Below w.heap.size w (w3.alloc (.cells #[.int .i64 (d)] 3)) from Kw) ((OR.below_grown (h6.alloc (.cells #[.int .i64 (d)] 3)) hgr (by simp; omega)).mono (by omega))
            have hsz_1 := hgr.size
            simp at hsz_1
            clear ma mb mc mf ml
            clear hM hbw hgr hat
            have hM := hM_1
            have hbw := hb_1
            clear hM_1 hb_1
            obtain ⟨ma, mb, mc, mf, ml⟩ := hM.mx
            obtain ⟨B6, M6, C6, rfl⟩ := hown1.shapeK
            have hB6 := hown1
            have hB7 := hother
            have hapB := hapn.symm
            clear hown1 hother hapn h6 h7 hap6 hap7 hsz_1
            go_wp2_with (at_builtin; refine wpList_append_one _ rfl (.tmp 56) (.tmp 58) rfl (w.heap.size + 1) (.slice A7 m7 c7) _ rfl (hB7.alloc _) _ (p) rfl ?f1 ?f2 ?f3 ?_)
            case f1 => simp [go_sem]
            case f2 => omega
            case f3 => simp; omega
            intro v1 w5 hown1 hgr hat
            have hapn := Apart.grown (v' := v1) (u := .slice B6 M6 C6) hapB (hB6.alloc (.cells #[.int .i64 (p)] 3)) (by simpa using hat)
            have hother := (OR.alloc hB6 (.cells #[.int .i64 (p)] 3)).kept hgr (hapB.symm.ne)
            have hM_1 := (BX.alloc hM (.cells #[.int .i64 (p)] 3)).grown hgr (OR.ne_low (hB7.alloc (.cells #[.int .i64 (p)] 3)) (by omega))
            have hb_1 : Below w.heap.size w w5 := Below.trans (show Below w.heap.size w (w4.alloc (.cells #[.int .i64 (p)] 3)) from Kw) ((OR.below_grown (hB7.alloc (.cells #[.int .i64 (p)] 3)) hgr (by simp; omega)).mono (by omega))
            have hsz_1 := hgr.size
            simp at hsz_1
            clear ma mb mc mf ml
            clear hM hbw hgr hat
            have hM := hM_1
            have hbw := hb_1
            clear hM_1 hb_1
            obtain ⟨ma, mb, mc, mf, ml⟩ := hM.mx
            obtain ⟨B7, M7, C7, rfl⟩ := hown1.shapeK
            have h6 := hother
            have h7 := hown1
            have hapF := hapn.symm
            go_wp2_with fail
            go_roundg (gk - 1)
            case measure => omega
            case rel => exact ⟨k + 1, p + 1, q * p, _, _, _, _, _, _, by first | rfl | go_num, rfl, rfl, rfl, by omega, by omega, HP2, HQ2, HX2, Kb hM, by rw [HR2.out, HD.out]; exact h6, by rw [HK2.out, ← HP.out]; exact h7, hapF, Kw⟩
      · have hyg : 2 * b < ppK k := by rw [← HQ.out]; omega
        have HXN : Hid (X = some k) := Lib.hid (by rw [← HX.out, show 13 - k = (12 - k) + 1 by omega, dbG_stop hyg])
        have HV := Lib.hid (dbV_some (xs := xs) HB.out (hX0.out.trans HXN.out))
        have HCB := Lib.hid (dbR_ok (r := r) (c := c) (xs := xs) hk)
        obtain ⟨⟨x1, x2⟩, y1, y2⟩ := dbX_bds (r := r) (c := c) (xs := xs) hk
        have hso : symOk (chV (dbR r c xs k) (plK k)).1 (chV (dbR r c xs k) (plK k)).2 = true := by simp [symOk, isNum_iff]; omega
        have HSO := Lib.hid hso
        have HSR : Hid (symRes (chV (dbR r c xs k) (plK k)).1 (chV (dbR r c xs k) (plK k)).2 = symOf (chV (dbR r c xs k) (plK k)).1 (chV (dbR r c xs k) (plK k)).2) := Lib.hid (by unfold symRes; rw [hso]; rfl)
        have hca := h7.caps.1
        clear hso hyg
        go_wp2_with fail
        refine (impl_ChineseOf A6 A7 m6 m7 c6 c7 (dbR r c xs k) (plK k) _ (B := wr.heap.size) (B' := wr.heap.size) h6.reads h7.reads Ks Ks (by omega) (by omega) hca).mono ?_
        rw [HCB.out]
        rintro e w3 ⟨rfl, hb3⟩
        have hbw3 : Below w.heap.size w w3 := Kw
        generalize hxv : (chV (dbR r c xs k) (plK k)).1 = x at *
        generalize hyv : (chV (dbR r c xs k) (plK k)).2 = y at *
        clear hxv hyv
        go_wp2_with fail
        refine (impl_SymmetricOf x y (by omega) _).mono ?_
        rw [HSR.out, HSO.out]
        rintro e w' ⟨rfl, rfl⟩
        go_wp2_with fail
        go_ret2
        exact BV.mk (by rw [HV.out]; rfl) hbw3
theorem optV_eq (o : Option Int) : optV o = .tuple #[.int .i64 (o.getD 0), .bool o.isSome] := by cases o <;> rfl
theorem impl_DetImages (r c : Int) (A : Option Addr) (n cap : Nat) (xs : List Int) (w : World) {B : Nat} (h : RI w B A n xs) (hB : B ≤ w.heap.size) (hn : n ≤ 1048576) (hnc : n ≤ cap) (hcap : cap ≤ 9223372036854775807) :
    Calls Tryz.prog 14 #[.agg #[.int .i64 r, .int .i64 c, .slice A n cap]] w (BV (.tuple #[.int .i64 ((dbV r c xs).getD 0), .bool (dbV r c xs).isSome]) w) := by
  rw [← optV_eq]; exact impl_DeterminantByImages r c A n cap xs w h hB hn hnc hcap
end Go.Proofs.YtlggfmfelakadaaGreatDoor

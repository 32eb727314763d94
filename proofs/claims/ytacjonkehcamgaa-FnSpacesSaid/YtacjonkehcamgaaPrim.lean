/-
  DERIVED. makePrimitive of the program, in a window of an owned block.
-/
import Derived.Test.YtacjonkehcamgaaPlainW
import Derived.Test.YtacjonkehcamgaaMatOps
namespace Go.Proofs.Ytacjonkehcamgaa
open Go.RowKit
set_option linter.unusedVariables false
set_option linter.unusedSimpArgs false
theorem gcdF_le (l : List Int) (M : Nat) (h : ∀ x ∈ l, x.natAbs ≤ M) : ∀ a : Nat, a ≤ M → l.foldl (fun (g : Nat) (x : Int) => Int.gcd g x) a ≤ M := by
  induction l with
  | nil => intro a ha; simpa using ha
  | cons y l ih =>
    intro a ha
    refine ih (fun x hx => h x (List.mem_cons_of_mem _ hx)) _ ?_
    show Int.gcd a y ≤ M
    by_cases hy : y = 0
    · subst hy; simpa using ha
    · have h1 : Int.gcd a y ∣ y.natAbs := Int.gcd_dvd_natAbs_right ..
      have h2 := Nat.le_of_dvd (by omega) h1
      have := h y (List.mem_cons_self ..)
      omega
theorem RI.window {w : World} {B g n cap off m : Nat} {xs : List Int} (h : OR w B (.slice (some ⟨g, 0, none⟩) n cap) xs) (hw : off + m ≤ xs.length) : RI w (g + 1) (some ⟨g, off, none⟩) m (winL xs off m) :=
  ⟨winL_len hw, fun _ => ⟨g, off, rfl, by omega, fun k hk => by rw [winL_getD hk]; exact h.cell (off + k) (by omega)⟩⟩
set_option maxHeartbeats 4000000 in
theorem impl_makePrimitive (g off m capv n cap : Nat) (xs : List Int) (w : World) {B : Nat} (h : OR w B (.slice (some ⟨g, 0, none⟩) n cap) xs) (hw : off + m ≤ xs.length) (hm : m ≤ 1000) (hb : ∀ k, -400000000 ≤ xs.getD k 0 ∧ xs.getD k 0 ≤ 400000000) :
    Calls Try.prog 173 #[.slice (some ⟨g, off, none⟩) m capv] w (WU (.slice (some ⟨g, 0, none⟩) n cap) B (splL xs off (primL (winL xs off m))) w) := by
  have HB := Lib.hid hb
  clear hb
  have HX : Hid (∀ k, k < m → w.cell? ⟨g, off + k, none⟩ = some (.int .i64 ((winL xs off m).getD k 0))) := Lib.hid (fun k hk => by rw [winL_getD hk]; exact h.cell (off + k) (by omega))
  have HLB : Hid (∀ k, -400000000 ≤ (winL xs off m).getD k 0 ∧ (winL xs off m).getD k 0 ≤ 400000000) := Lib.hid (fun k => by
    by_cases hk : k < m
    · rw [winL_getD hk]; exact HB.out _
    · simp [List.getD, List.getElem?_eq_none (show (winL xs off m).length ≤ k by rw [winL_len hw]; omega)])
  have HGL : Hid (∀ k, gcdL ((winL xs off m).take k) ≤ 400000000) := Lib.hid (fun k => by
    refine gcdF_le _ 400000000 (fun x hx => ?_) 0 (by omega)
    have h1 := List.mem_of_mem_take hx
    obtain ⟨i, hi, rfl⟩ := List.mem_iff_getElem.1 h1
    have h2 := HLB.out i
    have h3 : (winL xs off m).getD i 0 = (winL xs off m)[i] := by simp [List.getD, hi]
    rw [h3] at h2; omega)
  have HWL : Hid ((winL xs off m).length = m) := Lib.hid (winL_len hw)
  have HSW : Hid (splL xs off (winL xs off m) = xs) := Lib.hid (splL_win hw)
  have H := Lib.hid h
  have hlt : g < w.heap.size := by
    rcases h.form with ⟨h1, _⟩ | ⟨g', cap', h1, _, h3, _⟩
    · cases h1
    · injection h1 with e1 e2 e3; injection e1 with e1; injection e1 with e1; subst e1; exact h3
  clear h
  generalize winL xs off m = l at *
  go_enter Try.func173, Try.ntmps173
  go_wp2
  go_loopw [2, 8] (fun u v wr => ∃ k nd : Nat, v = .int .i64 k ∧ u = .int .i64 (gcdL (l.take k) : Nat) ∧ k ≤ m ∧ wr = w.drewN nd) (fun _ v _ => m - (intOf v).toNat)
  case atStart => exact ⟨0, 0, rfl, by simp [gcdL], Nat.zero_le _, rfl⟩
  case round =>
    obtain ⟨k, nd, rfl, rfl, hk, rfl⟩ := hrel
    have hg1 := HGL.out k
    by_cases hkm : k < m
    · have c1 := HX.out k hkm
      obtain ⟨y1, y2⟩ := HLB.out k
      have hst := Lib.hid (gcdL_take (l := l) (k := k) (by have := HWL.out; omega))
      generalize gcdL (l.take k) = q at *
      generalize l.getD k 0 = y at *
      go_wp2_with (first | (go_at_call 161; refine (impl_gcd _ _ _ (by omega) (by omega) (by omega) (by omega)).mono ?_; rintro e w' ⟨rfl, nd, rfl⟩))
      go_roundw
      case rel => exact ⟨k + 1, _, by go_num, by rw [hst.out], by omega, rfl⟩
      case measure => simp only [intOf]; omega
    · obtain rfl : k = m := by omega
      have htk : l.take k = l := List.take_of_length_le (by have := HWL.out; omega)
      rw [htk] at hg1 ⊢
      clear htk
      by_cases hz : gcdL l = 0
      · have hzb : (((gcdL l : Nat) : Int) == 0) = true := by simp [hz]
        have HE : Hid (splL xs off (primL l) = xs) := Lib.hid (by rw [show primL l = l by unfold primL; rw [if_pos hz]]; exact HSW.out)
        clear hz
        generalize gcdL l = q at *
        go_wp2
        refine bodyPost_ret (v := .tuple #[]) (by simp [results, Try.results173]) rfl ?_
        exact ⟨rfl, by rw [HE.out]; exact H.out.drewN _, World.grownBy.refl w _ |> fun h => only_drewN h _, Nat.le_refl _⟩
      · have hzb : (((gcdL l : Nat) : Int) == 0) = false := by simp; omega
        have hfl := fcN_lt_iff.2 hz
        have hfk : fcN l < k := by have := HWL.out; omega
        have HFI : Hid (fcI l = (fcN l : Int)) := Lib.hid (by unfold fcI; rw [if_pos hfl])
        have c2 := HX.out (fcN l) hfk
        have HPG : Hid (∀ j, j < k → (primL l).getD j 0 = (l.getD j 0).tdiv (divL l)) := Lib.hid (fun j hj => primL_getD (by have := HWL.out; omega) hz)
        have HDV : Hid (divL l = if l.getD (fcN l) 0 < 0 then -(gcdL l : Int) else gcdL l) := Lib.hid rfl
        have hd0 : ¬ divL l = 0 := by have := divL_abs l; intro e; rw [e] at this; simp at this; omega
        have hdb : (divL l).natAbs ≤ 400000000 := by rw [divL_abs]; exact hg1
        obtain ⟨f1, f2⟩ := HLB.out (fcN l)
        generalize l.getD (fcN l) 0 = x0 at *
        have HPL := Lib.hid (primL_len l)
        have hoff : off + k ≤ n := by have := H.out.lenEq; omega
        by_cases hneg : x0 < 0
        · have HD : Hid (divL l = -(gcdL l : Int)) := Lib.hid (by rw [HDV.out, if_pos hneg])
          rw [HD.out] at hd0 hdb
          have HPG2 : Hid (∀ j, j < k → (primL l).getD j 0 = -((l.getD j 0).tdiv (gcdL l : Int))) := Lib.hid (fun j hj => by rw [← Int.tdiv_neg, ← HD.out]; exact HPG.out j hj)
          go_wp2_with fail
          refine (impl_firstCell (some ⟨g, off, none⟩) k capv l _ (B := g + 1) ?_ (by omega)).mono ?_
          · exact (show RI w (g + 1) (some ⟨g, off, none⟩) k l from ⟨HWL.out, fun _ => ⟨g, off, rfl, by omega, fun j hj => HX.out j hj⟩⟩).drewN _
          rw [HFI.out]
          rintro e w' ⟨rfl, rfl⟩
          go_wp2_with fail
          go_loopw [5, 28] (fun _ v wr => ∃ j : Nat, v = .int .i64 j ∧ j ≤ k ∧ OR wr B (.slice (some ⟨g, 0, none⟩) n cap) (splL xs off (mixL (primL l) l j)) ∧ w.grownBy wr (some g) ∧ w.heap.size ≤ wr.heap.size) (fun _ v _ => k - (intOf v).toNat)
          case atStart => exact ⟨0, rfl, Nat.zero_le _, by rw [mixL_zero, HSW.out]; exact H.out.drewN _, only_drewN (World.grownBy.refl w _) _, Nat.le_refl _⟩
          case round =>
            obtain ⟨j, rfl, hj, hown, hgr, hsz⟩ := hrel
            by_cases hjk : j < k
            · have hml := mixL_len HPL.out (show j ≤ l.length by have := HWL.out; omega)
              have hc1 := hown.cell (off + j) (by rw [splL_len (by rw [hml]; have := HWL.out; omega)]; omega)
              rw [splL_getD (by rw [hml]; have := HWL.out; omega) (by rw [hml]; have := HWL.out; omega), mixL_at HPL.out (by have := HWL.out; omega)] at hc1
              have hf1 := hown.frozen (off + j)
              have hst := hown.set_ (off + j) (-((l.getD j 0).tdiv (gcdL l : Int)))
              rw [splL_set (by rw [hml]; have := HWL.out; omega) (by rw [hml]; have := HWL.out; omega), ← HPG2.out j hjk, mixL_set HPL.out (by have := HWL.out; omega), HPG2.out j hjk] at hst
              obtain ⟨y1, y2⟩ := HLB.out j
              have hq := (quo_bd (l.getD j 0) (gcdL l : Int) 0 (by omega) (by omega)).1
              clear hml
              have HST := Lib.hid hst
              clear hst
              generalize l.getD j 0 = y at *
              have hq1 : -400000000 ≤ y.tdiv (gcdL l : Int) ∧ y.tdiv (gcdL l : Int) ≤ 400000000 := by omega
              obtain ⟨hq2, hq3⟩ := hq1
              clear hq
              go_wp2
              go_roundw
              case rel => exact ⟨j + 1, by go_num, by omega, HST.out, only_set hgr _ _, by simpa [World.setCell] using hsz⟩
              case measure => simp only [intOf]; omega
            · have hfin := hown.as (congrArg (splL xs off) (mixL_all HPL.out (show l.length ≤ j by have := HWL.out; omega)))
              clear hown
              go_wp2
              go_end0
              exact ⟨rfl, hfin, hgr, hsz⟩
        · have HD : Hid (divL l = (gcdL l : Int)) := Lib.hid (by rw [HDV.out, if_neg hneg])
          rw [HD.out] at hd0 hdb
          have HPG2 : Hid (∀ j, j < k → (primL l).getD j 0 = (l.getD j 0).tdiv ((gcdL l : Int))) := Lib.hid (fun j hj => by rw [← HD.out]; exact HPG.out j hj)
          go_wp2_with fail
          refine (impl_firstCell (some ⟨g, off, none⟩) k capv l _ (B := g + 1) ?_ (by omega)).mono ?_
          · exact (show RI w (g + 1) (some ⟨g, off, none⟩) k l from ⟨HWL.out, fun _ => ⟨g, off, rfl, by omega, fun j hj => HX.out j hj⟩⟩).drewN _
          rw [HFI.out]
          rintro e w' ⟨rfl, rfl⟩
          go_wp2_with fail
          go_loopw [5, 28] (fun _ v wr => ∃ j : Nat, v = .int .i64 j ∧ j ≤ k ∧ OR wr B (.slice (some ⟨g, 0, none⟩) n cap) (splL xs off (mixL (primL l) l j)) ∧ w.grownBy wr (some g) ∧ w.heap.size ≤ wr.heap.size) (fun _ v _ => k - (intOf v).toNat)
          case atStart => exact ⟨0, rfl, Nat.zero_le _, by rw [mixL_zero, HSW.out]; exact H.out.drewN _, only_drewN (World.grownBy.refl w _) _, Nat.le_refl _⟩
          case round =>
            obtain ⟨j, rfl, hj, hown, hgr, hsz⟩ := hrel
            by_cases hjk : j < k
            · have hml := mixL_len HPL.out (show j ≤ l.length by have := HWL.out; omega)
              have hc1 := hown.cell (off + j) (by rw [splL_len (by rw [hml]; have := HWL.out; omega)]; omega)
              rw [splL_getD (by rw [hml]; have := HWL.out; omega) (by rw [hml]; have := HWL.out; omega), mixL_at HPL.out (by have := HWL.out; omega)] at hc1
              have hf1 := hown.frozen (off + j)
              have hst := hown.set_ (off + j) ((l.getD j 0).tdiv ((gcdL l : Int)))
              rw [splL_set (by rw [hml]; have := HWL.out; omega) (by rw [hml]; have := HWL.out; omega), ← HPG2.out j hjk, mixL_set HPL.out (by have := HWL.out; omega), HPG2.out j hjk] at hst
              obtain ⟨y1, y2⟩ := HLB.out j
              have hq := (quo_bd (l.getD j 0) ((gcdL l : Int)) 0 (by omega) (by omega)).1
              clear hml
              have HST := Lib.hid hst
              clear hst
              generalize l.getD j 0 = y at *
              have hq1 : -400000000 ≤ y.tdiv ((gcdL l : Int)) ∧ y.tdiv ((gcdL l : Int)) ≤ 400000000 := by omega
              obtain ⟨hq2, hq3⟩ := hq1
              clear hq
              go_wp2
              go_roundw
              case rel => exact ⟨j + 1, by go_num, by omega, HST.out, only_set hgr _ _, by simpa [World.setCell] using hsz⟩
              case measure => simp only [intOf]; omega
            · have hfin := hown.as (congrArg (splL xs off) (mixL_all HPL.out (show l.length ≤ j by have := HWL.out; omega)))
              clear hown
              go_wp2
              go_end0
              exact ⟨rfl, hfin, hgr, hsz⟩
end Go.Proofs.Ytacjonkehcamgaa

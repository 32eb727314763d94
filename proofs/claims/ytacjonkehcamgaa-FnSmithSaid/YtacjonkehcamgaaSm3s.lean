/-
  DERIVED. A round of the program's Smith form.
-/
import Derived.Test.YtacjonkehcamgaaU4
import Derived.Test.YtacjonkehcamgaaU3
import Derived.Deep.CutBlock
import Derived.Deep.LoopGhost
namespace Go.Proofs.Ytacjonkehcamgaa
open Go.RowKit
set_option linter.unusedVariables false
set_option linter.unusedSimpArgs false
/-- What a round of the program answers: whether another one follows; or a number beyond the limit came up. -/
def RND (B b R C t : Nat) (X : SS × Bool) (w : World) (e : Ending) (w' : World) : Prop :=
  Below B w w' ∧ ((X.1.OK R C ∧ e = .returned (.bool (!X.2)) ∧ WK w' B b R C X.1.f X.1.g X.1.h false) ∨ (¬ X.1.OK R C ∧ ∃ v f g h, e = .returned (.bool v) ∧ WK w' B b R C f g h true))
theorem WK.drewNs {w : World} {B b R C : Nat} {f g h : Fn2} {bd : Bool} (k : WK w B b R C f g h bd) (q : Nat) : WK (w.drewN q) B b R C f g h bd := let ⟨_, _, _, _, _, _, _, _, _, k⟩ := k; (k.drewN q).wk
theorem clnS_lf {R C t : Nat} {f : Fn2} {lf : Bool} (h : lf = false ↔ (∀ x, t < x → x < R → f x t = 0) ∧ ∀ y, t < y → y < C → f t y = 0) : lf = !clnS R C t f := by
  rcases hc : clnS R C t f with _ | _
  · rcases lf with _ | _
    · obtain ⟨a, b⟩ := h.1 rfl
      rw [clnS_of a b] at hc; cases hc
    · rfl
  · exact h.2 (clnS_yes hc)
set_option maxRecDepth 100000 in
set_option maxHeartbeats 8000000 in
theorem impl_round (B b R C t p q : Nat) (s0 : SS) (w : World) (hK : WK w B b R C s0.f s0.g s0.h false) (ht : t < R) (htC : t < C) (hG0 : SGD R C s0) (he : ls2 R C s0.f t = ((p : Int), (q : Int))) (hpR : p < R) (hqC : q < C) (hpq : s0.f p q ≠ 0) (hC : C ≤ 24) (hR : R ≤ 24) :
    Calls Try.prog 156 #[.pointer (some ⟨b, 0, none⟩), .int .i64 t] w (RND B b R C t (rnd R C t s0) w) := by
  have HG0 := Lib.hid hG0
  have HPQ := Lib.hid hpq
  have HRN := Lib.hid (rnd_of he)
  have HLS : Hid (∀ w', WK w' B b R C s0.f s0.g s0.h false → Calls Try.prog 155 #[.pointer (some ⟨b, 0, none⟩), .int .i64 t] w' (P2V ((p : Int), (q : Int)) w')) := Lib.hid (fun w' hk => by rw [← he]; exact impl_leastFrom B b R C t s0.f s0.g s0.h false w' hk (Nat.le_of_lt ht) (Nat.le_of_lt htC) hG0.ok.f hC hR)
  generalize rnd R C t s0 = X at *
  obtain ⟨A1, n1, cap1, A2, n2, cap2, A3, n3, cap3, hW⟩ := hK
  have hBb := hW.hb
  have hbw : Below B w w := Below.refl _ _
  clear hG0 hpq he
  obtain ⟨s, HSE⟩ : ∃ s, Hid (s = s0) := ⟨s0, Lib.hid rfl⟩
  rw [← HSE.out] at HG0 HPQ HRN HLS hW
  clear HSE
  obtain ⟨c0, c1, c2, c3, c4, c5, c6, c7, c8, c9, cf, cl⟩ := hW.cells
  go_enter Try.func156, Try.ntmps156
  go_wp2_with fail
  refine (HLS.out _ (by ((with_reducible refine WB.wk (A := A1) (n := n1) (cap := cap1) (A2 := A2) (n2 := n2) (cap2 := cap2) (A3 := A3) (n3 := n3) (cap3 := cap3) ?_); (with_reducible (repeat (first | exact hW | refine WB.b_ ?_ | refine WB.drew ?_ | refine WB.drewN ?_ _ | refine WB.alloc ?_ _)))))).mono ?_
  rintro e w1 ⟨rfl, hb1⟩
  (have hW_1 : WB w1 B b R C (s.f) (s.g) (s.h) false A1 n1 cap1 A2 n2 cap2 A3 n3 cap3 := (by (with_reducible (repeat (first | exact hW | refine WB.b_ ?_ | refine WB.drew ?_ | refine WB.drewN ?_ _ | refine WB.alloc ?_ _))))); (have hbw_1 : Below B w w1 := Kw); clear hW hbw hb1; clear c0 c1 c2 c3 c4 c5 c6 c7 c8 c9 cf cl; (have hW := hW_1); (have hbw := hbw_1); clear hW_1 hbw_1; obtain ⟨c0, c1, c2, c3, c4, c5, c6, c7, c8, c9, cf, cl⟩ := hW.cells
  clear HLS
  go_upto_if 30 with fail
  go_cut [] from 21 to 237 (fun wc => Below B w wc ∧ ∃ s1, s1 = sfA1 t p s ∧ WK wc B b R C s1.f s1.g s1.h false)
  case first => as_aux_lemma =>
    by_cases hpt : p = t
    · have hbne : ((p : Int) != (t : Int)) = false := by simp [hpt]
      have HE : Hid (s = sfA1 t p s) := Lib.hid (by unfold sfA1; rw [if_pos hpt])
      clear hpt
      go_wp2_with fail
      go_meet
      case rel => exact ⟨Kw, s, HE.out, by ((with_reducible refine WB.wk (A := A1) (n := n1) (cap := cap1) (A2 := A2) (n2 := n2) (cap2 := cap2) (A3 := A3) (n3 := n3) (cap3 := cap3) ?_); (with_reducible (repeat (first | exact hW | refine WB.b_ ?_ | refine WB.drew ?_ | refine WB.drewN ?_ _ | refine WB.alloc ?_ _))))⟩
    · have hbne : ((p : Int) != (t : Int)) = true := by simp; omega
      have HE : Hid (s.wr (s.row.swap p t) = sfA1 t p s) := Lib.hid (by unfold sfA1; rw [if_neg hpt])
      have HPT := Lib.hid hpt
      clear hpt
      go_wp2_with fail
      refine (impl_rows_swap B b R C p t s.f s.g s.h _ (by ((with_reducible refine WB.wk (A := A1) (n := n1) (cap := cap1) (A2 := A2) (n2 := n2) (cap2 := cap2) (A3 := A3) (n3 := n3) (cap3 := cap3) ?_); (with_reducible (repeat (first | exact hW | refine WB.b_ ?_ | refine WB.drew ?_ | refine WB.drewN ?_ _ | refine WB.alloc ?_ _))))) hpR ht HPT.out (by omega) hC hR).mono ?_
      rintro e w1 ⟨rfl, hb1, hK⟩
      have hK : WK w1 B b R C (s.wr (s.row.swap p t)).f (s.wr (s.row.swap p t)).g (s.wr (s.row.swap p t)).h false := hK
      (have hbw_1 : Below B w w1 := Below.trans Kw hb1); clear hbw hW; clear c0 c1 c2 c3 c4 c5 c6 c7 c8 c9 cf cl; (have hbw := hbw_1); clear hbw_1
      obtain ⟨A1, n1, cap1, A2, n2, cap2, A3, n3, cap3, hW⟩ := hK
      go_wp2_with fail
      go_meet
      case rel => exact ⟨Kw, s.wr (s.row.swap p t), HE.out, by ((with_reducible refine WB.wk (A := A1) (n := n1) (cap := cap1) (A2 := A2) (n2 := n2) (cap2 := cap2) (A3 := A3) (n3 := n3) (cap3 := cap3) ?_); (with_reducible (repeat (first | exact hW | refine WB.b_ ?_ | refine WB.drew ?_ | refine WB.drewN ?_ _ | refine WB.alloc ?_ _))))⟩
  case rest => as_aux_lemma =>
    clear c0 c1 c2 c3 c4 c5 c6 c7 c8 c9 cf cl
    clear hbw hW
    obtain ⟨hbw, s1, hs1, hK⟩ := hcut
    have HG1 : Hid (SGD R C s1) := Lib.hid (by rw [hs1]; exact HG0.out.a1 hpR ht)
    have HR1 : Hid (X = sfD R C t (sfC C t (sfB R t (sfA2 t q s1)))) := Lib.hid (by rw [hs1]; exact HRN.out)
    have HV1 : Hid ((sfA2 t q s1).f t t ≠ 0) := Lib.hid (by rw [hs1, sfA_piv]; exact HPQ.out)
    clear hs1 HG0 HRN HPQ
    obtain ⟨A1, n1, cap1, A2, n2, cap2, A3, n3, cap3, hW⟩ := hK
    obtain ⟨c0, c1, c2, c3, c4, c5, c6, c7, c8, c9, cf, cl⟩ := hW.cells
    go_upto_if 38 with fail
    go_cut [] from 21 to 237 (fun wc => Below B w wc ∧ ∃ s2, s2 = sfA2 t q s1 ∧ WK wc B b R C s2.f s2.g s2.h false)
    case first => as_aux_lemma =>
      by_cases hpt : q = t
      · have hbne : ((q : Int) != (t : Int)) = false := by simp [hpt]
        have HE : Hid (s1 = sfA2 t q s1) := Lib.hid (by unfold sfA2; rw [if_pos hpt])
        clear hpt
        go_wp2_with fail
        go_meet
        case rel => exact ⟨Kw, s1, HE.out, by ((with_reducible refine WB.wk (A := A1) (n := n1) (cap := cap1) (A2 := A2) (n2 := n2) (cap2 := cap2) (A3 := A3) (n3 := n3) (cap3 := cap3) ?_); (with_reducible (repeat (first | exact hW | refine WB.b_ ?_ | refine WB.drew ?_ | refine WB.drewN ?_ _ | refine WB.alloc ?_ _))))⟩
      · have hbne : ((q : Int) != (t : Int)) = true := by simp; omega
        have HE : Hid (s1.wc (s1.col.swap q t) = sfA2 t q s1) := Lib.hid (by unfold sfA2; rw [if_neg hpt])
        have HPT := Lib.hid hpt
        clear hpt
        go_wp2_with fail
        refine (impl_cols_swap B b R C q t s1.f s1.g s1.h _ (by ((with_reducible refine WB.wk (A := A1) (n := n1) (cap := cap1) (A2 := A2) (n2 := n2) (cap2 := cap2) (A3 := A3) (n3 := n3) (cap3 := cap3) ?_); (with_reducible (repeat (first | exact hW | refine WB.b_ ?_ | refine WB.drew ?_ | refine WB.drewN ?_ _ | refine WB.alloc ?_ _))))) hqC htC HPT.out HG1.out.ok.f HG1.out.ok.h (by omega) hC hR).mono ?_
        rintro e w1 ⟨rfl, hb1, hK⟩
        have hK : WK w1 B b R C (s1.wc (s1.col.swap q t)).f (s1.wc (s1.col.swap q t)).g (s1.wc (s1.col.swap q t)).h false := hK
        (have hbw_1 : Below B w w1 := Below.trans Kw hb1); clear hbw hW; clear c0 c1 c2 c3 c4 c5 c6 c7 c8 c9 cf cl; (have hbw := hbw_1); clear hbw_1
        obtain ⟨A1, n1, cap1, A2, n2, cap2, A3, n3, cap3, hW⟩ := hK
        go_wp2_with fail
        go_meet
        case rel => exact ⟨Kw, s1.wc (s1.col.swap q t), HE.out, by ((with_reducible refine WB.wk (A := A1) (n := n1) (cap := cap1) (A2 := A2) (n2 := n2) (cap2 := cap2) (A3 := A3) (n3 := n3) (cap3 := cap3) ?_); (with_reducible (repeat (first | exact hW | refine WB.b_ ?_ | refine WB.drew ?_ | refine WB.drewN ?_ _ | refine WB.alloc ?_ _))))⟩
    case rest => as_aux_lemma =>
      clear c0 c1 c2 c3 c4 c5 c6 c7 c8 c9 cf cl
      clear hbw hW
      obtain ⟨hbw, s2, hs2, hK⟩ := hcut
      have HG : Hid (SGD R C s2) := Lib.hid (by rw [hs2]; exact HG1.out.a2 hqC htC)
      have HR2 : Hid (X = sfD R C t (sfC C t (sfB R t s2))) := Lib.hid (by rw [hs2]; exact HR1.out)
      have HP : Hid (s2.row.f t t ≠ 0) := Lib.hid (by rw [hs2]; exact HV1.out)
      clear hs2 HG1 HR1 HV1
      obtain ⟨s, HSE⟩ : ∃ s, Hid (s = s2) := ⟨s2, Lib.hid rfl⟩
      rw [← HSE.out] at HG HR2 HP hK
      clear HSE
      have HSG := Lib.hid HG.out.row
      obtain ⟨A1, n1, cap1, A2, n2, cap2, A3, n3, cap3, hW⟩ := hK
      obtain ⟨c0, c1, c2, c3, c4, c5, c6, c7, c8, c9, cf, cl⟩ := hW.cells
      go_upto_block 0 with fail
      go_cut [] from 21 to 237 (fun wc => Below B w wc ∧ ((∃ u, u = swS t t t s.row (R - t) ∧ u.OK R C ∧ WK wc B b R C u.f u.g s.h false) ∨ (¬ (swS t t t s.row (R - t)).OK R C ∧ ∃ f g h, WK wc B b R C f g h true)))
      case first => as_aux_lemma =>
        go_wp2_with fail
        go_loopg [9] (R + 1) (fun k vi wr => ∃ (i : Nat), vi = .int .i64 i ∧ t + 1 ≤ i ∧ i ≤ R ∧ R - i < k ∧ Below B w wr ∧ ((∃ u, u = swS t t t s.row (i - t) ∧ u.OK R C ∧ WK wr B b R C u.f u.g s.h false) ∨ (¬ (swS t t t s.row (R - t)).OK R C ∧ ∃ f g h, WK wr B b R C f g h true)))
        case atStart => exact ⟨t + 1, by go_num, Nat.le_refl _, by omega, by omega, hbw, .inl ⟨s.row, by rw [show t + 1 - t = 0 + 1 by omega, sw_skip (.inl (by omega))]; rfl, HSG.out.ok, by show WK _ B b R C s.f s.g s.h false; ((with_reducible refine WB.wk (A := A1) (n := n1) (cap := cap1) (A2 := A2) (n2 := n2) (cap2 := cap2) (A3 := A3) (n3 := n3) (cap3 := cap3) ?_); (with_reducible (repeat (first | exact hW | refine WB.b_ ?_ | refine WB.drew ?_ | refine WB.drewN ?_ _ | refine WB.alloc ?_ _))))⟩⟩
        case round => as_aux_lemma =>
          clear hW hbw
          clear c0 c1 c2 c3 c4 c5 c6 c7 c8 c9 cf cl
          obtain ⟨i, rfl, hti, hiR, hk3, hbw, hrel⟩ := hrel
          rcases hrel with ⟨u, hu, hU0, hK⟩ | ⟨hno, f', g', h', hK⟩
          · obtain ⟨A1, n1, cap1, A2, n2, cap2, A3, n3, cap3, hW⟩ := hK
            have HU := Lib.hid hu
            have HUO := Lib.hid hU0
            clear hu hU0
            obtain ⟨c0, c1, c2, c3, c4, c5, c6, c7, c8, c9, cf, cl⟩ := hW.cells
            by_cases hlt : i < R
            · have hsub : i + 1 - t = (i - t) + 1 := by omega
              have hst : t + (i - t) = i := by omega
              have hit : i ≠ t := by omega
              have hzn : Num (s.row.f i t) := HSG.out.ok.f i t hlt htC
              have hdn : Num (s.row.f t t) := HSG.out.ok.f t t ht htC
              have hqi : u.f i t = s.row.f i t := by rw [HU.out, swS_late t _ (by omega)]
              have hqp : u.f t t = s.row.f t t := by rw [HU.out, swS_p]
              by_cases hz : s.row.f i t = 0
              · have HS : Hid (u = swS t t t s.row (i + 1 - t)) := Lib.hid (by rw [hsub, sw_skip (.inr (by rw [hst]; exact hz))]; exact HU.out)
                have HZ : Hid (u.f i t = 0) := Lib.hid (by rw [hqi, hz])
                clear hz hqi hqp hsub hst hzn hdn hit
                go_wp2_with fail
                (refine (impl_at_tb R C i t A1 n1 cap1 ((u.f)) 0 HZ.out _ (B := B) (by have hm := hW.m; (with_reducible (repeat (first | exact hm | refine OR.drew ?_ | refine OR.drewN ?_ _ | refine OR.alloc ?_ _ | refine OR.b_ ?_ | refine OR.l_ ?_)))) (by omega) (by omega) (by omega) (by omega)).mono ?_; rintro e w1 ⟨rfl, hb1⟩; (have hW_1 : WB w1 B b R C ((u.f)) ((u.g)) ((s.h)) false A1 n1 cap1 A2 n2 cap2 A3 n3 cap3 := (by (with_reducible (repeat (first | exact hW | refine WB.b_ ?_ | refine WB.drew ?_ | refine WB.drewN ?_ _ | refine WB.alloc ?_ _))))); (have hbw_1 : Below B w w1 := Kw); clear hW hbw hb1; clear c0 c1 c2 c3 c4 c5 c6 c7 c8 c9 cf cl; (have hW := hW_1); (have hbw := hbw_1); clear hW_1 hbw_1; obtain ⟨c0, c1, c2, c3, c4, c5, c6, c7, c8, c9, cf, cl⟩ := hW.cells)
                go_wp2_with fail
                go_roundg (gk - 1)
                case measure => omega
                case rel => exact ⟨i + 1, by go_num, by omega, by omega, by omega, hbw, .inl ⟨u, HS.out, HUO.out, by ((with_reducible refine WB.wk (A := A1) (n := n1) (cap := cap1) (A2 := A2) (n2 := n2) (cap2 := cap2) (A3 := A3) (n3 := n3) (cap3 := cap3) ?_); (with_reducible (repeat (first | exact hW | refine WB.b_ ?_ | refine WB.drew ?_ | refine WB.drewN ?_ _ | refine WB.alloc ?_ _))))⟩⟩
              · have HST : Hid (swS t t t s.row (i + 1 - t) = u.add i t (-(s.row.f i t / s.row.f t t))) := Lib.hid (by rw [hsub, sw_add (by rw [hst]; exact hit) (by rw [hst]; exact hz), hst, ← HU.out])
                have hqn := (ediv_bd hzn HP.out).neg
                have HDV : Hid (∀ w', Calls Try.prog 147 #[.int .i64 (s.row.f i t), .int .i64 (s.row.f t t)] w' (IIE (s.row.f i t / s.row.f t t) (s.row.f i t % s.row.f t t) true w')) := Lib.hid (fun w' => impl_DivideFloor (s.row.f i t) (s.row.f t t) w' hzn hdn HP.out)
                have HBAD : Hid (¬ okA R C u.f u.g i t (-(s.row.f i t / s.row.f t t)) → ¬ (swS t t t s.row (R - t)).OK R C) := Lib.hid (fun hn hk => hn (by
                  have h5 : (swS t t t s.row (i + 1 - t)).OK R C := swS_back' HSG.out.nb (i + 1 - t) (R - t - (i + 1 - t)) (by rw [show i + 1 - t + (R - t - (i + 1 - t)) = R - t by omega]; exact hk)
                  rw [HST.out] at h5
                  exact ⟨h5.f, h5.g⟩))
                have hnz : (s.row.f i t != 0) = true := by simpa using hz
                have HQI := Lib.hid hqi
                have HQP := Lib.hid hqp
                have HIT := Lib.hid hit
                clear hz hqi hqp hsub hst hzn hdn hit
                generalize s.row.f i t / s.row.f t t = y at *
                generalize s.row.f i t % s.row.f t t = y2 at *
                generalize s.row.f i t = z at *
                generalize hd1 : s.row.f t t = d at HQP HDV
                clear hd1
                obtain ⟨hq1, hq2⟩ := hqn
                go_wp2_with fail
                (refine (impl_at_tb R C i t A1 n1 cap1 ((u.f)) z HQI.out _ (B := B) (by have hm := hW.m; (with_reducible (repeat (first | exact hm | refine OR.drew ?_ | refine OR.drewN ?_ _ | refine OR.alloc ?_ _ | refine OR.b_ ?_ | refine OR.l_ ?_)))) (by omega) (by omega) (by omega) (by omega)).mono ?_; rintro e w1 ⟨rfl, hb1⟩; (have hW_1 : WB w1 B b R C ((u.f)) ((u.g)) ((s.h)) false A1 n1 cap1 A2 n2 cap2 A3 n3 cap3 := (by (with_reducible (repeat (first | exact hW | refine WB.b_ ?_ | refine WB.drew ?_ | refine WB.drewN ?_ _ | refine WB.alloc ?_ _))))); (have hbw_1 : Below B w w1 := Kw); clear hW hbw hb1; clear c0 c1 c2 c3 c4 c5 c6 c7 c8 c9 cf cl; (have hW := hW_1); (have hbw := hbw_1); clear hW_1 hbw_1; obtain ⟨c0, c1, c2, c3, c4, c5, c6, c7, c8, c9, cf, cl⟩ := hW.cells)
                go_wp2_with fail
                ((refine wp_region_held_drew (S := (fun w' => w'.cell? ⟨b, 0, none⟩ = some (.int .i64 R) ∧ w'.cell? ⟨b, 1, none⟩ = some (.int .i64 C) ∧ w'.cell? ⟨b, 2, none⟩ = some (.slice A1 n1 cap1))) (by kernel_rfl) ?_ (fun hHeld => ?_)); ((focus ((try dsimp only); (go_keep)))); ((refine tk_ (i := 0) (v := ?_) (y := Or.inl ⟨by rfl, ?_⟩) (h := ?_); rotate_left; (focus (((intro w hSw; (try dsimp only at hSw); go_simp) <;> (try with_reducible rfl)); done)); (try simp only [Act.put, p1_, p2_, p3_]))); ((refine tk_ (i := 1) (v := ?_) (y := Or.inl ⟨by rfl, ?_⟩) (h := ?_); rotate_left; (focus (((intro w hSw; (try dsimp only at hSw); go_simp) <;> (try with_reducible rfl)); done)); (try simp only [Act.put, p1_, p2_, p3_]))); ((refine tk_ (i := 2) (v := ?_) (y := Or.inl ⟨by rfl, ?_⟩) (h := ?_); rotate_left; (focus (((intro w hSw; (try dsimp only at hSw); go_simp) <;> (try with_reducible rfl)); done)); (try simp only [Act.put, p1_, p2_, p3_]))); ((refine tk_ (i := 3) (v := ?_) (y := Or.inl ⟨by rfl, ?_⟩) (h := ?_); rotate_left; (focus (((intro w hSw; (try dsimp only at hSw); go_simp) <;> (try with_reducible rfl)); done)); (try simp only [Act.put, p1_, p2_, p3_]))); ((refine tk_ (i := 4) (v := ?_) (y := Or.inl ⟨by rfl, ?_⟩) (h := ?_); rotate_left; (focus (((intro w hSw; (try dsimp only at hSw); go_simp) <;> (try with_reducible rfl)); done)); (try simp only [Act.put, p1_, p2_, p3_]))); ((refine tk_ (i := 5) (v := ?_) (y := Or.inl ⟨by rfl, ?_⟩) (h := ?_); rotate_left; (focus (((intro w hSw; (try dsimp only at hSw); go_simp) <;> (try with_reducible rfl)); done)); (try simp only [Act.put, p1_, p2_, p3_]))); ((refine tk_ (i := 7) (v := ?_) (y := Or.inl ⟨by rfl, ?_⟩) (h := ?_); rotate_left; (focus (((intro w hSw; (try dsimp only at hSw); go_simp) <;> (try with_reducible rfl)); done)); (try simp only [Act.put, p1_, p2_, p3_]))); ((refine tk_ (i := 8) (v := ?_) (y := Or.inl ⟨by rfl, ?_⟩) (h := ?_); rotate_left; (focus (((intro w hSw; (try dsimp only at hSw); go_simp) <;> (try with_reducible rfl)); done)); (try simp only [Act.put, p1_, p2_, p3_]))); ((refine tk_ (i := 9) (v := ?_) (y := Or.inl ⟨by rfl, ?_⟩) (h := ?_); rotate_left; (focus (((intro w hSw; (try dsimp only at hSw); go_simp) <;> (try with_reducible rfl)); done)); (try simp only [Act.put, p1_, p2_, p3_]))); ((refine tk_ (i := 10) (v := ?_) (y := Or.inl ⟨by rfl, ?_⟩) (h := ?_); rotate_left; (focus (((intro w hSw; (try dsimp only at hSw); go_simp) <;> (try with_reducible rfl)); done)); (try simp only [Act.put, p1_, p2_, p3_]))); ((refine tk_ (i := 11) (v := ?_) (y := Or.inl ⟨by rfl, ?_⟩) (h := ?_); rotate_left; (focus (((intro w hSw; (try dsimp only at hSw); go_simp) <;> (try with_reducible rfl)); done)); (try simp only [Act.put, p1_, p2_, p3_]))); ((refine tk_ (i := 12) (v := ?_) (y := Or.inl ⟨by rfl, ?_⟩) (h := ?_); rotate_left; (focus (((intro w hSw; (try dsimp only at hSw); go_simp) <;> (try with_reducible rfl)); done)); (try simp only [Act.put, p1_, p2_, p3_]))); ((refine wpAnyH_ready (rs := [6]) (by kernel_rfl) (by simp) ?_; refine AllReadyH.cons (by simp only [e1_, e2_, e3_]; try rfl) (fun K hK => ?_) AllReadyH.nil; go_simp; (go_at_call 117; (refine (impl_at_tb R C i t A1 n1 cap1 ((u.f)) z HQI.out _ (B := B) (by have hm := hW.m; (with_reducible (repeat (first | exact hm | refine OR.drew ?_ | refine OR.drewN ?_ _ | refine OR.alloc ?_ _ | refine OR.b_ ?_ | refine OR.l_ ?_)))) (by omega) (by omega) (by omega) (by omega)).mono ?_; rintro e w1 ⟨rfl, hb1⟩; (have hW_1 : WB w1 B b R C ((u.f)) ((u.g)) ((s.h)) false A1 n1 cap1 A2 n2 cap2 A3 n3 cap3 := (by (with_reducible (repeat (first | exact hW | refine WB.b_ ?_ | refine WB.drew ?_ | refine WB.drewN ?_ _ | refine WB.alloc ?_ _))))); (have hbw_1 : Below B w w1 := Kw); clear hW hbw hb1; clear c0 c1 c2 c3 c4 c5 c6 c7 c8 c9 cf cl; (have hW := hW_1); (have hbw := hbw_1); clear hW_1 hbw_1; obtain ⟨c0, c1, c2, c3, c4, c5, c6, c7, c8, c9, cf, cl⟩ := hW.cells)); (try go_wp2_with fail); refine hK.out _ _ ?_ (fun hHeld => ?_); (focus ((try dsimp only); (go_keep))); clear hK K; (try simp only [Act.put, p1_, p2_, p3_]))); ((refine wpAnyH_ready (rs := [13]) (by kernel_rfl) (by simp) ?_; refine AllReadyH.cons (by simp only [e1_, e2_, e3_]; try rfl) (fun K hK => ?_) AllReadyH.nil; go_simp; (go_at_call 117; (refine (impl_at_tb R C t t A1 n1 cap1 ((u.f)) d HQP.out _ (B := B) (by have hm := hW.m; (with_reducible (repeat (first | exact hm | refine OR.drew ?_ | refine OR.drewN ?_ _ | refine OR.alloc ?_ _ | refine OR.b_ ?_ | refine OR.l_ ?_)))) (by omega) (by omega) (by omega) (by omega)).mono ?_; rintro e w1 ⟨rfl, hb1⟩; (have hW_1 : WB w1 B b R C ((u.f)) ((u.g)) ((s.h)) false A1 n1 cap1 A2 n2 cap2 A3 n3 cap3 := (by (with_reducible (repeat (first | exact hW | refine WB.b_ ?_ | refine WB.drew ?_ | refine WB.drewN ?_ _ | refine WB.alloc ?_ _))))); (have hbw_1 : Below B w w1 := Kw); clear hW hbw hb1; clear c0 c1 c2 c3 c4 c5 c6 c7 c8 c9 cf cl; (have hW := hW_1); (have hbw := hbw_1); clear hW_1 hbw_1; obtain ⟨c0, c1, c2, c3, c4, c5, c6, c7, c8, c9, cf, cl⟩ := hW.cells)); (try go_wp2_with fail); refine hK.out _ _ ?_ (fun hHeld => ?_); (focus ((try dsimp only); (go_keep))); clear hK K; (try simp only [Act.put, p1_, p2_, p3_]))); ((refine wpAnyH_ready (rs := [14]) (by kernel_rfl) (by simp) ?_; refine AllReadyH.cons (by simp only [e1_, e2_, e3_]; try rfl) (fun K hK => ?_) AllReadyH.nil; go_simp; (go_at_call 147; refine (HDV.out _).mono ?_; rintro e w1 ⟨rfl, rfl⟩); (try go_wp2_with fail); refine hK.out _ _ ?_ (fun hHeld => ?_); (focus ((try dsimp only); (go_keep))); clear hK K; (try simp only [Act.put, p1_, p2_, p3_]))); ((refine tk_ (i := 15) (v := ?_) (y := Or.inl ⟨by rfl, ?_⟩) (h := ?_); rotate_left; (focus (((intro w hSw; (try dsimp only at hSw); go_simp) <;> (try with_reducible rfl)); done)); (try simp only [Act.put, p1_, p2_, p3_]))); ((refine tk_ (i := 16) (v := ?_) (y := Or.inl ⟨by rfl, ?_⟩) (h := ?_); rotate_left; (focus (((intro w hSw; (try dsimp only at hSw); go_simp) <;> (try with_reducible rfl)); done)); (try simp only [Act.put, p1_, p2_, p3_]))); ((refine tk_ (i := 17) (v := ?_) (y := Or.inl ⟨by rfl, ?_⟩) (h := ?_); rotate_left; (focus (((intro w hSw; (try dsimp only at hSw); go_simp) <;> (try with_reducible rfl)); done)); (try simp only [Act.put, p1_, p2_, p3_]))); ((refine tk_ (i := 18) (v := ?_) (y := Or.inl ⟨by rfl, ?_⟩) (h := ?_); rotate_left; (focus (((intro w hSw; (try dsimp only at hSw); go_simp) <;> (try with_reducible rfl)); done)); (try simp only [Act.put, p1_, p2_, p3_]))); ((refine tk_ (i := 19) (v := ?_) (y := Or.inl ⟨by rfl, ?_⟩) (h := ?_); rotate_left; (focus (((intro w hSw; (try dsimp only at hSw); go_simp) <;> (try with_reducible rfl)); done)); (try simp only [Act.put, p1_, p2_, p3_]))); ((refine tk_ (i := 20) (v := ?_) (y := Or.inl ⟨by rfl, ?_⟩) (h := ?_); rotate_left; (focus (((intro w hSw; (try dsimp only at hSw); go_simp) <;> (try with_reducible rfl)); done)); (try simp only [Act.put, p1_, p2_, p3_]))); ((refine tk_ (i := 21) (v := ?_) (y := Or.inl ⟨by rfl, ?_⟩) (h := ?_); rotate_left; (focus (((intro w hSw; (try dsimp only at hSw); go_simp) <;> (try with_reducible rfl)); done)); (try simp only [Act.put, p1_, p2_, p3_]))); (refine wpAnyH_done (by kernel_rfl) ?_ _))
                go_wp2_with fail
                refine (impl_add B b R C i t u.f u.g s.h (-y) _ (by ((with_reducible refine WB.wk (A := A1) (n := n1) (cap := cap1) (A2 := A2) (n2 := n2) (cap2 := cap2) (A3 := A3) (n3 := n3) (cap3 := cap3) ?_); (with_reducible (repeat (first | exact hW | refine WB.b_ ?_ | refine WB.drew ?_ | refine WB.drewN ?_ _ | refine WB.alloc ?_ _))))) hlt ht HIT.out ⟨hq1, hq2⟩ HUO.out.f HUO.out.g (by omega) hC hR).mono ?_
                rintro e w1 ⟨rfl, hb1, hres⟩
                (have hbw_1 : Below B w w1 := Below.trans Kw hb1); clear hbw hW; clear c0 c1 c2 c3 c4 c5 c6 c7 c8 c9 cf cl; (have hbw := hbw_1); clear hbw_1
                rcases hres with ⟨hok, hK⟩ | ⟨hno, f', g', hK⟩
                · have HOK := Lib.hid hok
                  have hK : WK w1 B b R C ((u.add i t (-y)).f) ((u.add i t (-y)).g) (s.h) false := hK
                  obtain ⟨A1, n1, cap1, A2, n2, cap2, A3, n3, cap3, hW⟩ := hK
                  clear hok
                  go_wp2_with fail
                  go_roundg (gk - 1)
                  case measure => omega
                  case rel => exact ⟨i + 1, by go_num, by omega, by omega, by omega, hbw, .inl ⟨u.add i t (-y), HST.out.symm, ⟨HOK.out.1, HOK.out.2⟩, by ((with_reducible refine WB.wk (A := A1) (n := n1) (cap := cap1) (A2 := A2) (n2 := n2) (cap2 := cap2) (A3 := A3) (n3 := n3) (cap3 := cap3) ?_); (with_reducible (repeat (first | exact hW | refine WB.b_ ?_ | refine WB.drew ?_ | refine WB.drewN ?_ _ | refine WB.alloc ?_ _))))⟩⟩
                · have HNO := Lib.hid (HBAD.out hno)
                  clear hno
                  obtain ⟨A1, n1, cap1, A2, n2, cap2, A3, n3, cap3, hW⟩ := hK
                  go_wp2_with fail
                  go_roundg (gk - 1)
                  case measure => omega
                  case rel => exact ⟨i + 1, by go_num, by omega, by omega, by omega, hbw, .inr ⟨HNO.out, f', g', s.h, by ((with_reducible refine WB.wk (A := A1) (n := n1) (cap := cap1) (A2 := A2) (n2 := n2) (cap2 := cap2) (A3 := A3) (n3 := n3) (cap3 := cap3) ?_); (with_reducible (repeat (first | exact hW | refine WB.b_ ?_ | refine WB.drew ?_ | refine WB.drewN ?_ _ | refine WB.alloc ?_ _))))⟩⟩
            · have hiR2 : i = R := by omega
              rw [hiR2] at HU
              clear hiR2
              go_wp2_with fail
              go_meet
              case rel => exact ⟨Kw, .inl ⟨u, HU.out, HUO.out, by ((with_reducible refine WB.wk (A := A1) (n := n1) (cap := cap1) (A2 := A2) (n2 := n2) (cap2 := cap2) (A3 := A3) (n3 := n3) (cap3 := cap3) ?_); (with_reducible (repeat (first | exact hW | refine WB.b_ ?_ | refine WB.drew ?_ | refine WB.drewN ?_ _ | refine WB.alloc ?_ _))))⟩⟩
          · have HNO := Lib.hid hno
            clear hno
            obtain ⟨A1, n1, cap1, A2, n2, cap2, A3, n3, cap3, hW⟩ := hK
            obtain ⟨c0, c1, c2, c3, c4, c5, c6, c7, c8, c9, cf, cl⟩ := hW.cells
            by_cases hlt : i < R
            · go_wp2_with fail
              go_meet
              case rel => exact ⟨Kw, .inr ⟨HNO.out, f', g', h', by ((with_reducible refine WB.wk (A := A1) (n := n1) (cap := cap1) (A2 := A2) (n2 := n2) (cap2 := cap2) (A3 := A3) (n3 := n3) (cap3 := cap3) ?_); (with_reducible (repeat (first | exact hW | refine WB.b_ ?_ | refine WB.drew ?_ | refine WB.drewN ?_ _ | refine WB.alloc ?_ _))))⟩⟩
            · go_wp2_with fail
              go_meet
              case rel => exact ⟨Kw, .inr ⟨HNO.out, f', g', h', by ((with_reducible refine WB.wk (A := A1) (n := n1) (cap := cap1) (A2 := A2) (n2 := n2) (cap2 := cap2) (A3 := A3) (n3 := n3) (cap3 := cap3) ?_); (with_reducible (repeat (first | exact hW | refine WB.b_ ?_ | refine WB.drew ?_ | refine WB.drewN ?_ _ | refine WB.alloc ?_ _))))⟩⟩
      case rest => as_aux_lemma =>
        clear c0 c1 c2 c3 c4 c5 c6 c7 c8 c9 cf cl
        clear hW hbw
        obtain ⟨hbw, hrel⟩ := hcut
        rcases hrel with ⟨u, hu, hU0, hK⟩ | ⟨hno, f', g', h', hK⟩
        · have hSB : sfB R t s = ⟨u.f, u.g, s.h⟩ := by unfold sfB; rw [← hu]; rfl
          have HGB : Hid (SGD R C ⟨u.f, u.g, s.h⟩) := Lib.hid ⟨⟨hU0.f, hU0.g, HG.out.ok.h⟩, by rw [← hSB]; exact sfB_nb HG.out.nb⟩
          have HR3 : Hid (X = sfD R C t (sfC C t ⟨u.f, u.g, s.h⟩)) := Lib.hid (by rw [← hSB]; exact HR2.out)
          have HP3 : Hid (u.f t t ≠ 0) := Lib.hid (by rw [hu, swS_p]; exact HP.out)
          clear hu hU0 hSB HG HR2 HP HSG
          obtain ⟨s3, hs3⟩ : ∃ s3 : SS, s3 = ⟨u.f, u.g, s.h⟩ := ⟨_, rfl⟩
          rw [← hs3] at HGB HR3
          have hK_1 : WK wc B b R C s3.f s3.g s3.h false := by rw [hs3]; exact hK
          have HP : Hid (s3.col.f t t ≠ 0) := Lib.hid (by rw [hs3]; exact HP3.out)
          clear HP3 hs3 hK s u
          have hK := hK_1
          clear hK_1
          obtain ⟨s, HSE⟩ : ∃ s, Hid (s = s3) := ⟨s3, Lib.hid rfl⟩
          rw [← HSE.out] at HGB HR3 hK HP
          clear HSE
          have HSG := Lib.hid HGB.out.col
          obtain ⟨A1, n1, cap1, A2, n2, cap2, A3, n3, cap3, hW⟩ := hK
          obtain ⟨c0, c1, c2, c3, c4, c5, c6, c7, c8, c9, cf, cl⟩ := hW.cells
          go_upto_block 2 with fail
          go_cut [] from 21 to 237 (fun wc => Below B w wc ∧ ((∃ u, u = swS t t t s.col (C - t) ∧ u.OK C R ∧ WK wc B b R C (tp u.f) s.g (tp u.g) false) ∨ (¬ (sfC C t s).OK R C ∧ ∃ f g h, WK wc B b R C f g h true)))
          case first => as_aux_lemma =>
            go_wp2_with fail
            go_loopg [13] (C + 1) (fun k vi wr => ∃ (i : Nat), vi = .int .i64 i ∧ t + 1 ≤ i ∧ i ≤ C ∧ C - i < k ∧ Below B w wr ∧ ((∃ u, u = swS t t t s.col (i - t) ∧ u.OK C R ∧ WK wr B b R C (tp u.f) s.g (tp u.g) false) ∨ (¬ (sfC C t s).OK R C ∧ ∃ f g h, WK wr B b R C f g h true)))
            case atStart => exact ⟨t + 1, by go_num, Nat.le_refl _, by omega, by omega, hbw, .inl ⟨s.col, by rw [show t + 1 - t = 0 + 1 by omega, sw_skip (.inl (by omega))]; rfl, HSG.out.ok, by show WK _ B b R C s.f s.g s.h false; ((with_reducible refine WB.wk (A := A1) (n := n1) (cap := cap1) (A2 := A2) (n2 := n2) (cap2 := cap2) (A3 := A3) (n3 := n3) (cap3 := cap3) ?_); (with_reducible (repeat (first | exact hW | refine WB.b_ ?_ | refine WB.drew ?_ | refine WB.drewN ?_ _ | refine WB.alloc ?_ _))))⟩⟩
            case round => as_aux_lemma =>
              clear hW hbw
              clear c0 c1 c2 c3 c4 c5 c6 c7 c8 c9 cf cl
              obtain ⟨i, rfl, hti, hiR, hk3, hbw, hrel⟩ := hrel
              rcases hrel with ⟨u, hu, hU0, hK⟩ | ⟨hno, f', g', h', hK⟩
              · obtain ⟨A1, n1, cap1, A2, n2, cap2, A3, n3, cap3, hW⟩ := hK
                have HU := Lib.hid hu
                have HUO := Lib.hid hU0
                clear hu hU0
                obtain ⟨c0, c1, c2, c3, c4, c5, c6, c7, c8, c9, cf, cl⟩ := hW.cells
                by_cases hlt : i < C
                · have hsub : i + 1 - t = (i - t) + 1 := by omega
                  have hst : t + (i - t) = i := by omega
                  have hit : i ≠ t := by omega
                  have hzn : Num (s.col.f i t) := HSG.out.ok.f i t hlt ht
                  have hdn : Num (s.col.f t t) := HSG.out.ok.f t t htC ht
                  have hqi : u.f i t = s.col.f i t := by rw [HU.out, swS_late t _ (by omega)]
                  have hqp : u.f t t = s.col.f t t := by rw [HU.out, swS_p]
                  by_cases hz : s.col.f i t = 0
                  · have HS : Hid (u = swS t t t s.col (i + 1 - t)) := Lib.hid (by rw [hsub, sw_skip (.inr (by rw [hst]; exact hz))]; exact HU.out)
                    have HZ : Hid (u.f i t = 0) := Lib.hid (by rw [hqi, hz])
                    clear hz hqi hqp hsub hst hzn hdn hit
                    go_wp2_with fail
                    (refine (impl_at_tb R C t i A1 n1 cap1 ((tp u.f)) 0 HZ.out _ (B := B) (by have hm := hW.m; (with_reducible (repeat (first | exact hm | refine OR.drew ?_ | refine OR.drewN ?_ _ | refine OR.alloc ?_ _ | refine OR.b_ ?_ | refine OR.l_ ?_)))) (by omega) (by omega) (by omega) (by omega)).mono ?_; rintro e w1 ⟨rfl, hb1⟩; (have hW_1 : WB w1 B b R C ((tp u.f)) ((s.g)) ((tp u.g)) false A1 n1 cap1 A2 n2 cap2 A3 n3 cap3 := (by (with_reducible (repeat (first | exact hW | refine WB.b_ ?_ | refine WB.drew ?_ | refine WB.drewN ?_ _ | refine WB.alloc ?_ _))))); (have hbw_1 : Below B w w1 := Kw); clear hW hbw hb1; clear c0 c1 c2 c3 c4 c5 c6 c7 c8 c9 cf cl; (have hW := hW_1); (have hbw := hbw_1); clear hW_1 hbw_1; obtain ⟨c0, c1, c2, c3, c4, c5, c6, c7, c8, c9, cf, cl⟩ := hW.cells)
                    go_wp2_with fail
                    go_roundg (gk - 1)
                    case measure => omega
                    case rel => exact ⟨i + 1, by go_num, by omega, by omega, by omega, hbw, .inl ⟨u, HS.out, HUO.out, by ((with_reducible refine WB.wk (A := A1) (n := n1) (cap := cap1) (A2 := A2) (n2 := n2) (cap2 := cap2) (A3 := A3) (n3 := n3) (cap3 := cap3) ?_); (with_reducible (repeat (first | exact hW | refine WB.b_ ?_ | refine WB.drew ?_ | refine WB.drewN ?_ _ | refine WB.alloc ?_ _))))⟩⟩
                  · have HST : Hid (swS t t t s.col (i + 1 - t) = u.add i t (-(s.col.f i t / s.col.f t t))) := Lib.hid (by rw [hsub, sw_add (by rw [hst]; exact hit) (by rw [hst]; exact hz), hst, ← HU.out])
                    have hqn := (ediv_bd hzn HP.out).neg
                    have HDV : Hid (∀ w', Calls Try.prog 147 #[.int .i64 (s.col.f i t), .int .i64 (s.col.f t t)] w' (IIE (s.col.f i t / s.col.f t t) (s.col.f i t % s.col.f t t) true w')) := Lib.hid (fun w' => impl_DivideFloor (s.col.f i t) (s.col.f t t) w' hzn hdn HP.out)
                    have HBAD : Hid (¬ okA C R u.f u.g i t (-(s.col.f i t / s.col.f t t)) → ¬ (sfC C t s).OK R C) := Lib.hid (fun hn hk => hn (by
                      have h5 : (swS t t t s.col (i + 1 - t)).OK C R := swS_back' HSG.out.nb (i + 1 - t) (C - t - (i + 1 - t)) (by rw [show i + 1 - t + (C - t - (i + 1 - t)) = C - t by omega]; exact hk.ofCol)
                      rw [HST.out] at h5
                      exact ⟨h5.f, h5.g⟩))
                    have hnz : (s.col.f i t != 0) = true := by simpa using hz
                    have HQI := Lib.hid hqi
                    have HQP := Lib.hid hqp
                    have HIT := Lib.hid hit
                    clear hz hqi hqp hsub hst hzn hdn hit
                    generalize s.col.f i t / s.col.f t t = y at *
                    generalize s.col.f i t % s.col.f t t = y2 at *
                    generalize s.col.f i t = z at *
                    generalize hd1 : s.col.f t t = d at HQP HDV
                    clear hd1
                    obtain ⟨hq1, hq2⟩ := hqn
                    go_wp2_with fail
                    (refine (impl_at_tb R C t i A1 n1 cap1 ((tp u.f)) z HQI.out _ (B := B) (by have hm := hW.m; (with_reducible (repeat (first | exact hm | refine OR.drew ?_ | refine OR.drewN ?_ _ | refine OR.alloc ?_ _ | refine OR.b_ ?_ | refine OR.l_ ?_)))) (by omega) (by omega) (by omega) (by omega)).mono ?_; rintro e w1 ⟨rfl, hb1⟩; (have hW_1 : WB w1 B b R C ((tp u.f)) ((s.g)) ((tp u.g)) false A1 n1 cap1 A2 n2 cap2 A3 n3 cap3 := (by (with_reducible (repeat (first | exact hW | refine WB.b_ ?_ | refine WB.drew ?_ | refine WB.drewN ?_ _ | refine WB.alloc ?_ _))))); (have hbw_1 : Below B w w1 := Kw); clear hW hbw hb1; clear c0 c1 c2 c3 c4 c5 c6 c7 c8 c9 cf cl; (have hW := hW_1); (have hbw := hbw_1); clear hW_1 hbw_1; obtain ⟨c0, c1, c2, c3, c4, c5, c6, c7, c8, c9, cf, cl⟩ := hW.cells)
                    go_wp2_with fail
                    ((refine wp_region_held_drew (S := (fun w' => w'.cell? ⟨b, 0, none⟩ = some (.int .i64 R) ∧ w'.cell? ⟨b, 1, none⟩ = some (.int .i64 C) ∧ w'.cell? ⟨b, 2, none⟩ = some (.slice A1 n1 cap1))) (by kernel_rfl) ?_ (fun hHeld => ?_)); ((focus ((try dsimp only); (go_keep)))); ((refine tk_ (i := 0) (v := ?_) (y := Or.inl ⟨by rfl, ?_⟩) (h := ?_); rotate_left; (focus (((intro w hSw; (try dsimp only at hSw); go_simp) <;> (try with_reducible rfl)); done)); (try simp only [Act.put, p1_, p2_, p3_]))); ((refine tk_ (i := 1) (v := ?_) (y := Or.inl ⟨by rfl, ?_⟩) (h := ?_); rotate_left; (focus (((intro w hSw; (try dsimp only at hSw); go_simp) <;> (try with_reducible rfl)); done)); (try simp only [Act.put, p1_, p2_, p3_]))); ((refine tk_ (i := 2) (v := ?_) (y := Or.inl ⟨by rfl, ?_⟩) (h := ?_); rotate_left; (focus (((intro w hSw; (try dsimp only at hSw); go_simp) <;> (try with_reducible rfl)); done)); (try simp only [Act.put, p1_, p2_, p3_]))); ((refine tk_ (i := 3) (v := ?_) (y := Or.inl ⟨by rfl, ?_⟩) (h := ?_); rotate_left; (focus (((intro w hSw; (try dsimp only at hSw); go_simp) <;> (try with_reducible rfl)); done)); (try simp only [Act.put, p1_, p2_, p3_]))); ((refine tk_ (i := 4) (v := ?_) (y := Or.inl ⟨by rfl, ?_⟩) (h := ?_); rotate_left; (focus (((intro w hSw; (try dsimp only at hSw); go_simp) <;> (try with_reducible rfl)); done)); (try simp only [Act.put, p1_, p2_, p3_]))); ((refine tk_ (i := 5) (v := ?_) (y := Or.inl ⟨by rfl, ?_⟩) (h := ?_); rotate_left; (focus (((intro w hSw; (try dsimp only at hSw); go_simp) <;> (try with_reducible rfl)); done)); (try simp only [Act.put, p1_, p2_, p3_]))); ((refine tk_ (i := 7) (v := ?_) (y := Or.inl ⟨by rfl, ?_⟩) (h := ?_); rotate_left; (focus (((intro w hSw; (try dsimp only at hSw); go_simp) <;> (try with_reducible rfl)); done)); (try simp only [Act.put, p1_, p2_, p3_]))); ((refine tk_ (i := 8) (v := ?_) (y := Or.inl ⟨by rfl, ?_⟩) (h := ?_); rotate_left; (focus (((intro w hSw; (try dsimp only at hSw); go_simp) <;> (try with_reducible rfl)); done)); (try simp only [Act.put, p1_, p2_, p3_]))); ((refine tk_ (i := 9) (v := ?_) (y := Or.inl ⟨by rfl, ?_⟩) (h := ?_); rotate_left; (focus (((intro w hSw; (try dsimp only at hSw); go_simp) <;> (try with_reducible rfl)); done)); (try simp only [Act.put, p1_, p2_, p3_]))); ((refine tk_ (i := 10) (v := ?_) (y := Or.inl ⟨by rfl, ?_⟩) (h := ?_); rotate_left; (focus (((intro w hSw; (try dsimp only at hSw); go_simp) <;> (try with_reducible rfl)); done)); (try simp only [Act.put, p1_, p2_, p3_]))); ((refine tk_ (i := 11) (v := ?_) (y := Or.inl ⟨by rfl, ?_⟩) (h := ?_); rotate_left; (focus (((intro w hSw; (try dsimp only at hSw); go_simp) <;> (try with_reducible rfl)); done)); (try simp only [Act.put, p1_, p2_, p3_]))); ((refine tk_ (i := 12) (v := ?_) (y := Or.inl ⟨by rfl, ?_⟩) (h := ?_); rotate_left; (focus (((intro w hSw; (try dsimp only at hSw); go_simp) <;> (try with_reducible rfl)); done)); (try simp only [Act.put, p1_, p2_, p3_]))); ((refine wpAnyH_ready (rs := [6]) (by kernel_rfl) (by simp) ?_; refine AllReadyH.cons (by simp only [e1_, e2_, e3_]; try rfl) (fun K hK => ?_) AllReadyH.nil; go_simp; (go_at_call 117; (refine (impl_at_tb R C t i A1 n1 cap1 ((tp u.f)) z HQI.out _ (B := B) (by have hm := hW.m; (with_reducible (repeat (first | exact hm | refine OR.drew ?_ | refine OR.drewN ?_ _ | refine OR.alloc ?_ _ | refine OR.b_ ?_ | refine OR.l_ ?_)))) (by omega) (by omega) (by omega) (by omega)).mono ?_; rintro e w1 ⟨rfl, hb1⟩; (have hW_1 : WB w1 B b R C ((tp u.f)) ((s.g)) ((tp u.g)) false A1 n1 cap1 A2 n2 cap2 A3 n3 cap3 := (by (with_reducible (repeat (first | exact hW | refine WB.b_ ?_ | refine WB.drew ?_ | refine WB.drewN ?_ _ | refine WB.alloc ?_ _))))); (have hbw_1 : Below B w w1 := Kw); clear hW hbw hb1; clear c0 c1 c2 c3 c4 c5 c6 c7 c8 c9 cf cl; (have hW := hW_1); (have hbw := hbw_1); clear hW_1 hbw_1; obtain ⟨c0, c1, c2, c3, c4, c5, c6, c7, c8, c9, cf, cl⟩ := hW.cells)); (try go_wp2_with fail); refine hK.out _ _ ?_ (fun hHeld => ?_); (focus ((try dsimp only); (go_keep))); clear hK K; (try simp only [Act.put, p1_, p2_, p3_]))); ((refine wpAnyH_ready (rs := [13]) (by kernel_rfl) (by simp) ?_; refine AllReadyH.cons (by simp only [e1_, e2_, e3_]; try rfl) (fun K hK => ?_) AllReadyH.nil; go_simp; (go_at_call 117; (refine (impl_at_tb R C t t A1 n1 cap1 ((tp u.f)) d HQP.out _ (B := B) (by have hm := hW.m; (with_reducible (repeat (first | exact hm | refine OR.drew ?_ | refine OR.drewN ?_ _ | refine OR.alloc ?_ _ | refine OR.b_ ?_ | refine OR.l_ ?_)))) (by omega) (by omega) (by omega) (by omega)).mono ?_; rintro e w1 ⟨rfl, hb1⟩; (have hW_1 : WB w1 B b R C ((tp u.f)) ((s.g)) ((tp u.g)) false A1 n1 cap1 A2 n2 cap2 A3 n3 cap3 := (by (with_reducible (repeat (first | exact hW | refine WB.b_ ?_ | refine WB.drew ?_ | refine WB.drewN ?_ _ | refine WB.alloc ?_ _))))); (have hbw_1 : Below B w w1 := Kw); clear hW hbw hb1; clear c0 c1 c2 c3 c4 c5 c6 c7 c8 c9 cf cl; (have hW := hW_1); (have hbw := hbw_1); clear hW_1 hbw_1; obtain ⟨c0, c1, c2, c3, c4, c5, c6, c7, c8, c9, cf, cl⟩ := hW.cells)); (try go_wp2_with fail); refine hK.out _ _ ?_ (fun hHeld => ?_); (focus ((try dsimp only); (go_keep))); clear hK K; (try simp only [Act.put, p1_, p2_, p3_]))); ((refine wpAnyH_ready (rs := [14]) (by kernel_rfl) (by simp) ?_; refine AllReadyH.cons (by simp only [e1_, e2_, e3_]; try rfl) (fun K hK => ?_) AllReadyH.nil; go_simp; (go_at_call 147; refine (HDV.out _).mono ?_; rintro e w1 ⟨rfl, rfl⟩); (try go_wp2_with fail); refine hK.out _ _ ?_ (fun hHeld => ?_); (focus ((try dsimp only); (go_keep))); clear hK K; (try simp only [Act.put, p1_, p2_, p3_]))); ((refine tk_ (i := 15) (v := ?_) (y := Or.inl ⟨by rfl, ?_⟩) (h := ?_); rotate_left; (focus (((intro w hSw; (try dsimp only at hSw); go_simp) <;> (try with_reducible rfl)); done)); (try simp only [Act.put, p1_, p2_, p3_]))); ((refine tk_ (i := 16) (v := ?_) (y := Or.inl ⟨by rfl, ?_⟩) (h := ?_); rotate_left; (focus (((intro w hSw; (try dsimp only at hSw); go_simp) <;> (try with_reducible rfl)); done)); (try simp only [Act.put, p1_, p2_, p3_]))); ((refine tk_ (i := 17) (v := ?_) (y := Or.inl ⟨by rfl, ?_⟩) (h := ?_); rotate_left; (focus (((intro w hSw; (try dsimp only at hSw); go_simp) <;> (try with_reducible rfl)); done)); (try simp only [Act.put, p1_, p2_, p3_]))); ((refine tk_ (i := 18) (v := ?_) (y := Or.inl ⟨by rfl, ?_⟩) (h := ?_); rotate_left; (focus (((intro w hSw; (try dsimp only at hSw); go_simp) <;> (try with_reducible rfl)); done)); (try simp only [Act.put, p1_, p2_, p3_]))); ((refine tk_ (i := 19) (v := ?_) (y := Or.inl ⟨by rfl, ?_⟩) (h := ?_); rotate_left; (focus (((intro w hSw; (try dsimp only at hSw); go_simp) <;> (try with_reducible rfl)); done)); (try simp only [Act.put, p1_, p2_, p3_]))); ((refine tk_ (i := 20) (v := ?_) (y := Or.inl ⟨by rfl, ?_⟩) (h := ?_); rotate_left; (focus (((intro w hSw; (try dsimp only at hSw); go_simp) <;> (try with_reducible rfl)); done)); (try simp only [Act.put, p1_, p2_, p3_]))); ((refine tk_ (i := 21) (v := ?_) (y := Or.inl ⟨by rfl, ?_⟩) (h := ?_); rotate_left; (focus (((intro w hSw; (try dsimp only at hSw); go_simp) <;> (try with_reducible rfl)); done)); (try simp only [Act.put, p1_, p2_, p3_]))); (refine wpAnyH_done (by kernel_rfl) ?_ _))
                    go_wp2_with fail
                    refine (impl_cols_add B b R C i t (tp u.f) s.g (tp u.g) (-y) _ (by ((with_reducible refine WB.wk (A := A1) (n := n1) (cap := cap1) (A2 := A2) (n2 := n2) (cap2 := cap2) (A3 := A3) (n3 := n3) (cap3 := cap3) ?_); (with_reducible (repeat (first | exact hW | refine WB.b_ ?_ | refine WB.drew ?_ | refine WB.drewN ?_ _ | refine WB.alloc ?_ _))))) hlt htC HIT.out ⟨hq1, hq2⟩ (tp_ok HUO.out.f) (tp_ok HUO.out.g) (by omega) hC hR).mono ?_
                    rintro e w1 ⟨rfl, hb1, hres⟩
                    (have hbw_1 : Below B w w1 := Below.trans Kw hb1); clear hbw hW; clear c0 c1 c2 c3 c4 c5 c6 c7 c8 c9 cf cl; (have hbw := hbw_1); clear hbw_1
                    rcases hres with ⟨hok, hK⟩ | ⟨hno, f', g', h', hK⟩
                    · have HOK := Lib.hid hok
                      have hK : WK w1 B b R C (tp (u.add i t (-y)).f) (s.g) (tp (u.add i t (-y)).g) false := hK
                      obtain ⟨A1, n1, cap1, A2, n2, cap2, A3, n3, cap3, hW⟩ := hK
                      clear hok
                      go_wp2_with fail
                      go_roundg (gk - 1)
                      case measure => omega
                      case rel => exact ⟨i + 1, by go_num, by omega, by omega, by omega, hbw, .inl ⟨u.add i t (-y), HST.out.symm, ⟨HOK.out.1, HOK.out.2⟩, by ((with_reducible refine WB.wk (A := A1) (n := n1) (cap := cap1) (A2 := A2) (n2 := n2) (cap2 := cap2) (A3 := A3) (n3 := n3) (cap3 := cap3) ?_); (with_reducible (repeat (first | exact hW | refine WB.b_ ?_ | refine WB.drew ?_ | refine WB.drewN ?_ _ | refine WB.alloc ?_ _))))⟩⟩
                    · have HNO := Lib.hid (HBAD.out hno)
                      clear hno
                      obtain ⟨A1, n1, cap1, A2, n2, cap2, A3, n3, cap3, hW⟩ := hK
                      go_wp2_with fail
                      go_roundg (gk - 1)
                      case measure => omega
                      case rel => exact ⟨i + 1, by go_num, by omega, by omega, by omega, hbw, .inr ⟨HNO.out, f', g', h', by ((with_reducible refine WB.wk (A := A1) (n := n1) (cap := cap1) (A2 := A2) (n2 := n2) (cap2 := cap2) (A3 := A3) (n3 := n3) (cap3 := cap3) ?_); (with_reducible (repeat (first | exact hW | refine WB.b_ ?_ | refine WB.drew ?_ | refine WB.drewN ?_ _ | refine WB.alloc ?_ _))))⟩⟩
                · have hiR2 : i = C := by omega
                  rw [hiR2] at HU
                  clear hiR2
                  go_wp2_with fail
                  go_meet
                  case rel => exact ⟨Kw, .inl ⟨u, HU.out, HUO.out, by ((with_reducible refine WB.wk (A := A1) (n := n1) (cap := cap1) (A2 := A2) (n2 := n2) (cap2 := cap2) (A3 := A3) (n3 := n3) (cap3 := cap3) ?_); (with_reducible (repeat (first | exact hW | refine WB.b_ ?_ | refine WB.drew ?_ | refine WB.drewN ?_ _ | refine WB.alloc ?_ _))))⟩⟩
              · have HNO := Lib.hid hno
                clear hno
                obtain ⟨A1, n1, cap1, A2, n2, cap2, A3, n3, cap3, hW⟩ := hK
                obtain ⟨c0, c1, c2, c3, c4, c5, c6, c7, c8, c9, cf, cl⟩ := hW.cells
                by_cases hlt : i < C
                · go_wp2_with fail
                  go_meet
                  case rel => exact ⟨Kw, .inr ⟨HNO.out, f', g', h', by ((with_reducible refine WB.wk (A := A1) (n := n1) (cap := cap1) (A2 := A2) (n2 := n2) (cap2 := cap2) (A3 := A3) (n3 := n3) (cap3 := cap3) ?_); (with_reducible (repeat (first | exact hW | refine WB.b_ ?_ | refine WB.drew ?_ | refine WB.drewN ?_ _ | refine WB.alloc ?_ _))))⟩⟩
                · go_wp2_with fail
                  go_meet
                  case rel => exact ⟨Kw, .inr ⟨HNO.out, f', g', h', by ((with_reducible refine WB.wk (A := A1) (n := n1) (cap := cap1) (A2 := A2) (n2 := n2) (cap2 := cap2) (A3 := A3) (n3 := n3) (cap3 := cap3) ?_); (with_reducible (repeat (first | exact hW | refine WB.b_ ?_ | refine WB.drew ?_ | refine WB.drewN ?_ _ | refine WB.alloc ?_ _))))⟩⟩
          case rest => as_aux_lemma =>
            clear c0 c1 c2 c3 c4 c5 c6 c7 c8 c9 cf cl
            clear hW hbw
            obtain ⟨hbw, hrel⟩ := hcut
            rcases hrel with ⟨u, hu, hU0, hK⟩ | ⟨hno, f', g', h', hK⟩
            · have hSC : sfC C t s = ⟨tp u.f, s.g, tp u.g⟩ := by unfold sfC; rw [← hu]; rfl
              have HGC : Hid (SGD R C ⟨tp u.f, s.g, tp u.g⟩) := Lib.hid ⟨⟨tp_ok hU0.f, HGB.out.ok.g, tp_ok hU0.g⟩, by rw [← hSC]; exact sfC_nb HGB.out.nb⟩
              have HR4 : Hid (X = sfD R C t ⟨tp u.f, s.g, tp u.g⟩) := Lib.hid (by rw [← hSC]; exact HR3.out)
              have HP4 : Hid (u.f t t ≠ 0) := Lib.hid (by rw [hu, swS_p]; exact HP.out)
              clear hu hU0 hSC HGB HR3 HP HSG
              obtain ⟨s4, hs4⟩ : ∃ s4 : SS, s4 = ⟨tp u.f, s.g, tp u.g⟩ := ⟨_, rfl⟩
              rw [← hs4] at HGC HR4
              have hK_1 : WK wc B b R C s4.f s4.g s4.h false := by rw [hs4]; exact hK
              have HP : Hid (s4.f t t ≠ 0) := Lib.hid (by rw [hs4]; exact HP4.out)
              clear HP4 hs4 hK s u
              have hK := hK_1
              clear hK_1
              obtain ⟨s, HSE⟩ : ∃ s, Hid (s = s4) := ⟨s4, Lib.hid rfl⟩
              rw [← HSE.out] at HGC HR4 hK HP
              clear HSE
              obtain ⟨A1, n1, cap1, A2, n2, cap2, A3, n3, cap3, hW⟩ := hK
              obtain ⟨c0, c1, c2, c3, c4, c5, c6, c7, c8, c9, cf, cl⟩ := hW.cells
              go_upto_block 4 with fail
              go_cut [8] from 21 to 237 (fun v8 wc => ∃ lf : Bool, v8 = .bool lf ∧ (lf = false ↔ ∀ x, t < x → x < R → s.f x t = 0) ∧ Below B w wc ∧ WK wc B b R C s.f s.g s.h false)
              case first => as_aux_lemma =>
                go_wp2_with fail
                go_loopg [8, 17] (R + 1) (fun k v8 vi wr => ∃ (i : Nat) (lf : Bool), vi = .int .i64 i ∧ v8 = .bool lf ∧ t + 1 ≤ i ∧ i ≤ R ∧ R - i < k ∧ (lf = false ↔ ∀ x, t < x → x < i → s.f x t = 0) ∧ Below B w wr ∧ WK wr B b R C s.f s.g s.h false)
                case atStart => exact ⟨t + 1, false, by go_num, rfl, Nat.le_refl _, by omega, by omega, ⟨fun _ x a b => by omega, fun _ => rfl⟩, hbw, by ((with_reducible refine WB.wk (A := A1) (n := n1) (cap := cap1) (A2 := A2) (n2 := n2) (cap2 := cap2) (A3 := A3) (n3 := n3) (cap3 := cap3) ?_); (with_reducible (repeat (first | exact hW | refine WB.b_ ?_ | refine WB.drew ?_ | refine WB.drewN ?_ _ | refine WB.alloc ?_ _))))⟩
                case round => as_aux_lemma =>
                  clear hW hbw
                  clear c0 c1 c2 c3 c4 c5 c6 c7 c8 c9 cf cl
                  obtain ⟨i, lf, rfl, rfl, hti, hiR, hk3, hlf, hbw, hK⟩ := hrel
                  obtain ⟨A1, n1, cap1, A2, n2, cap2, A3, n3, cap3, hW⟩ := hK
                  obtain ⟨c0, c1, c2, c3, c4, c5, c6, c7, c8, c9, cf, cl⟩ := hW.cells
                  by_cases hlt : i < R
                  · rcases lf with _ | _
                    · have hzn := HGC.out.ok.f i t hlt htC
                      by_cases hz : s.f i t = 0
                      · have HL : Hid (∀ x, t < x → x < i + 1 → s.f x t = 0) := Lib.hid (fun x a b => (Nat.lt_or_ge x i).elim (fun h1 => hlf.1 rfl x a h1) (fun h1 => (show x = i by omega) ▸ hz))
                        have HZ := Lib.hid hz
                        clear hz hlf hzn
                        go_wp2_with fail
                        (refine (impl_at_tb R C i t A1 n1 cap1 ((s.f)) 0 HZ.out _ (B := B) (by have hm := hW.m; (with_reducible (repeat (first | exact hm | refine OR.drew ?_ | refine OR.drewN ?_ _ | refine OR.alloc ?_ _ | refine OR.b_ ?_ | refine OR.l_ ?_)))) (by omega) (by omega) (by omega) (by omega)).mono ?_; rintro e w1 ⟨rfl, hb1⟩; (have hW_1 : WB w1 B b R C ((s.f)) ((s.g)) ((s.h)) false A1 n1 cap1 A2 n2 cap2 A3 n3 cap3 := (by (with_reducible (repeat (first | exact hW | refine WB.b_ ?_ | refine WB.drew ?_ | refine WB.drewN ?_ _ | refine WB.alloc ?_ _))))); (have hbw_1 : Below B w w1 := Kw); clear hW hbw hb1; clear c0 c1 c2 c3 c4 c5 c6 c7 c8 c9 cf cl; (have hW := hW_1); (have hbw := hbw_1); clear hW_1 hbw_1; obtain ⟨c0, c1, c2, c3, c4, c5, c6, c7, c8, c9, cf, cl⟩ := hW.cells)
                        go_wp2_with fail
                        go_roundg (gk - 1)
                        case measure => omega
                        case rel => exact ⟨i + 1, false, by go_num, by first | rfl | simp, by omega, by omega, by omega, ⟨fun _ => HL.out, fun _ => rfl⟩, Kw, by ((with_reducible refine WB.wk (A := A1) (n := n1) (cap := cap1) (A2 := A2) (n2 := n2) (cap2 := cap2) (A3 := A3) (n3 := n3) (cap3 := cap3) ?_); (with_reducible (repeat (first | exact hW | refine WB.b_ ?_ | refine WB.drew ?_ | refine WB.drewN ?_ _ | refine WB.alloc ?_ _))))⟩
                      · have HL : Hid (¬ (∀ x, t < x → x < i + 1 → s.f x t = 0)) := Lib.hid (fun h => hz (h i (by omega) (by omega)))
                        have hnz : (s.f i t != 0) = true := by simpa using hz
                        clear hz hlf
                        generalize hv : s.f i t = z at *
                        have HZ := Lib.hid hv
                        clear hv
                        go_wp2_with fail
                        (refine (impl_at_tb R C i t A1 n1 cap1 ((s.f)) z HZ.out _ (B := B) (by have hm := hW.m; (with_reducible (repeat (first | exact hm | refine OR.drew ?_ | refine OR.drewN ?_ _ | refine OR.alloc ?_ _ | refine OR.b_ ?_ | refine OR.l_ ?_)))) (by omega) (by omega) (by omega) (by omega)).mono ?_; rintro e w1 ⟨rfl, hb1⟩; (have hW_1 : WB w1 B b R C ((s.f)) ((s.g)) ((s.h)) false A1 n1 cap1 A2 n2 cap2 A3 n3 cap3 := (by (with_reducible (repeat (first | exact hW | refine WB.b_ ?_ | refine WB.drew ?_ | refine WB.drewN ?_ _ | refine WB.alloc ?_ _))))); (have hbw_1 : Below B w w1 := Kw); clear hW hbw hb1; clear c0 c1 c2 c3 c4 c5 c6 c7 c8 c9 cf cl; (have hW := hW_1); (have hbw := hbw_1); clear hW_1 hbw_1; obtain ⟨c0, c1, c2, c3, c4, c5, c6, c7, c8, c9, cf, cl⟩ := hW.cells)
                        go_wp2_with fail
                        go_roundg (gk - 1)
                        case measure => omega
                        case rel => exact ⟨i + 1, true, by go_num, by first | rfl | (simp; done) | (rw [hnz]), by omega, by omega, by omega, ⟨fun h => Bool.noConfusion h, fun h => absurd h HL.out⟩, Kw, by ((with_reducible refine WB.wk (A := A1) (n := n1) (cap := cap1) (A2 := A2) (n2 := n2) (cap2 := cap2) (A3 := A3) (n3 := n3) (cap3 := cap3) ?_); (with_reducible (repeat (first | exact hW | refine WB.b_ ?_ | refine WB.drew ?_ | refine WB.drewN ?_ _ | refine WB.alloc ?_ _))))⟩
                    · have HL : Hid (¬ (∀ x, t < x → x < i + 1 → s.f x t = 0)) := Lib.hid (fun h => Bool.noConfusion (hlf.2 fun x a b => h x a (by omega)))
                      clear hlf
                      go_wp2_with fail
                      go_roundg (gk - 1)
                      case measure => omega
                      case rel => exact ⟨i + 1, true, by go_num, by first | rfl | simp, by omega, by omega, by omega, ⟨fun h => Bool.noConfusion h, fun h => absurd h HL.out⟩, Kw, by ((with_reducible refine WB.wk (A := A1) (n := n1) (cap := cap1) (A2 := A2) (n2 := n2) (cap2 := cap2) (A3 := A3) (n3 := n3) (cap3 := cap3) ?_); (with_reducible (repeat (first | exact hW | refine WB.b_ ?_ | refine WB.drew ?_ | refine WB.drewN ?_ _ | refine WB.alloc ?_ _))))⟩
                  · have hiE : i = R := by omega
                    rw [hiE] at hlf
                    have HL := Lib.hid hlf
                    clear hlf hiE
                    go_wp2_with fail
                    go_meet
                    case rel => exact ⟨lf, rfl, HL.out, Kw, by ((with_reducible refine WB.wk (A := A1) (n := n1) (cap := cap1) (A2 := A2) (n2 := n2) (cap2 := cap2) (A3 := A3) (n3 := n3) (cap3 := cap3) ?_); (with_reducible (repeat (first | exact hW | refine WB.b_ ?_ | refine WB.drew ?_ | refine WB.drewN ?_ _ | refine WB.alloc ?_ _))))⟩
              case rest => as_aux_lemma =>
                clear c0 c1 c2 c3 c4 c5 c6 c7 c8 c9 cf cl
                clear hbw hW
                obtain ⟨lf, rfl, hlf0, hbw, hK⟩ := hcut
                have HLF := Lib.hid hlf0
                clear hlf0
                obtain ⟨A1, n1, cap1, A2, n2, cap2, A3, n3, cap3, hW⟩ := hK
                obtain ⟨c0, c1, c2, c3, c4, c5, c6, c7, c8, c9, cf, cl⟩ := hW.cells
                go_upto_block 6 with fail
                go_cut [8] from 21 to 237 (fun v8 wc => ∃ lf : Bool, v8 = .bool lf ∧ (lf = false ↔ (∀ x, t < x → x < R → s.f x t = 0) ∧ ∀ y, t < y → y < C → s.f t y = 0) ∧ Below B w wc ∧ WK wc B b R C s.f s.g s.h false)
                case first => as_aux_lemma =>
                  go_wp2_with fail
                  go_loopg [8, 18] (C + 1) (fun k v8 vi wr => ∃ (i : Nat) (lf : Bool), vi = .int .i64 i ∧ v8 = .bool lf ∧ t + 1 ≤ i ∧ i ≤ C ∧ C - i < k ∧ (lf = false ↔ (∀ x, t < x → x < R → s.f x t = 0) ∧ ∀ y, t < y → y < i → s.f t y = 0) ∧ Below B w wr ∧ WK wr B b R C s.f s.g s.h false)
                  case atStart => exact ⟨t + 1, lf, by go_num, rfl, Nat.le_refl _, by omega, by omega, ⟨fun h => ⟨HLF.out.1 h, fun y a b => by omega⟩, fun h => HLF.out.2 h.1⟩, hbw, by ((with_reducible refine WB.wk (A := A1) (n := n1) (cap := cap1) (A2 := A2) (n2 := n2) (cap2 := cap2) (A3 := A3) (n3 := n3) (cap3 := cap3) ?_); (with_reducible (repeat (first | exact hW | refine WB.b_ ?_ | refine WB.drew ?_ | refine WB.drewN ?_ _ | refine WB.alloc ?_ _))))⟩
                  case round => as_aux_lemma =>
                    clear hW hbw
                    clear c0 c1 c2 c3 c4 c5 c6 c7 c8 c9 cf cl
                    obtain ⟨i, lf, rfl, rfl, hti, hiR, hk3, hlf, hbw, hK⟩ := hrel
                    obtain ⟨A1, n1, cap1, A2, n2, cap2, A3, n3, cap3, hW⟩ := hK
                    obtain ⟨c0, c1, c2, c3, c4, c5, c6, c7, c8, c9, cf, cl⟩ := hW.cells
                    by_cases hlt : i < C
                    · rcases lf with _ | _
                      · have hzn := HGC.out.ok.f t i ht hlt
                        by_cases hz : s.f t i = 0
                        · have HL : Hid ((∀ x, t < x → x < R → s.f x t = 0) ∧ ∀ y, t < y → y < i + 1 → s.f t y = 0) := Lib.hid ⟨(hlf.1 rfl).1, fun x a b => (Nat.lt_or_ge x i).elim (fun h1 => (hlf.1 rfl).2 x a h1) (fun h1 => (show x = i by omega) ▸ hz)⟩
                          have HZ := Lib.hid hz
                          clear hz hlf hzn
                          go_wp2_with fail
                          (refine (impl_at_tb R C t i A1 n1 cap1 ((s.f)) 0 HZ.out _ (B := B) (by have hm := hW.m; (with_reducible (repeat (first | exact hm | refine OR.drew ?_ | refine OR.drewN ?_ _ | refine OR.alloc ?_ _ | refine OR.b_ ?_ | refine OR.l_ ?_)))) (by omega) (by omega) (by omega) (by omega)).mono ?_; rintro e w1 ⟨rfl, hb1⟩; (have hW_1 : WB w1 B b R C ((s.f)) ((s.g)) ((s.h)) false A1 n1 cap1 A2 n2 cap2 A3 n3 cap3 := (by (with_reducible (repeat (first | exact hW | refine WB.b_ ?_ | refine WB.drew ?_ | refine WB.drewN ?_ _ | refine WB.alloc ?_ _))))); (have hbw_1 : Below B w w1 := Kw); clear hW hbw hb1; clear c0 c1 c2 c3 c4 c5 c6 c7 c8 c9 cf cl; (have hW := hW_1); (have hbw := hbw_1); clear hW_1 hbw_1; obtain ⟨c0, c1, c2, c3, c4, c5, c6, c7, c8, c9, cf, cl⟩ := hW.cells)
                          go_wp2_with fail
                          go_roundg (gk - 1)
                          case measure => omega
                          case rel => exact ⟨i + 1, false, by go_num, by first | rfl | simp, by omega, by omega, by omega, ⟨fun _ => HL.out, fun _ => rfl⟩, Kw, by ((with_reducible refine WB.wk (A := A1) (n := n1) (cap := cap1) (A2 := A2) (n2 := n2) (cap2 := cap2) (A3 := A3) (n3 := n3) (cap3 := cap3) ?_); (with_reducible (repeat (first | exact hW | refine WB.b_ ?_ | refine WB.drew ?_ | refine WB.drewN ?_ _ | refine WB.alloc ?_ _))))⟩
                        · have HL : Hid (¬ ((∀ x, t < x → x < R → s.f x t = 0) ∧ ∀ y, t < y → y < i + 1 → s.f t y = 0)) := Lib.hid (fun h => hz (h.2 i (by omega) (by omega)))
                          have hnz : (s.f t i != 0) = true := by simpa using hz
                          clear hz hlf
                          generalize hv : s.f t i = z at *
                          have HZ := Lib.hid hv
                          clear hv
                          go_wp2_with fail
                          (refine (impl_at_tb R C t i A1 n1 cap1 ((s.f)) z HZ.out _ (B := B) (by have hm := hW.m; (with_reducible (repeat (first | exact hm | refine OR.drew ?_ | refine OR.drewN ?_ _ | refine OR.alloc ?_ _ | refine OR.b_ ?_ | refine OR.l_ ?_)))) (by omega) (by omega) (by omega) (by omega)).mono ?_; rintro e w1 ⟨rfl, hb1⟩; (have hW_1 : WB w1 B b R C ((s.f)) ((s.g)) ((s.h)) false A1 n1 cap1 A2 n2 cap2 A3 n3 cap3 := (by (with_reducible (repeat (first | exact hW | refine WB.b_ ?_ | refine WB.drew ?_ | refine WB.drewN ?_ _ | refine WB.alloc ?_ _))))); (have hbw_1 : Below B w w1 := Kw); clear hW hbw hb1; clear c0 c1 c2 c3 c4 c5 c6 c7 c8 c9 cf cl; (have hW := hW_1); (have hbw := hbw_1); clear hW_1 hbw_1; obtain ⟨c0, c1, c2, c3, c4, c5, c6, c7, c8, c9, cf, cl⟩ := hW.cells)
                          go_wp2_with fail
                          go_roundg (gk - 1)
                          case measure => omega
                          case rel => exact ⟨i + 1, true, by go_num, by first | rfl | (simp; done) | (rw [hnz]), by omega, by omega, by omega, ⟨fun h => Bool.noConfusion h, fun h => absurd h HL.out⟩, Kw, by ((with_reducible refine WB.wk (A := A1) (n := n1) (cap := cap1) (A2 := A2) (n2 := n2) (cap2 := cap2) (A3 := A3) (n3 := n3) (cap3 := cap3) ?_); (with_reducible (repeat (first | exact hW | refine WB.b_ ?_ | refine WB.drew ?_ | refine WB.drewN ?_ _ | refine WB.alloc ?_ _))))⟩
                      · have HL : Hid (¬ ((∀ x, t < x → x < R → s.f x t = 0) ∧ ∀ y, t < y → y < i + 1 → s.f t y = 0)) := Lib.hid (fun h => Bool.noConfusion (hlf.2 ⟨h.1, fun x a b => h.2 x a (by omega)⟩))
                        clear hlf
                        go_wp2_with fail
                        go_roundg (gk - 1)
                        case measure => omega
                        case rel => exact ⟨i + 1, true, by go_num, by first | rfl | simp, by omega, by omega, by omega, ⟨fun h => Bool.noConfusion h, fun h => absurd h HL.out⟩, Kw, by ((with_reducible refine WB.wk (A := A1) (n := n1) (cap := cap1) (A2 := A2) (n2 := n2) (cap2 := cap2) (A3 := A3) (n3 := n3) (cap3 := cap3) ?_); (with_reducible (repeat (first | exact hW | refine WB.b_ ?_ | refine WB.drew ?_ | refine WB.drewN ?_ _ | refine WB.alloc ?_ _))))⟩
                    · have hiE : i = C := by omega
                      rw [hiE] at hlf
                      have HL := Lib.hid hlf
                      clear hlf hiE
                      go_wp2_with fail
                      go_meet
                      case rel => exact ⟨lf, rfl, HL.out, Kw, by ((with_reducible refine WB.wk (A := A1) (n := n1) (cap := cap1) (A2 := A2) (n2 := n2) (cap2 := cap2) (A3 := A3) (n3 := n3) (cap3 := cap3) ?_); (with_reducible (repeat (first | exact hW | refine WB.b_ ?_ | refine WB.drew ?_ | refine WB.drewN ?_ _ | refine WB.alloc ?_ _))))⟩
                case rest => as_aux_lemma =>
                  clear c0 c1 c2 c3 c4 c5 c6 c7 c8 c9 cf cl
                  clear hbw hW HLF
                  obtain ⟨lf2, rfl, hlf0, hbw, hK⟩ := hcut
                  have hcl0 := clnS_lf hlf0
                  clear hlf0
                  obtain ⟨A1, n1, cap1, A2, n2, cap2, A3, n3, cap3, hW⟩ := hK
                  obtain ⟨c0, c1, c2, c3, c4, c5, c6, c7, c8, c9, cf, cl⟩ := hW.cells
                  rcases hcl : clnS R C t s.f with _ | _
                  · rw [hcl] at hcl0
                    subst hcl0
                    obtain rfl : X = (s, false) := HR4.out.trans (sfD_left hcl)
                    clear hcl HR4
                    go_wp2_with fail
                    go_ret
                    exact ⟨Kw, .inl ⟨HGC.out.ok, rfl, by show WK _ B b R C s.f s.g s.h false; ((with_reducible refine WB.wk (A := A1) (n := n1) (cap := cap1) (A2 := A2) (n2 := n2) (cap2 := cap2) (A3 := A3) (n3 := n3) (cap3 := cap3) ?_); (with_reducible (repeat (first | exact hW | refine WB.b_ ?_ | refine WB.drew ?_ | refine WB.drewN ?_ _ | refine WB.alloc ?_ _))))⟩⟩
                  · rw [hcl] at hcl0
                    subst hcl0
                    have HCL := Lib.hid hcl
                    clear hcl
                    go_upto_block 8 with fail
                    go_wp2_with fail
                    go_loopg [19] (R + 1) (fun k vi wr => ∃ i : Nat, vi = .int .i64 i ∧ t + 1 ≤ i ∧ i ≤ R ∧ R - i < k ∧ (∀ x, t < x → x < i → fdR s.f t C x = false) ∧ Below B w wr ∧ WK wr B b R C s.f s.g s.h false)
                    case atStart => exact ⟨t + 1, by go_num, Nat.le_refl _, by omega, by omega, fun x a b => by omega, hbw, by ((with_reducible refine WB.wk (A := A1) (n := n1) (cap := cap1) (A2 := A2) (n2 := n2) (cap2 := cap2) (A3 := A3) (n3 := n3) (cap3 := cap3) ?_); (with_reducible (repeat (first | exact hW | refine WB.b_ ?_ | refine WB.drew ?_ | refine WB.drewN ?_ _ | refine WB.alloc ?_ _))))⟩
                    case round => as_aux_lemma =>
                      clear hbw hW
                      clear c0 c1 c2 c3 c4 c5 c6 c7 c8 c9 cf cl
                      obtain ⟨i, rfl, hti, hiR, hk3, hfd0, hbw, hK⟩ := hrel
                      have HFD := Lib.hid hfd0
                      clear hfd0
                      obtain ⟨A1, n1, cap1, A2, n2, cap2, A3, n3, cap3, hW⟩ := hK
                      obtain ⟨c0, c1, c2, c3, c4, c5, c6, c7, c8, c9, cf, cl⟩ := hW.cells
                      by_cases hlt : i < R
                      · obtain ⟨go, hgo⟩ : ∃ x, x = gk := ⟨_, rfl⟩
                        have HGO := Lib.hid hgo
                        clear hgo
                        go_wp2_with fail
                        go_loopg [20] (C + 1) (fun k vj wr => ∃ j : Nat, vj = .int .i64 j ∧ t + 1 ≤ j ∧ j ≤ C ∧ C - j < k ∧ (∀ y, t < y → y < j → ¬ (s.f i y ≠ bad ∧ (s.f i y).tmod (s.f t t) ≠ 0)) ∧ Below B w wr ∧ WK wr B b R C s.f s.g s.h false)
                        case atStart => exact ⟨t + 1, by go_num, Nat.le_refl _, by omega, by omega, fun x a b => by omega, hbw, by ((with_reducible refine WB.wk (A := A1) (n := n1) (cap := cap1) (A2 := A2) (n2 := n2) (cap2 := cap2) (A3 := A3) (n3 := n3) (cap3 := cap3) ?_); (with_reducible (repeat (first | exact hW | refine WB.b_ ?_ | refine WB.drew ?_ | refine WB.drewN ?_ _ | refine WB.alloc ?_ _))))⟩
                        case round => as_aux_lemma =>
                          clear hbw hW
                          clear c0 c1 c2 c3 c4 c5 c6 c7 c8 c9 cf cl
                          obtain ⟨j, rfl, htj, hjC, hk4, hnd0, hbw, hK⟩ := hrel
                          have HND := Lib.hid hnd0
                          clear hnd0
                          obtain ⟨A1, n1, cap1, A2, n2, cap2, A3, n3, cap3, hW⟩ := hK
                          obtain ⟨c0, c1, c2, c3, c4, c5, c6, c7, c8, c9, cf, cl⟩ := hW.cells
                          by_cases hltj : j < C
                          · have hzn := HGC.out.ok.f i j hlt hltj
                            have hdn := HGC.out.ok.f t t ht htC
                            have hd0 : ¬ s.f t t = 0 := HP.out
                            have hzb := hzn.ne
                            by_cases hm : (s.f i j).tmod (s.f t t) = 0
                            · have HN2 : Hid (∀ y, t < y → y < j + 1 → ¬ (s.f i y ≠ bad ∧ (s.f i y).tmod (s.f t t) ≠ 0)) := Lib.hid (fun y a b => by
                                rcases Nat.lt_or_ge y j with h1 | h1
                                · exact HND.out y a h1
                                · obtain rfl : y = j := by omega
                                  exact fun h => h.2 hm)
                              have hmb : ((s.f i j).tmod (s.f t t) != 0) = false := by simp [hm]
                              clear hm hzb
                              generalize hz : s.f i j = z at *
                              generalize hd : s.f t t = d at hdn hd0 hmb
                              have HZ := Lib.hid hz
                              have HD := Lib.hid hd
                              clear hz hd
                              go_wp2_with fail
                              ((refine wp_region_held_drew (S := (fun w' => w'.cell? ⟨b, 0, none⟩ = some (.int .i64 R) ∧ w'.cell? ⟨b, 1, none⟩ = some (.int .i64 C) ∧ w'.cell? ⟨b, 2, none⟩ = some (.slice A1 n1 cap1))) (by kernel_rfl) ?_ (fun hHeld => ?_)); ((focus ((try dsimp only); (go_keep)))); ((refine tk_ (i := 0) (v := ?_) (y := Or.inl ⟨by rfl, ?_⟩) (h := ?_); rotate_left; (focus (((intro w hSw; (try dsimp only at hSw); go_simp) <;> (try with_reducible rfl)); done)); (try simp only [Act.put, p1_, p2_, p3_]))); ((refine tk_ (i := 1) (v := ?_) (y := Or.inl ⟨by rfl, ?_⟩) (h := ?_); rotate_left; (focus (((intro w hSw; (try dsimp only at hSw); go_simp) <;> (try with_reducible rfl)); done)); (try simp only [Act.put, p1_, p2_, p3_]))); ((refine tk_ (i := 2) (v := ?_) (y := Or.inl ⟨by rfl, ?_⟩) (h := ?_); rotate_left; (focus (((intro w hSw; (try dsimp only at hSw); go_simp) <;> (try with_reducible rfl)); done)); (try simp only [Act.put, p1_, p2_, p3_]))); ((refine tk_ (i := 3) (v := ?_) (y := Or.inl ⟨by rfl, ?_⟩) (h := ?_); rotate_left; (focus (((intro w hSw; (try dsimp only at hSw); go_simp) <;> (try with_reducible rfl)); done)); (try simp only [Act.put, p1_, p2_, p3_]))); ((refine tk_ (i := 4) (v := ?_) (y := Or.inl ⟨by rfl, ?_⟩) (h := ?_); rotate_left; (focus (((intro w hSw; (try dsimp only at hSw); go_simp) <;> (try with_reducible rfl)); done)); (try simp only [Act.put, p1_, p2_, p3_]))); ((refine tk_ (i := 5) (v := ?_) (y := Or.inl ⟨by rfl, ?_⟩) (h := ?_); rotate_left; (focus (((intro w hSw; (try dsimp only at hSw); go_simp) <;> (try with_reducible rfl)); done)); (try simp only [Act.put, p1_, p2_, p3_]))); ((refine tk_ (i := 7) (v := ?_) (y := Or.inl ⟨by rfl, ?_⟩) (h := ?_); rotate_left; (focus (((intro w hSw; (try dsimp only at hSw); go_simp) <;> (try with_reducible rfl)); done)); (try simp only [Act.put, p1_, p2_, p3_]))); ((refine tk_ (i := 8) (v := ?_) (y := Or.inl ⟨by rfl, ?_⟩) (h := ?_); rotate_left; (focus (((intro w hSw; (try dsimp only at hSw); go_simp) <;> (try with_reducible rfl)); done)); (try simp only [Act.put, p1_, p2_, p3_]))); ((refine tk_ (i := 9) (v := ?_) (y := Or.inl ⟨by rfl, ?_⟩) (h := ?_); rotate_left; (focus (((intro w hSw; (try dsimp only at hSw); go_simp) <;> (try with_reducible rfl)); done)); (try simp only [Act.put, p1_, p2_, p3_]))); ((refine tk_ (i := 10) (v := ?_) (y := Or.inl ⟨by rfl, ?_⟩) (h := ?_); rotate_left; (focus (((intro w hSw; (try dsimp only at hSw); go_simp) <;> (try with_reducible rfl)); done)); (try simp only [Act.put, p1_, p2_, p3_]))); ((refine tk_ (i := 11) (v := ?_) (y := Or.inl ⟨by rfl, ?_⟩) (h := ?_); rotate_left; (focus (((intro w hSw; (try dsimp only at hSw); go_simp) <;> (try with_reducible rfl)); done)); (try simp only [Act.put, p1_, p2_, p3_]))); ((refine tk_ (i := 12) (v := ?_) (y := Or.inl ⟨by rfl, ?_⟩) (h := ?_); rotate_left; (focus (((intro w hSw; (try dsimp only at hSw); go_simp) <;> (try with_reducible rfl)); done)); (try simp only [Act.put, p1_, p2_, p3_]))); ((refine wpAnyH_ready (rs := [6]) (by kernel_rfl) (by simp) ?_; refine AllReadyH.cons (by simp only [e1_, e2_, e3_]; try rfl) (fun K hK => ?_) AllReadyH.nil; go_simp; (go_at_call 117; (refine (impl_at_tb R C i j A1 n1 cap1 ((s.f)) z HZ.out _ (B := B) (by have hm := hW.m; (with_reducible (repeat (first | exact hm | refine OR.drew ?_ | refine OR.drewN ?_ _ | refine OR.alloc ?_ _ | refine OR.b_ ?_ | refine OR.l_ ?_)))) (by omega) (by omega) (by omega) (by omega)).mono ?_; rintro e w1 ⟨rfl, hb1⟩; (have hW_1 : WB w1 B b R C ((s.f)) ((s.g)) ((s.h)) false A1 n1 cap1 A2 n2 cap2 A3 n3 cap3 := (by (with_reducible (repeat (first | exact hW | refine WB.b_ ?_ | refine WB.drew ?_ | refine WB.drewN ?_ _ | refine WB.alloc ?_ _))))); (have hbw_1 : Below B w w1 := Kw); clear hW hbw hb1; clear c0 c1 c2 c3 c4 c5 c6 c7 c8 c9 cf cl; (have hW := hW_1); (have hbw := hbw_1); clear hW_1 hbw_1; obtain ⟨c0, c1, c2, c3, c4, c5, c6, c7, c8, c9, cf, cl⟩ := hW.cells)); (try go_wp2_with fail); refine hK.out _ _ ?_ (fun hHeld => ?_); (focus ((try dsimp only); (go_keep))); clear hK K; (try simp only [Act.put, p1_, p2_, p3_]))); ((refine wpAnyH_ready (rs := [13]) (by kernel_rfl) (by simp) ?_; refine AllReadyH.cons (by simp only [e1_, e2_, e3_]; try rfl) (fun K hK => ?_) AllReadyH.nil; go_simp; (go_at_call 117; (refine (impl_at_tb R C t t A1 n1 cap1 ((s.f)) d HD.out _ (B := B) (by have hm := hW.m; (with_reducible (repeat (first | exact hm | refine OR.drew ?_ | refine OR.drewN ?_ _ | refine OR.alloc ?_ _ | refine OR.b_ ?_ | refine OR.l_ ?_)))) (by omega) (by omega) (by omega) (by omega)).mono ?_; rintro e w1 ⟨rfl, hb1⟩; (have hW_1 : WB w1 B b R C ((s.f)) ((s.g)) ((s.h)) false A1 n1 cap1 A2 n2 cap2 A3 n3 cap3 := (by (with_reducible (repeat (first | exact hW | refine WB.b_ ?_ | refine WB.drew ?_ | refine WB.drewN ?_ _ | refine WB.alloc ?_ _))))); (have hbw_1 : Below B w w1 := Kw); clear hW hbw hb1; clear c0 c1 c2 c3 c4 c5 c6 c7 c8 c9 cf cl; (have hW := hW_1); (have hbw := hbw_1); clear hW_1 hbw_1; obtain ⟨c0, c1, c2, c3, c4, c5, c6, c7, c8, c9, cf, cl⟩ := hW.cells)); (try go_wp2_with fail); refine hK.out _ _ ?_ (fun hHeld => ?_); (focus ((try dsimp only); (go_keep))); clear hK K; (try simp only [Act.put, p1_, p2_, p3_]))); ((refine tk_ (i := 14) (v := ?_) (y := Or.inl ⟨by rfl, ?_⟩) (h := ?_); rotate_left; (focus (((intro w hSw; (try dsimp only at hSw); go_simp) <;> (try with_reducible rfl)); done)); (try simp only [Act.put, p1_, p2_, p3_]))); ((refine tk_ (i := 15) (v := ?_) (y := Or.inl ⟨by rfl, ?_⟩) (h := ?_); rotate_left; (focus (((intro w hSw; (try dsimp only at hSw); go_simp) <;> (try with_reducible rfl)); done)); (try simp only [Act.put, p1_, p2_, p3_]))); (refine wpAnyH_done (by kernel_rfl) ?_ _))
                              go_wp2_with fail
                              go_roundg (gk - 1)
                              case measure => omega
                              case rel => exact ⟨j + 1, by go_num, by omega, by omega, by omega, HN2.out, Kw, by ((with_reducible refine WB.wk (A := A1) (n := n1) (cap := cap1) (A2 := A2) (n2 := n2) (cap2 := cap2) (A3 := A3) (n3 := n3) (cap3 := cap3) ?_); (with_reducible (repeat (first | exact hW | refine WB.b_ ?_ | refine WB.drew ?_ | refine WB.drewN ?_ _ | refine WB.alloc ?_ _))))⟩
                            · have HFI : Hid (fdR s.f t C i = true) := Lib.hid (fdR_iff.2 ⟨j, htj, hltj, hzb, hm⟩)
                              have hmb : ((s.f i j).tmod (s.f t t) != 0) = true := by simp [hm]
                              have hti2 : t ≠ i := by omega
                              have HTI := Lib.hid hti2
                              clear hm hzb hti2
                              generalize hz : s.f i j = z at *
                              generalize hd : s.f t t = d at hdn hd0 hmb
                              have HZ := Lib.hid hz
                              have HD := Lib.hid hd
                              clear hz hd
                              obtain rfl : X = (s.wr (s.row.add t i 1), false) := HR4.out.trans (sfD_next HCL.out (fd_first hti hlt HFD.out HFI.out))
                              clear HR4
                              go_wp2_with fail
                              ((refine wp_region_held_drew (S := (fun w' => w'.cell? ⟨b, 0, none⟩ = some (.int .i64 R) ∧ w'.cell? ⟨b, 1, none⟩ = some (.int .i64 C) ∧ w'.cell? ⟨b, 2, none⟩ = some (.slice A1 n1 cap1))) (by kernel_rfl) ?_ (fun hHeld => ?_)); ((focus ((try dsimp only); (go_keep)))); ((refine tk_ (i := 0) (v := ?_) (y := Or.inl ⟨by rfl, ?_⟩) (h := ?_); rotate_left; (focus (((intro w hSw; (try dsimp only at hSw); go_simp) <;> (try with_reducible rfl)); done)); (try simp only [Act.put, p1_, p2_, p3_]))); ((refine tk_ (i := 1) (v := ?_) (y := Or.inl ⟨by rfl, ?_⟩) (h := ?_); rotate_left; (focus (((intro w hSw; (try dsimp only at hSw); go_simp) <;> (try with_reducible rfl)); done)); (try simp only [Act.put, p1_, p2_, p3_]))); ((refine tk_ (i := 2) (v := ?_) (y := Or.inl ⟨by rfl, ?_⟩) (h := ?_); rotate_left; (focus (((intro w hSw; (try dsimp only at hSw); go_simp) <;> (try with_reducible rfl)); done)); (try simp only [Act.put, p1_, p2_, p3_]))); ((refine tk_ (i := 3) (v := ?_) (y := Or.inl ⟨by rfl, ?_⟩) (h := ?_); rotate_left; (focus (((intro w hSw; (try dsimp only at hSw); go_simp) <;> (try with_reducible rfl)); done)); (try simp only [Act.put, p1_, p2_, p3_]))); ((refine tk_ (i := 4) (v := ?_) (y := Or.inl ⟨by rfl, ?_⟩) (h := ?_); rotate_left; (focus (((intro w hSw; (try dsimp only at hSw); go_simp) <;> (try with_reducible rfl)); done)); (try simp only [Act.put, p1_, p2_, p3_]))); ((refine tk_ (i := 5) (v := ?_) (y := Or.inl ⟨by rfl, ?_⟩) (h := ?_); rotate_left; (focus (((intro w hSw; (try dsimp only at hSw); go_simp) <;> (try with_reducible rfl)); done)); (try simp only [Act.put, p1_, p2_, p3_]))); ((refine tk_ (i := 7) (v := ?_) (y := Or.inl ⟨by rfl, ?_⟩) (h := ?_); rotate_left; (focus (((intro w hSw; (try dsimp only at hSw); go_simp) <;> (try with_reducible rfl)); done)); (try simp only [Act.put, p1_, p2_, p3_]))); ((refine tk_ (i := 8) (v := ?_) (y := Or.inl ⟨by rfl, ?_⟩) (h := ?_); rotate_left; (focus (((intro w hSw; (try dsimp only at hSw); go_simp) <;> (try with_reducible rfl)); done)); (try simp only [Act.put, p1_, p2_, p3_]))); ((refine tk_ (i := 9) (v := ?_) (y := Or.inl ⟨by rfl, ?_⟩) (h := ?_); rotate_left; (focus (((intro w hSw; (try dsimp only at hSw); go_simp) <;> (try with_reducible rfl)); done)); (try simp only [Act.put, p1_, p2_, p3_]))); ((refine tk_ (i := 10) (v := ?_) (y := Or.inl ⟨by rfl, ?_⟩) (h := ?_); rotate_left; (focus (((intro w hSw; (try dsimp only at hSw); go_simp) <;> (try with_reducible rfl)); done)); (try simp only [Act.put, p1_, p2_, p3_]))); ((refine tk_ (i := 11) (v := ?_) (y := Or.inl ⟨by rfl, ?_⟩) (h := ?_); rotate_left; (focus (((intro w hSw; (try dsimp only at hSw); go_simp) <;> (try with_reducible rfl)); done)); (try simp only [Act.put, p1_, p2_, p3_]))); ((refine tk_ (i := 12) (v := ?_) (y := Or.inl ⟨by rfl, ?_⟩) (h := ?_); rotate_left; (focus (((intro w hSw; (try dsimp only at hSw); go_simp) <;> (try with_reducible rfl)); done)); (try simp only [Act.put, p1_, p2_, p3_]))); ((refine wpAnyH_ready (rs := [6]) (by kernel_rfl) (by simp) ?_; refine AllReadyH.cons (by simp only [e1_, e2_, e3_]; try rfl) (fun K hK => ?_) AllReadyH.nil; go_simp; (go_at_call 117; (refine (impl_at_tb R C i j A1 n1 cap1 ((s.f)) z HZ.out _ (B := B) (by have hm := hW.m; (with_reducible (repeat (first | exact hm | refine OR.drew ?_ | refine OR.drewN ?_ _ | refine OR.alloc ?_ _ | refine OR.b_ ?_ | refine OR.l_ ?_)))) (by omega) (by omega) (by omega) (by omega)).mono ?_; rintro e w1 ⟨rfl, hb1⟩; (have hW_1 : WB w1 B b R C ((s.f)) ((s.g)) ((s.h)) false A1 n1 cap1 A2 n2 cap2 A3 n3 cap3 := (by (with_reducible (repeat (first | exact hW | refine WB.b_ ?_ | refine WB.drew ?_ | refine WB.drewN ?_ _ | refine WB.alloc ?_ _))))); (have hbw_1 : Below B w w1 := Kw); clear hW hbw hb1; clear c0 c1 c2 c3 c4 c5 c6 c7 c8 c9 cf cl; (have hW := hW_1); (have hbw := hbw_1); clear hW_1 hbw_1; obtain ⟨c0, c1, c2, c3, c4, c5, c6, c7, c8, c9, cf, cl⟩ := hW.cells)); (try go_wp2_with fail); refine hK.out _ _ ?_ (fun hHeld => ?_); (focus ((try dsimp only); (go_keep))); clear hK K; (try simp only [Act.put, p1_, p2_, p3_]))); ((refine wpAnyH_ready (rs := [13]) (by kernel_rfl) (by simp) ?_; refine AllReadyH.cons (by simp only [e1_, e2_, e3_]; try rfl) (fun K hK => ?_) AllReadyH.nil; go_simp; (go_at_call 117; (refine (impl_at_tb R C t t A1 n1 cap1 ((s.f)) d HD.out _ (B := B) (by have hm := hW.m; (with_reducible (repeat (first | exact hm | refine OR.drew ?_ | refine OR.drewN ?_ _ | refine OR.alloc ?_ _ | refine OR.b_ ?_ | refine OR.l_ ?_)))) (by omega) (by omega) (by omega) (by omega)).mono ?_; rintro e w1 ⟨rfl, hb1⟩; (have hW_1 : WB w1 B b R C ((s.f)) ((s.g)) ((s.h)) false A1 n1 cap1 A2 n2 cap2 A3 n3 cap3 := (by (with_reducible (repeat (first | exact hW | refine WB.b_ ?_ | refine WB.drew ?_ | refine WB.drewN ?_ _ | refine WB.alloc ?_ _))))); (have hbw_1 : Below B w w1 := Kw); clear hW hbw hb1; clear c0 c1 c2 c3 c4 c5 c6 c7 c8 c9 cf cl; (have hW := hW_1); (have hbw := hbw_1); clear hW_1 hbw_1; obtain ⟨c0, c1, c2, c3, c4, c5, c6, c7, c8, c9, cf, cl⟩ := hW.cells)); (try go_wp2_with fail); refine hK.out _ _ ?_ (fun hHeld => ?_); (focus ((try dsimp only); (go_keep))); clear hK K; (try simp only [Act.put, p1_, p2_, p3_]))); ((refine tk_ (i := 14) (v := ?_) (y := Or.inl ⟨by rfl, ?_⟩) (h := ?_); rotate_left; (focus (((intro w hSw; (try dsimp only at hSw); go_simp) <;> (try with_reducible rfl)); done)); (try simp only [Act.put, p1_, p2_, p3_]))); ((refine tk_ (i := 15) (v := ?_) (y := Or.inl ⟨by rfl, ?_⟩) (h := ?_); rotate_left; (focus (((intro w hSw; (try dsimp only at hSw); go_simp) <;> (try with_reducible rfl)); done)); (try simp only [Act.put, p1_, p2_, p3_]))); (refine wpAnyH_done (by kernel_rfl) ?_ _))
                              go_wp2_with fail
                              refine (impl_add B b R C t i s.f s.g s.h 1 _ (by ((with_reducible refine WB.wk (A := A1) (n := n1) (cap := cap1) (A2 := A2) (n2 := n2) (cap2 := cap2) (A3 := A3) (n3 := n3) (cap3 := cap3) ?_); (with_reducible (repeat (first | exact hW | refine WB.b_ ?_ | refine WB.drew ?_ | refine WB.drewN ?_ _ | refine WB.alloc ?_ _))))) ht hlt HTI.out Num.one HGC.out.ok.f HGC.out.ok.g (by omega) hC hR).mono ?_
                              rintro e w1 ⟨rfl, hb1, hres⟩
                              (have hbw_1 : Below B w w1 := Below.trans Kw hb1); clear hbw hW; clear c0 c1 c2 c3 c4 c5 c6 c7 c8 c9 cf cl; (have hbw := hbw_1); clear hbw_1
                              rcases hres with ⟨hok, hK⟩ | ⟨hno, f', g', hK⟩
                              · have HOK : Hid ((s.wr (s.row.add t i 1)).OK R C) := Lib.hid ⟨hok.1, hok.2, HGC.out.ok.h⟩
                                clear hok
                                obtain ⟨A1, n1, cap1, A2, n2, cap2, A3, n3, cap3, hW⟩ := hK
                                go_wp2_with fail
                                go_ret
                                exact ⟨Kw, .inl ⟨HOK.out, rfl, by show WK _ B b R C (opA s.f t i 1) (opA s.g t i 1) s.h false; ((with_reducible refine WB.wk (A := A1) (n := n1) (cap := cap1) (A2 := A2) (n2 := n2) (cap2 := cap2) (A3 := A3) (n3 := n3) (cap3 := cap3) ?_); (with_reducible (repeat (first | exact hW | refine WB.b_ ?_ | refine WB.drew ?_ | refine WB.drewN ?_ _ | refine WB.alloc ?_ _))))⟩⟩
                              · have HNO : Hid (¬ (s.wr (s.row.add t i 1)).OK R C) := Lib.hid (fun k => hno ⟨k.f, k.g⟩)
                                clear hno
                                obtain ⟨A1, n1, cap1, A2, n2, cap2, A3, n3, cap3, hW⟩ := hK
                                go_wp2_with fail
                                go_ret
                                exact ⟨Kw, .inr ⟨HNO.out, true, f', g', s.h, rfl, by ((with_reducible refine WB.wk (A := A1) (n := n1) (cap := cap1) (A2 := A2) (n2 := n2) (cap2 := cap2) (A3 := A3) (n3 := n3) (cap3 := cap3) ?_); (with_reducible (repeat (first | exact hW | refine WB.b_ ?_ | refine WB.drew ?_ | refine WB.drewN ?_ _ | refine WB.alloc ?_ _))))⟩⟩
                          · have hjE : j = C := by omega
                            rw [hjE] at HND
                            clear hjE
                            have HF2 : Hid (∀ x, t < x → x < i + 1 → fdR s.f t C x = false) := Lib.hid (fun x a b => by
                              rcases Nat.lt_or_ge x i with h1 | h1
                              · exact HFD.out x a h1
                              · obtain rfl : x = i := by omega
                                exact fdR_no HND.out)
                            go_wp2_with fail
                            go_roundg (go - 1)
                            case measure => have := HGO.out; omega
                            case rel => exact ⟨i + 1, by go_num, by omega, by omega, by have := HGO.out; omega, HF2.out, Kw, by ((with_reducible refine WB.wk (A := A1) (n := n1) (cap := cap1) (A2 := A2) (n2 := n2) (cap2 := cap2) (A3 := A3) (n3 := n3) (cap3 := cap3) ?_); (with_reducible (repeat (first | exact hW | refine WB.b_ ?_ | refine WB.drew ?_ | refine WB.drewN ?_ _ | refine WB.alloc ?_ _))))⟩
                      · have hiE : i = R := by omega
                        rw [hiE] at HFD
                        clear hiE
                        obtain rfl : X = (s, true) := HR4.out.trans (sfD_done HCL.out (fd_none HFD.out))
                        clear HR4
                        go_wp2_with fail
                        go_ret
                        exact ⟨Kw, .inl ⟨HGC.out.ok, rfl, by show WK _ B b R C s.f s.g s.h false; ((with_reducible refine WB.wk (A := A1) (n := n1) (cap := cap1) (A2 := A2) (n2 := n2) (cap2 := cap2) (A3 := A3) (n3 := n3) (cap3 := cap3) ?_); (with_reducible (repeat (first | exact hW | refine WB.b_ ?_ | refine WB.drew ?_ | refine WB.drewN ?_ _ | refine WB.alloc ?_ _))))⟩⟩
            · have HNX : Hid (¬ X.1.OK R C) := Lib.hid (fun k => hno (sfD_back (sfC_nb HGB.out.nb) (by rw [← HR3.out]; exact k)))
              clear hno HR3 HGB
              obtain ⟨A1, n1, cap1, A2, n2, cap2, A3, n3, cap3, hW⟩ := hK
              obtain ⟨c0, c1, c2, c3, c4, c5, c6, c7, c8, c9, cf, cl⟩ := hW.cells
              go_wp2_with fail
              go_ret
              exact ⟨Kw, .inr ⟨HNX.out, false, f', g', h', rfl, by ((with_reducible refine WB.wk (A := A1) (n := n1) (cap := cap1) (A2 := A2) (n2 := n2) (cap2 := cap2) (A3 := A3) (n3 := n3) (cap3 := cap3) ?_); (with_reducible (repeat (first | exact hW | refine WB.b_ ?_ | refine WB.drew ?_ | refine WB.drewN ?_ _ | refine WB.alloc ?_ _))))⟩⟩
        · have HNX : Hid (¬ X.1.OK R C) := Lib.hid (fun k => hno (sfC_back (sfB_nb HG.out.nb) (sfD_back (sfC_nb (sfB_nb HG.out.nb)) (by rw [← HR2.out]; exact k))).ofRow)
          clear hno HR2 HG
          obtain ⟨A1, n1, cap1, A2, n2, cap2, A3, n3, cap3, hW⟩ := hK
          obtain ⟨c0, c1, c2, c3, c4, c5, c6, c7, c8, c9, cf, cl⟩ := hW.cells
          by_cases hlc : t + 1 < C
          all_goals go_wp2_with fail
          all_goals go_rounds 1
          all_goals go_ret
          all_goals exact ⟨Kw, .inr ⟨HNX.out, false, f', g', h', rfl, by ((with_reducible refine WB.wk (A := A1) (n := n1) (cap := cap1) (A2 := A2) (n2 := n2) (cap2 := cap2) (A3 := A3) (n3 := n3) (cap3 := cap3) ?_); (with_reducible (repeat (first | exact hW | refine WB.b_ ?_ | refine WB.drew ?_ | refine WB.drewN ?_ _ | refine WB.alloc ?_ _))))⟩⟩
end Go.Proofs.Ytacjonkehcamgaa

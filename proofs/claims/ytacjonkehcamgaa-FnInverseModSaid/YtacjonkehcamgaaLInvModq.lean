/-
  DERIVED. The law FnInverseMod: inverses modulo a prime are inverses; there is one exactly if the determinant is not 0; solutions solve.
-/
import Derived.Test.YtacjonkehcamgaaZS
import Derived.Test.YtacjonkehcamgaaZ5
import Derived.Test.YtacjonkehcamgaaZ1
import Derived.Test.YtacjonkehcamgaaZ4
import Derived.Test.YtacjonkehcamgaaInvSq
import Derived.Test.YtacjonkehcamgaaRankIq
import Derived.Test.YtacjonkehcamgaaMulq
import Derived.Test.YtacjonkehcamgaaZ2
namespace Go.Proofs.Ytacjonkehcamgaa
open Go.RowKit
set_option linter.unusedVariables false
set_option linter.unusedSimpArgs false
theorem red_unit {R : Nat} {ys : List Int} {p : Int} (hi : redB R R ys p = true) (ht : R ≤ (imS R R ys p).t) {L : List Int} (hL : L = mulL (redL ys p) R R (tb R R (imV R ys p)) R) : redL L p = tb R R idF := by
  have hlen : L.length = R * R := by rw [hL, mulL_len]
  have K := redOk hi
  have htb : redL ys p = tb R R (rmF R ys p) := by have := K.tb_; simpa using this
  rw [tb_of (R := R) (C := R) (xs := redL L p) (by simp [redL, hlen])]
  refine tb_ext fun i j hi' hj' => ?_
  rw [← im_prod hi ht hi' hj', cel_nat]
  have h1 : (redL L p).getD (i * R + j) 0 = L.getD (i * R + j) 0 % p := by
    have hk : i * R + j < L.length := by rw [hlen]; exact idx_nat hi' hj'
    simp [redL, List.getD, hk]
  rw [h1, hL, mulL_at hi' hj']
  unfold prodAt
  congr 1
  refine sumTo_congr R fun k hk => ?_
  rw [htb, cel_tb hi' hk, cel_tb hk hj']
theorem imN_bd {p n0 : Int} {m x : Nat → Int} (hp : 2 ≤ p) (hn : -p < n0 ∧ n0 < p) : ∀ j, -p < imN p n0 m x j ∧ imN p n0 m x j < p
  | 0 => hn
  | j + 1 => by
    show -p < (Int.tmod _ p) ∧ (Int.tmod _ p) < p
    generalize imN p n0 m x j + (m j).tmod p * x j = a
    have h1 := Int.natAbs_tmod a p
    have h2 := Nat.mod_lt a.natAbs (show 0 < p.natAbs by omega)
    omega
theorem tmod_abs (a : Int) {p : Int} (hp : 2 ≤ p) : -p < a.tmod p ∧ a.tmod p < p := by
  have h1 := Int.natAbs_tmod a p
  have h2 := Nat.mod_lt a.natAbs (show 0 < p.natAbs by omega)
  omega
set_option maxRecDepth 100000 in
set_option maxHeartbeats 8000000 in
theorem law_FnInverseMod (w : World) (A : Option Addr) (n cap : Nat) (xs : List Int) (hnc : n ≤ cap) (hcm : cap ≤ maxLen) (hby : RB w w.heap.size A n xs) :
    Calls Try.prog 5 #[.slice A n cap] w fun e w' => e = .returned (.bool true) ∧ Below w.heap.size w w' := by
  by_cases hn : 1048576 < n
  · go_enter Try.func5, Try.ntmps5
    go_wp2_with (go_at_call 15; refine (laws_big A n cap _).mono ?_; rintro e w1 ⟨rfl, rfl⟩)
    go_ret
    exact ⟨rfl, Below.refl _ _⟩
  · go_enter Try.func5, Try.ntmps5
    go_wp2_with (go_at_call 15; refine (laws_big A n cap _).mono ?_; rintro e w1 ⟨rfl, rfl⟩)
    refine (spec_DrawSolveMod n cap A xs _ hby (by omega)).mono ?_
    rintro e w1 ⟨r, c, A1, n1, c1, ys, A2, n2, c2, bs, p, rfl, ho1, ho2, hl1, hl2, ⟨hp1, hp2⟩, ⟨hr1, hr2⟩, hbw0⟩
    have hsz := hbw0.size
    have e1 := ho1.lenEq
    have e2 := ho2.lenEq
    have H1 : Hid (RI (w1.alloc (.cells #[.int .i64 r, .int .i64 c, .slice A1 n1 c1] 26)) (w1.alloc (.cells #[.int .i64 r, .int .i64 c, .slice A1 n1 c1] 26)).heap.size A1 n1 ys) := Lib.hid ((ho1.alloc _).reads)
    have H2 : Hid (RI (w1.alloc (.cells #[.int .i64 r, .int .i64 c, .slice A1 n1 c1] 26)) (w1.alloc (.cells #[.int .i64 r, .int .i64 c, .slice A1 n1 c1] 26)).heap.size A2 n2 bs) := Lib.hid ((ho2.alloc _).reads)
    have hM : BM (w1.alloc (.cells #[.int .i64 r, .int .i64 c, .slice A1 n1 c1] 26)) w1.heap.size r c A1 n1 c1 := Ka
    have n1x : n1 ≤ 17 := by omega
    have n2x : n2 ≤ 1001 ∧ n2 ≤ bs.length ∧ bs.length ≤ n2 := by omega
    have HB0 : Hid (Below w.heap.size w (w1.alloc (.cells #[.int .i64 r, .int .i64 c, .slice A1 n1 c1] 26))) := Lib.hid (hbw0.alloc hsz _)
    clear hbw0 ho1 ho2 e1 e2 hby
    obtain ⟨ma, mb, mc, mf, ml⟩ := hM.mx
    go_wp2_with fail
    generalize (w1.alloc (.cells #[.int .i64 r, .int .i64 c, .slice A1 n1 c1] 26)) = w0 at *
    generalize w1.heap.size = bM at *
    have hbw : Below w0.heap.size w0 w0 := Below.refl _ _
    have hs0 : w.heap.size ≤ w0.heap.size := by have := HB0.out.size; omega
    have hlM := hM.lt
    clear hsz
    rcases hi : imB r c ys p with _ | _
    · have hno := im_none hi hr2
      have hsm : smB r c ys bs p = false := by unfold smB; rw [hi]; rfl
      have HI := Lib.hid hi
      have HMN := Lib.hid (imM_no hi)
      have HSM := Lib.hid hsm
      have HSV := Lib.hid (smV_no hsm)
      clear hi hsm
      refine (impl_InverseMod r c p A1 n1 c1 ys _ (B := w0.heap.size) (Kr H1.out) Ks (by omega)).mono ?_
      rw [HI.out, HMN.out]
      rintro e w2 ⟨A3, n3, c3, rfl, -, hb2⟩
      have hszw2 := hb2.size; (try simp at hszw2); have hM_1 : BM w2 bM (r) (c) A1 n1 c1 := (Kb hM); have H1_1 : Hid (RI w2 w0.heap.size A1 n1 ys) := Lib.hid (Kr H1.out); have H2_1 : Hid (RI w2 w0.heap.size A2 n2 bs) := Lib.hid (Kr H2.out); have hbw_1 : Below w0.heap.size w0 w2 := Kw; clear hM hbw H1 H2 ma mb mc mf ml hb2; have hM := hM_1; have H1 := H1_1; have H2 := H2_1; have hbw := hbw_1; clear hM_1 H1_1 H2_1 hbw_1; obtain ⟨ma, mb, mc, mf, ml⟩ := hM.mx
      go_wp2_with fail
      refine (spec_InverseMod r c p A1 n1 c1 ys _ (B := w0.heap.size) (Kr H1.out) Ks (by omega)).mono ?_
      rw [HI.out, HMN.out]
      rintro e w3 ⟨A4, n4, c4, rfl, -, hb3⟩
      have hszw3 := hb3.size; (try simp at hszw3); have hM_1 : BM w3 bM (r) (c) A1 n1 c1 := (Kb hM); have H1_1 : Hid (RI w3 w0.heap.size A1 n1 ys) := Lib.hid (Kr H1.out); have H2_1 : Hid (RI w3 w0.heap.size A2 n2 bs) := Lib.hid (Kr H2.out); have hbw_1 : Below w0.heap.size w0 w3 := Kw; clear hM hbw H1 H2 ma mb mc mf ml hb3; have hM := hM_1; have H1 := H1_1; have H2 := H2_1; have hbw := hbw_1; clear hM_1 H1_1 H2_1 hbw_1; obtain ⟨ma, mb, mc, mf, ml⟩ := hM.mx
      go_wp2_with fail
      refine (impl_DeterminantMod r c p A1 n1 c1 ys _ (B := w0.heap.size) (Kr H1.out) Ks (by omega)).mono ?_
      rcases hno with hno | hno
      all_goals
        rw [hno]
        clear hno
        rintro e w4 ⟨rfl, hb4⟩
        have hszw4 := hb4.size; (try simp at hszw4); have hM_1 : BM w4 bM (r) (c) A1 n1 c1 := (Kb hM); have H1_1 : Hid (RI w4 w0.heap.size A1 n1 ys) := Lib.hid (Kr H1.out); have H2_1 : Hid (RI w4 w0.heap.size A2 n2 bs) := Lib.hid (Kr H2.out); have hbw_1 : Below w0.heap.size w0 w4 := Kw; clear hM hbw H1 H2 ma mb mc mf ml hb4; have hM := hM_1; have H1 := H1_1; have H2 := H2_1; have hbw := hbw_1; clear hM_1 H1_1 H2_1 hbw_1; obtain ⟨ma, mb, mc, mf, ml⟩ := hM.mx
        go_wp2_with fail
        refine (impl_SolveMod r c p A1 A2 n1 c1 n2 c2 ys bs _ (B := w0.heap.size) (B' := w0.heap.size) (Kr H1.out) (Kr H2.out) Ks Ks (by omega) (by omega)).mono ?_
        rw [HSM.out, HSV.out]
        rintro e w5 ⟨A5, n5, c5, rfl, ho5, hb5⟩
        have e5 := OR.lenEq (xs := []) ho5
        have h50 : n5 = 0 := by simpa using e5
        subst h50
        clear ho5 e5
        have hszw5 := hb5.size; (try simp at hszw5); have hM_1 : BM w5 bM (r) (c) A1 n1 c1 := (Kb hM); have H1_1 : Hid (RI w5 w0.heap.size A1 n1 ys) := Lib.hid (Kr H1.out); have H2_1 : Hid (RI w5 w0.heap.size A2 n2 bs) := Lib.hid (Kr H2.out); have hbw_1 : Below w0.heap.size w0 w5 := Kw; clear hM hbw H1 H2 ma mb mc mf ml hb5; have hM := hM_1; have H1 := H1_1; have H2 := H2_1; have hbw := hbw_1; clear hM_1 H1_1 H2_1 hbw_1; obtain ⟨ma, mb, mc, mf, ml⟩ := hM.mx
      · go_wp2_with fail
        go_ret
        exact ⟨rfl, HB0.out.trans (Below.mono (B := w0.heap.size) Kw hs0)⟩
      · rcases hdb : detMB r c ys p with _ | _
        all_goals
          clear hdb
          go_wp2_with fail
          go_ret
          exact ⟨rfl, HB0.out.trans (Below.mono (B := w0.heap.size) Kw hs0)⟩
    · obtain ⟨R, rfl, rfl, hR12, hrb, hrt⟩ := im_parts hi
      obtain ⟨hd1, hd2⟩ := im_some hi
      have K := redOk hrb
      obtain ⟨hp3, hp4⟩ := K.pb
      have HMX := Lib.hid K.mx
      have HRU := Lib.hid (fun L hL => red_unit hrb hrt (L := L) hL)
      have HSS := Lib.hid (fun i hi' => sm_solves (bs := bs) hrb hrt (i := i) hi')
      have hMY : imM R R ys p = ⟨R, R, tb R R (imV R ys p)⟩ := by rw [imM_yes hi, Int.toNat_natCast]; rfl
      have hys : ys.length = R * R := by have := K.m.len; rw [← Int.natCast_mul] at this; omega
      have HNY : Hid (∀ k, Num (ys.getD k 0)) := Lib.hid (fun k => K.m.nums k)
      have HPR := Lib.hid K.pr
      have HMY := Lib.hid hMY
      have HI := Lib.hid hi
      have HRB := Lib.hid hrb
      have HD1 := Lib.hid hd1
      have HYS := Lib.hid hys
      have hys2 : n1 ≤ R * R ∧ R * R ≤ n1 := by have := H1.out.len; omega
      have hRR : R * R ≤ 12 * 12 := Nat.mul_le_mul hR12 hR12
      clear K hMY hys hi hrb hrt
      refine (impl_InverseMod R R p A1 n1 c1 ys _ (B := w0.heap.size) (Kr H1.out) Ks (by omega)).mono ?_
      rw [HI.out, HMY.out]
      rintro e w2 ⟨A3, n3, c3, rfl, ho3, hb2⟩
      have e3 := OR.lenEq (xs := tb R R (imV R ys p)) ho3
      rw [tb_len] at e3
      have n3x : n3 ≤ R * R ∧ R * R ≤ n3 := by omega
      have H3 : Hid (RI w2 w2.heap.size A3 n3 (tb R R (imV R ys p))) := Lib.hid (OR.reads (xs := tb R R (imV R ys p)) ho3)
      clear ho3 e3
      have hszw2 := hb2.size; (try simp at hszw2); have hM_1 : BM w2 bM ((R : Int)) ((R : Int)) A1 n1 c1 := (Kb hM); have H1_1 : Hid (RI w2 w0.heap.size A1 n1 ys) := Lib.hid (Kr H1.out); have H2_1 : Hid (RI w2 w0.heap.size A2 n2 bs) := Lib.hid (Kr H2.out); have hbw_1 : Below w0.heap.size w0 w2 := Kw; clear hM hbw H1 H2 ma mb mc mf ml hb2; have hM := hM_1; have H1 := H1_1; have H2 := H2_1; have hbw := hbw_1; clear hM_1 H1_1 H2_1 hbw_1; obtain ⟨ma, mb, mc, mf, ml⟩ := hM.mx
      have hV : BM (w2.alloc (.cells #[.int .i64 R, .int .i64 R, .slice A3 n3 c3] 26)) w2.heap.size R R A3 n3 c3 := Ka
      obtain ⟨va, vb, vc, vf, vl⟩ := hV.mx
      go_wp2_with fail
      refine (spec_InverseMod R R p A1 n1 c1 ys _ (B := w0.heap.size) (Kr H1.out) Ks (by omega)).mono ?_
      rw [HI.out, HMY.out]
      rintro e w3 ⟨A4, n4, c4, rfl, -, hb3⟩
      have hV_1 : BM w3 w2.heap.size R R A3 n3 c3 := (Kb hV); have H3_1 : Hid (RI w3 w2.heap.size A3 n3 (tb R R (imV R ys p))) := Lib.hid (Kr H3.out); clear hV H3 va vb vc vf vl; have hV := hV_1; have H3 := H3_1; clear hV_1 H3_1; obtain ⟨va, vb, vc, vf, vl⟩ := hV.mx; have hszw3 := hb3.size; (try simp at hszw3); have hM_1 : BM w3 bM ((R : Int)) ((R : Int)) A1 n1 c1 := (Kb hM); have H1_1 : Hid (RI w3 w0.heap.size A1 n1 ys) := Lib.hid (Kr H1.out); have H2_1 : Hid (RI w3 w0.heap.size A2 n2 bs) := Lib.hid (Kr H2.out); have hbw_1 : Below w0.heap.size w0 w3 := Kw; clear hM hbw H1 H2 ma mb mc mf ml hb3; have hM := hM_1; have H1 := H1_1; have H2 := H2_1; have hbw := hbw_1; clear hM_1 H1_1 H2_1 hbw_1; obtain ⟨ma, mb, mc, mf, ml⟩ := hM.mx
      go_wp2_with fail
      obtain ⟨d, hd⟩ : ∃ d, detM R R ys p = d := ⟨_, rfl⟩
      have hd0 : (d == 0) = false := by rw [← hd]; simpa using hd2
      refine (impl_DeterminantMod R R p A1 n1 c1 ys _ (B := w0.heap.size) (Kr H1.out) Ks (by omega)).mono ?_
      rw [hd, HD1.out]
      clear hd hd2
      rintro e w4 ⟨rfl, hb4⟩
      have hV_1 : BM w4 w2.heap.size R R A3 n3 c3 := (Kb hV); have H3_1 : Hid (RI w4 w2.heap.size A3 n3 (tb R R (imV R ys p))) := Lib.hid (Kr H3.out); clear hV H3 va vb vc vf vl; have hV := hV_1; have H3 := H3_1; clear hV_1 H3_1; obtain ⟨va, vb, vc, vf, vl⟩ := hV.mx; have hszw4 := hb4.size; (try simp at hszw4); have hM_1 : BM w4 bM ((R : Int)) ((R : Int)) A1 n1 c1 := (Kb hM); have H1_1 : Hid (RI w4 w0.heap.size A1 n1 ys) := Lib.hid (Kr H1.out); have H2_1 : Hid (RI w4 w0.heap.size A2 n2 bs) := Lib.hid (Kr H2.out); have hbw_1 : Below w0.heap.size w0 w4 := Kw; clear hM hbw H1 H2 ma mb mc mf ml hb4; have hM := hM_1; have H1 := H1_1; have H2 := H2_1; have hbw := hbw_1; clear hM_1 H1_1 H2_1 hbw_1; obtain ⟨ma, mb, mc, mf, ml⟩ := hM.mx
      go_wp2_with fail
      refine (impl_SolveMod R R p A1 A2 n1 c1 n2 c2 ys bs _ (B := w0.heap.size) (B' := w0.heap.size) (Kr H1.out) (Kr H2.out) Ks Ks (by omega) (by omega)).mono ?_
      rintro e w5 ⟨A5, n5, c5, rfl, ho5, hb5⟩
      obtain ⟨x, hx⟩ : ∃ x, smV R R ys bs p = x := ⟨_, rfl⟩
      rw [hx] at ho5
      have e5 := OR.lenEq (xs := x) ho5
      have H5 : Hid (RI w5 w5.heap.size A5 n5 x) := Lib.hid (OR.reads (xs := x) ho5)
      have HX := Lib.hid hx
      have hl5 := smV_len R R ys bs p
      rw [hx] at hl5
      have hn5 : n5 ≤ 1048576 := by omega
      have HE5 := Lib.hid e5
      clear ho5 e5 hx hl5
      have hV_1 : BM w5 w2.heap.size R R A3 n3 c3 := (Kb hV); have H3_1 : Hid (RI w5 w2.heap.size A3 n3 (tb R R (imV R ys p))) := Lib.hid (Kr H3.out); clear hV H3 va vb vc vf vl; have hV := hV_1; have H3 := H3_1; clear hV_1 H3_1; obtain ⟨va, vb, vc, vf, vl⟩ := hV.mx; have hszw5 := hb5.size; (try simp at hszw5); have hM_1 : BM w5 bM ((R : Int)) ((R : Int)) A1 n1 c1 := (Kb hM); have H1_1 : Hid (RI w5 w0.heap.size A1 n1 ys) := Lib.hid (Kr H1.out); have H2_1 : Hid (RI w5 w0.heap.size A2 n2 bs) := Lib.hid (Kr H2.out); have hbw_1 : Below w0.heap.size w0 w5 := Kw; clear hM hbw H1 H2 ma mb mc mf ml hb5; have hM := hM_1; have H1 := H1_1; have H2 := H2_1; have hbw := hbw_1; clear hM_1 H1_1 H2_1 hbw_1; obtain ⟨ma, mb, mc, mf, ml⟩ := hM.mx
      go_wp2_with fail
      refine (impl_ReduceMod R R p A1 n1 c1 ys _ (B := w0.heap.size) (Kr H1.out) Ks (by omega)).mono ?_
      rw [HMX.out, HRB.out]
      rintro e w6 ⟨A6, n6, c6, rfl, ho6, hb6⟩
      have e6 := OR.lenEq (xs := redL ys p) ho6
      have hn6 : n6 ≤ 1048576 := by have : (redL ys p).length = ys.length := by simp [redL]
                                    have := HYS.out; omega
      have H6 : Hid (RI w6 w6.heap.size A6 n6 (redL ys p)) := Lib.hid (OR.reads (xs := redL ys p) ho6)
      clear ho6 e6
      have H5_1 : Hid (RI w6 w5.heap.size A5 n5 x) := Lib.hid (Kr H5.out); clear H5; have H5 := H5_1; clear H5_1; have hV_1 : BM w6 w2.heap.size R R A3 n3 c3 := (Kb hV); have H3_1 : Hid (RI w6 w2.heap.size A3 n3 (tb R R (imV R ys p))) := Lib.hid (Kr H3.out); clear hV H3 va vb vc vf vl; have hV := hV_1; have H3 := H3_1; clear hV_1 H3_1; obtain ⟨va, vb, vc, vf, vl⟩ := hV.mx; have hszw6 := hb6.size; (try simp at hszw6); have hM_1 : BM w6 bM ((R : Int)) ((R : Int)) A1 n1 c1 := (Kb hM); have H1_1 : Hid (RI w6 w0.heap.size A1 n1 ys) := Lib.hid (Kr H1.out); have H2_1 : Hid (RI w6 w0.heap.size A2 n2 bs) := Lib.hid (Kr H2.out); have hbw_1 : Below w0.heap.size w0 w6 := Kw; clear hM hbw H1 H2 ma mb mc mf ml hb6; have hM := hM_1; have H1 := H1_1; have H2 := H2_1; have hbw := hbw_1; clear hM_1 H1_1 H2_1 hbw_1; obtain ⟨ma, mb, mc, mf, ml⟩ := hM.mx
      go_wp2_with fail
      refine (impl_MultiplyMatrices R R R R A6 A3 n6 c6 n3 c3 (redL ys p) (tb R R (imV R ys p)) _ (B := w6.heap.size) (B' := w2.heap.size) (Kr H6.out) (Kr H3.out) Ks Ks (by omega) (by omega)).mono ?_
      rcases hmb : mulB R R (redL ys p) R R (tb R R (imV R ys p)) with _ | _
      · rw [mulM_no hmb]
        clear hmb
        rintro e w7 ⟨A7, n7, c7, rfl, ho7, hb7⟩
        have e7 := OR.lenEq (xs := []) ho7
        have hn7 : n7 ≤ 1048576 := by have : ([] : List Int).length = 0 := rfl
                                      omega
        have H7 : Hid (RI w7 w7.heap.size A7 n7 []) := Lib.hid (OR.reads (xs := []) ho7)
        clear ho7 e7
        have H5_1 : Hid (RI w7 w5.heap.size A5 n5 x) := Lib.hid (Kr H5.out); clear H5; have H5 := H5_1; clear H5_1; have hV_1 : BM w7 w2.heap.size R R A3 n3 c3 := (Kb hV); have H3_1 : Hid (RI w7 w2.heap.size A3 n3 (tb R R (imV R ys p))) := Lib.hid (Kr H3.out); clear hV H3 va vb vc vf vl; have hV := hV_1; have H3 := H3_1; clear hV_1 H3_1; obtain ⟨va, vb, vc, vf, vl⟩ := hV.mx; have hszw7 := hb7.size; (try simp at hszw7); have hM_1 : BM w7 bM ((R : Int)) ((R : Int)) A1 n1 c1 := (Kb hM); have H1_1 : Hid (RI w7 w0.heap.size A1 n1 ys) := Lib.hid (Kr H1.out); have H2_1 : Hid (RI w7 w0.heap.size A2 n2 bs) := Lib.hid (Kr H2.out); have hbw_1 : Below w0.heap.size w0 w7 := Kw; clear hM hbw H1 H2 ma mb mc mf ml hb7; have hM := hM_1; have H1 := H1_1; have H2 := H2_1; have hbw := hbw_1; clear hM_1 H1_1 H2_1 hbw_1; obtain ⟨ma, mb, mc, mf, ml⟩ := hM.mx
        go_wp2_with fail
        refine (impl_ReduceMod 0 0 p A7 n7 c7 [] _ (B := w7.heap.size) (Kr H7.out) Ks hn7).mono ?_
        rintro e w8 ⟨A8, n8, c8, rfl, -, hb8⟩
        have H5_1 : Hid (RI w8 w5.heap.size A5 n5 x) := Lib.hid (Kr H5.out); clear H5; have H5 := H5_1; clear H5_1; have hV_1 : BM w8 w2.heap.size R R A3 n3 c3 := (Kb hV); have H3_1 : Hid (RI w8 w2.heap.size A3 n3 (tb R R (imV R ys p))) := Lib.hid (Kr H3.out); clear hV H3 va vb vc vf vl; have hV := hV_1; have H3 := H3_1; clear hV_1 H3_1; obtain ⟨va, vb, vc, vf, vl⟩ := hV.mx; have hszw8 := hb8.size; (try simp at hszw8); have hM_1 : BM w8 bM ((R : Int)) ((R : Int)) A1 n1 c1 := (Kb hM); have H1_1 : Hid (RI w8 w0.heap.size A1 n1 ys) := Lib.hid (Kr H1.out); have H2_1 : Hid (RI w8 w0.heap.size A2 n2 bs) := Lib.hid (Kr H2.out); have hbw_1 : Below w0.heap.size w0 w8 := Kw; clear hM hbw H1 H2 ma mb mc mf ml hb8; have hM := hM_1; have H1 := H1_1; have H2 := H2_1; have hbw := hbw_1; clear hM_1 H1_1 H2_1 hbw_1; obtain ⟨ma, mb, mc, mf, ml⟩ := hM.mx
        go_wp2_with fail
        ((refine wp_region_held_drew (S := (fun w' => True)) (by kernel_rfl) ?_ (fun hHeld => ?_)); ((focus ((try dsimp only); ((try trivial))))); ((refine tk_ (i := 0) (v := ?_) (y := Or.inl ⟨by rfl, ?_⟩) (h := ?_); rotate_left; (focus (((intro w hSw; (try dsimp only at hSw); go_simp) <;> (try with_reducible rfl)); done)); (try simp only [Act.put, p1_, p2_, p3_]))); ((refine tk_ (i := 1) (v := ?_) (y := Or.inl ⟨by rfl, ?_⟩) (h := ?_); rotate_left; (focus (((intro w hSw; (try dsimp only at hSw); go_simp) <;> (try with_reducible rfl)); done)); (try simp only [Act.put, p1_, p2_, p3_]))); ((refine tk_ (i := 2) (v := ?_) (y := Or.inl ⟨by rfl, ?_⟩) (h := ?_); rotate_left; (focus (((intro w hSw; (try dsimp only at hSw); go_simp) <;> (try with_reducible rfl)); done)); (try simp only [Act.put, p1_, p2_, p3_]))); ((refine tk_ (i := 3) (v := ?_) (y := Or.inl ⟨by rfl, ?_⟩) (h := ?_); rotate_left; (focus (((intro w hSw; (try dsimp only at hSw); go_simp) <;> (try with_reducible rfl)); done)); (try simp only [Act.put, p1_, p2_, p3_]))); ((refine tk_ (i := 4) (v := ?_) (y := Or.inl ⟨by rfl, ?_⟩) (h := ?_); rotate_left; (focus (((intro w hSw; (try dsimp only at hSw); go_simp) <;> (try with_reducible rfl)); done)); (try simp only [Act.put, p1_, p2_, p3_]))); ((refine wpAnyH_take (i := 5) (by simp only [e1_, e2_, e3_]; try rfl) (by kernel_rfl) (by kernel_rfl) (by kernel_rfl) (by exact fun _ _ _ h => h) (Or.inr ⟨by rfl, rfl⟩) (by assumption) ?_; (try simp only [Act.put, p1_, p2_, p3_]))); ((refine wpAnyH_take (i := 6) (by simp only [e1_, e2_, e3_]; try rfl) (by kernel_rfl) (by kernel_rfl) (by kernel_rfl) (by exact fun _ _ _ h => h) (Or.inr ⟨by rfl, rfl⟩) (by assumption) ?_; (try simp only [Act.put, p1_, p2_, p3_]))); ((refine wpAnyH_take (i := 7) (by simp only [e1_, e2_, e3_]; try rfl) (by kernel_rfl) (by kernel_rfl) (by kernel_rfl) (by exact fun _ _ _ h => h) (Or.inr ⟨by rfl, rfl⟩) (by assumption) ?_; (try simp only [Act.put, p1_, p2_, p3_]))); ((refine wpAnyH_ready (rs := [8]) (by kernel_rfl) (by simp) ?_; refine AllReadyH.cons (by simp only [e1_, e2_, e3_]; try rfl) (fun K hK => ?_) AllReadyH.nil; go_simp; with_reducible refine hK.out _ _ ?_ (fun hHeld => ?_); (focus ((try dsimp only); ((try trivial)))); clear hK K; (try simp only [Act.put, p1_, p2_, p3_]))); ((refine wpAnyH_ready (rs := [9]) (by kernel_rfl) (by simp) ?_; refine AllReadyH.cons (by simp only [e1_, e2_, e3_]; try rfl) (fun K hK => ?_) AllReadyH.nil; go_simp; with_reducible refine hK.out _ _ ?_ (fun hHeld => ?_); (focus ((try dsimp only); ((try trivial)))); clear hK K; (try simp only [Act.put, p1_, p2_, p3_]))); ((refine wpAnyH_take (i := 10) (by simp only [e1_, e2_, e3_]; try rfl) (by kernel_rfl) (by kernel_rfl) (by kernel_rfl) (by exact fun _ _ _ h => h) (Or.inr ⟨by rfl, rfl⟩) (by assumption) ?_; (try simp only [Act.put, p1_, p2_, p3_]))); ((refine tk_ (i := 11) (v := ?_) (y := Or.inl ⟨by rfl, ?_⟩) (h := ?_); rotate_left; (focus (((intro w hSw; (try dsimp only at hSw); go_simp) <;> (try with_reducible rfl)); done)); (try simp only [Act.put, p1_, p2_, p3_]))); ((refine tk_ (i := 12) (v := ?_) (y := Or.inl ⟨by rfl, ?_⟩) (h := ?_); rotate_left; (focus (((intro w hSw; (try dsimp only at hSw); go_simp) <;> (try with_reducible rfl)); done)); (try simp only [Act.put, p1_, p2_, p3_]))); (refine wpAnyH_done (by kernel_rfl) ?_ _))
        rcases hsb : smB R R ys bs p with _ | _
        · clear hsb
          go_wp2_with fail
          go_loopw [20] (fun v wr => v = .int .i64 0 ∧ BM wr bM (R : Int) (R : Int) A1 n1 c1 ∧ Below w0.heap.size w0 wr) (fun _ _ => 0)
          case atStart => exact ⟨rfl, Kb hM, Kw⟩
          case round =>
            clear hM hbw ma mb mc mf ml
            obtain ⟨rfl, hM, hbw⟩ := hrel
            obtain ⟨ma, mb, mc, mf, ml⟩ := hM.mx
            by_cases h0 : 0 < R
            · go_wp2_with fail
              go_ret
              exact ⟨rfl, HB0.out.trans (Below.mono (B := w0.heap.size) Kw hs0)⟩
            · go_wp2_with fail
              go_ret
              exact ⟨rfl, HB0.out.trans (Below.mono (B := w0.heap.size) Kw hs0)⟩
        · have hxv : x = smL R R (imV R ys p) bs p := by
            rw [← HX.out, smV_yes hsb, Int.toNat_natCast]; rfl
          have hsb2 := hsb
          unfold smB at hsb2
          rw [Bool.and_eq_true, Bool.and_eq_true] at hsb2
          have hbl := of_decide_eq_true hsb2.1.2
          have HNB : Hid (∀ k, Num (bs.getD k 0)) := Lib.hid (getD_num hsb2.2)
          have HXV := Lib.hid hxv
          have hxl : x.length = R := by rw [hxv, smL_len]
          have n5x : n5 ≤ R ∧ R ≤ n5 := by have := HE5.out; omega
          have n2y : n2 ≤ R ∧ R ≤ n2 := by omega
          have hry := H1.out
          have hrb := H2.out
          have hrx := H5.out
          clear hsb hsb2 hbl hxv hxl
          go_wp2_with fail
          go_loopw [20] (fun v wr => ∃ i : Nat, v = .int .i64 i ∧ i ≤ R ∧ BM wr bM (R : Int) (R : Int) A1 n1 c1 ∧ RI wr w0.heap.size A1 n1 ys ∧ RI wr w0.heap.size A2 n2 bs ∧ RI wr w5.heap.size A5 n5 x ∧ Below w0.heap.size w0 wr ∧ w5.heap.size ≤ wr.heap.size) (fun v _ => R - (intOf v).toNat)
          case atStart => exact ⟨0, rfl, Nat.zero_le _, Kb hM, Kr hry, Kr hrb, Kr hrx, Kw, Ks⟩
          case round =>
            clear hM hbw ma mb mc mf ml hry hrb hrx
            obtain ⟨i, rfl, hi, hM, hry, hrb, hrx, hbw, hs5r⟩ := hrel
            obtain ⟨ma, mb, mc, mf, ml⟩ := hM.mx
            have hsr := hbw.size
            by_cases hiR : i < R
            · obtain ⟨b2, o2, rfl, hb2_, -⟩ := hrb.2 (by omega)
              have q2 := RI.at_ hrb (k := i) (by omega)
              obtain ⟨z1, z2⟩ := HNB.out i
              have HSOL := Lib.hid (HSS.out i hiR)
              obtain ⟨z, hz⟩ : ∃ z, bs.getD i 0 = z := ⟨_, rfl⟩
              rw [hz] at q2 z1 z2 HSOL
              clear hz
              have hp0 : ¬ p = 0 := by omega
              have hzb0 := tmod_abs z hp3
              have hzb : -p < -(z.tmod p) ∧ -(z.tmod p) < p := by omega
              clear hzb0
              have HRBX := Lib.hid hrb
              clear hrb
              go_wp2_with fail
              have hrb := HRBX.out
              clear q2
              go_loopw [21, 22] (fun u v wr => ∃ j : Nat, v = .int .i64 j ∧ u = .int .i64 (imN p (-(z.tmod p)) (fun l => cel ys R i l) (fun l => x.getD l 0) j) ∧ j ≤ R ∧ BM wr bM (R : Int) (R : Int) A1 n1 c1 ∧ RI wr w0.heap.size A1 n1 ys ∧ RI wr w0.heap.size (some ⟨b2, o2, none⟩) n2 bs ∧ RI wr w5.heap.size A5 n5 x ∧ Below w0.heap.size w0 wr ∧ w5.heap.size ≤ wr.heap.size) (fun _ v _ => R - (intOf v).toNat)
              case atStart => exact ⟨0, rfl, rfl, Nat.zero_le _, Kb hM, Kr hry, Kr hrb, Kr hrx, Kw, Ks⟩
              case round =>
                clear hM hbw ma mb mc mf ml hry hrb hrx
                obtain ⟨j, rfl, rfl, hj, hM, hry, hrb, hrx, hbw, hs5r⟩ := hrel
                obtain ⟨ma, mb, mc, mf, ml⟩ := hM.mx
                have hsr2 := hbw.size
                by_cases hjR : j < R
                · obtain ⟨T, hT⟩ : ∃ T, i * R = T := ⟨_, rfl⟩
                  have hTR : T + R ≤ R * R := by have := Nat.mul_le_mul_right R (show i + 1 ≤ R by omega); rw [Nat.add_mul, Nat.one_mul, hT] at this; exact this
                  have e1 : (i : Int) * (R : Int) = (T : Int) := by rw [← hT, Int.natCast_mul]
                  have hcel : cel ys R i j = ys.getD (T + j) 0 := by rw [cel_nat, hT]
                  obtain ⟨b1, o1, rfl, hb1_, -⟩ := hry.2 (by omega)
                  obtain ⟨b5, o5, rfl, hb5_, -⟩ := hrx.2 (by omega)
                  have q1 := RI.at_ hry (k := T + j) (by omega)
                  have q5 := RI.at_ hrx (k := j) (by omega)
                  obtain ⟨y1, y2⟩ := HNY.out (T + j)
                  have hxb : 0 ≤ x.getD j 0 ∧ x.getD j 0 < p := by rw [HXV.out]; unfold smL; rw [tab_getD hjR]; exact smS_bd hp3 j R
                  have hNb := imN_bd (m := fun l => cel ys R i l) (x := fun l => x.getD l 0) hp3 hzb j
                  have HSTEP : Hid (imN p (-(z.tmod p)) (fun l => cel ys R i l) (fun l => x.getD l 0) (j + 1) = (imN p (-(z.tmod p)) (fun l => cel ys R i l) (fun l => x.getD l 0) j + (ys.getD (T + j) 0).tmod p * x.getD j 0).tmod p) := Lib.hid (by rw [← hcel]; rfl)
                  generalize ys.getD (T + j) 0 = y at *
                  generalize x.getD j 0 = xj at *
                  generalize imN p (-(z.tmod p)) (fun l => cel ys R i l) (fun l => x.getD l 0) j = N at *
                  have hyb := tmod_abs y hp3
                  have hmb : ((y.tmod p) * xj).natAbs ≤ 10000 * 10000 := by rw [Int.natAbs_mul]; exact Nat.mul_le_mul (by omega) (by omega)
                  have hw1 : IntKind.i64.wrap ((i : Int) * (R : Int)) = (T : Int) := by rw [e1]; exact IntWalk.i64_in _ (by omega)
                  have hw2 : IntKind.i64.wrap ((T : Int) + (j : Int)) = (T : Int) + (j : Int) := IntWalk.i64_in _ (by omega)
                  have hw3 : IntKind.i64.wrap (y.tmod p * xj) = y.tmod p * xj := IntWalk.i64_in _ (by omega)
                  have hw4 : IntKind.i64.wrap (N + y.tmod p * xj) = N + y.tmod p * xj := IntWalk.i64_in _ (by omega)
                  have i1 : (T : Int) + (j : Int) < (n1 : Int) := by omega
                  have i2 : ((T : Int) + (j : Int)).toNat = T + j := by omega
                  have i3 : (0 : Int) ≤ (T : Int) + (j : Int) := by omega
                  have i4 : j < n5 := by omega
                  have HRY := Lib.hid hry
                  have HRX := Lib.hid hrx
                  have HRB2 := Lib.hid hrb
                  clear hcel hT e1 hry hrx hrb hTR hmb
                  go_wp2_with fail
                  ((refine wp_region_held_drew (S := (fun w' => w'.cell? ⟨bM, 0, none⟩ = some (.int .i64 R) ∧ w'.cell? ⟨bM, 2, none⟩ = some (.slice (some ⟨b1, o1, none⟩) n1 c1) ∧ w'.cell? ⟨b1, o1 + (T + j), none⟩ = some (.int .i64 y) ∧ w'.cell? ⟨b5, o5 + j, none⟩ = some (.int .i64 xj))) (by kernel_rfl) ?_ (fun hHeld => ?_)); ((focus ((try dsimp only); ((first | (go_keep; done) | exact ⟨ma, mc, q1, q5⟩))))); ((refine tk_ (i := 0) (v := ?_) (y := Or.inl ⟨by rfl, ?_⟩) (h := ?_); rotate_left; (focus (((intro w hSw; (try dsimp only at hSw); go_simp) <;> (try with_reducible rfl)); done)); (try simp only [Act.put, p1_, p2_, p3_]))); ((refine tk_ (i := 1) (v := ?_) (y := Or.inl ⟨by rfl, ?_⟩) (h := ?_); rotate_left; (focus (((intro w hSw; (try dsimp only at hSw); go_simp) <;> (try with_reducible rfl)); done)); (try simp only [Act.put, p1_, p2_, p3_]))); ((refine tk_ (i := 2) (v := ?_) (y := Or.inl ⟨by rfl, ?_⟩) (h := ?_); rotate_left; (focus (((intro w hSw; (try dsimp only at hSw); go_simp) <;> (try with_reducible rfl)); done)); (try simp only [Act.put, p1_, p2_, p3_]))); ((refine tk_ (i := 3) (v := ?_) (y := Or.inl ⟨by rfl, ?_⟩) (h := ?_); rotate_left; (focus (((intro w hSw; (try dsimp only at hSw); go_simp) <;> (try with_reducible rfl)); done)); (try simp only [Act.put, p1_, p2_, p3_]))); ((refine tk_ (i := 4) (v := ?_) (y := Or.inl ⟨by rfl, ?_⟩) (h := ?_); rotate_left; (focus (((intro w hSw; (try dsimp only at hSw); go_simp) <;> (try with_reducible rfl)); done)); (try simp only [Act.put, p1_, p2_, p3_]))); ((refine tk_ (i := 5) (v := ?_) (y := Or.inl ⟨by rfl, ?_⟩) (h := ?_); rotate_left; (focus (((intro w hSw; (try dsimp only at hSw); go_simp) <;> (try with_reducible rfl)); done)); (try simp only [Act.put, p1_, p2_, p3_]))); ((refine tk_ (i := 6) (v := ?_) (y := Or.inl ⟨by rfl, ?_⟩) (h := ?_); rotate_left; (focus (((intro w hSw; (try dsimp only at hSw); go_simp) <;> (try with_reducible rfl)); done)); (try simp only [Act.put, p1_, p2_, p3_]))); ((refine tk_ (i := 7) (v := ?_) (y := Or.inl ⟨by rfl, ?_⟩) (h := ?_); rotate_left; (focus (((intro w hSw; (try dsimp only at hSw); go_simp) <;> (try with_reducible rfl)); done)); (try simp only [Act.put, p1_, p2_, p3_]))); ((refine tk_ (i := 8) (v := ?_) (y := Or.inl ⟨by rfl, ?_⟩) (h := ?_); rotate_left; (focus (((intro w hSw; (try dsimp only at hSw); go_simp) <;> (try with_reducible rfl)); done)); (try simp only [Act.put, p1_, p2_, p3_]))); ((refine tk_ (i := 9) (v := ?_) (y := Or.inl ⟨by rfl, ?_⟩) (h := ?_); rotate_left; (focus (((intro w hSw; (try dsimp only at hSw); go_simp) <;> (try with_reducible rfl)); done)); (try simp only [Act.put, p1_, p2_, p3_]))); ((refine tk_ (i := 10) (v := ?_) (y := Or.inl ⟨by rfl, ?_⟩) (h := ?_); rotate_left; (focus (((intro w hSw; (try dsimp only at hSw); go_simp) <;> (try with_reducible rfl)); done)); (try simp only [Act.put, p1_, p2_, p3_]))); ((refine tk_ (i := 11) (v := ?_) (y := Or.inl ⟨by rfl, ?_⟩) (h := ?_); rotate_left; (focus (((intro w hSw; (try dsimp only at hSw); go_simp) <;> (try with_reducible rfl)); done)); (try simp only [Act.put, p1_, p2_, p3_]))); ((refine tk_ (i := 12) (v := ?_) (y := Or.inl ⟨by rfl, ?_⟩) (h := ?_); rotate_left; (focus (((intro w hSw; (try dsimp only at hSw); go_simp) <;> (try with_reducible rfl)); done)); (try simp only [Act.put, p1_, p2_, p3_]))); ((refine tk_ (i := 13) (v := ?_) (y := Or.inl ⟨by rfl, ?_⟩) (h := ?_); rotate_left; (focus (((intro w hSw; (try dsimp only at hSw); go_simp) <;> (try with_reducible rfl)); done)); (try simp only [Act.put, p1_, p2_, p3_]))); ((refine tk_ (i := 14) (v := ?_) (y := Or.inl ⟨by rfl, ?_⟩) (h := ?_); rotate_left; (focus (((intro w hSw; (try dsimp only at hSw); go_simp) <;> (try with_reducible rfl)); done)); (try simp only [Act.put, p1_, p2_, p3_]))); ((refine tk_ (i := 15) (v := ?_) (y := Or.inl ⟨by rfl, ?_⟩) (h := ?_); rotate_left; (focus (((intro w hSw; (try dsimp only at hSw); go_simp) <;> (try with_reducible rfl)); done)); (try simp only [Act.put, p1_, p2_, p3_]))); ((refine tk_ (i := 16) (v := ?_) (y := Or.inl ⟨by rfl, ?_⟩) (h := ?_); rotate_left; (focus (((intro w hSw; (try dsimp only at hSw); go_simp) <;> (try with_reducible rfl)); done)); (try simp only [Act.put, p1_, p2_, p3_]))); ((refine tk_ (i := 17) (v := ?_) (y := Or.inl ⟨by rfl, ?_⟩) (h := ?_); rotate_left; (focus (((intro w hSw; (try dsimp only at hSw); go_simp) <;> (try with_reducible rfl)); done)); (try simp only [Act.put, p1_, p2_, p3_]))); ((refine tk_ (i := 18) (v := ?_) (y := Or.inl ⟨by rfl, ?_⟩) (h := ?_); rotate_left; (focus (((intro w hSw; (try dsimp only at hSw); go_simp) <;> (try with_reducible rfl)); done)); (try simp only [Act.put, p1_, p2_, p3_]))); ((refine tk_ (i := 19) (v := ?_) (y := Or.inl ⟨by rfl, ?_⟩) (h := ?_); rotate_left; (focus (((intro w hSw; (try dsimp only at hSw); go_simp) <;> (try with_reducible rfl)); done)); (try simp only [Act.put, p1_, p2_, p3_]))); ((refine tk_ (i := 20) (v := ?_) (y := Or.inl ⟨by rfl, ?_⟩) (h := ?_); rotate_left; (focus (((intro w hSw; (try dsimp only at hSw); go_simp) <;> (try with_reducible rfl)); done)); (try simp only [Act.put, p1_, p2_, p3_]))); ((refine tk_ (i := 21) (v := ?_) (y := Or.inl ⟨by rfl, ?_⟩) (h := ?_); rotate_left; (focus (((intro w hSw; (try dsimp only at hSw); go_simp) <;> (try with_reducible rfl)); done)); (try simp only [Act.put, p1_, p2_, p3_]))); (refine wpAnyH_done (by kernel_rfl) ?_ _))
                  have hry := HRY.out
                  have hrx := HRX.out
                  have hrb := HRB2.out
                  clear hw1 hw2 hw3 hw4 i1 i2 i3 q1 q5
                  go_wp2_with fail
                  go_roundw
                  case rel => exact ⟨j + 1, by go_num, by rw [HSTEP.out], by omega, Kb hM, Kr hry, Kr hrb, Kr hrx, Kw, Ks⟩
                  case measure => simp only [intOf]; omega
                · obtain rfl : j = R := by omega
                  have hz0 : imN p (-(z.tmod p)) (fun l => cel ys j i l) (fun l => x.getD l 0) j = 0 := imN_zero (by omega) (by
                    have h1 := HSOL.out
                    have h2 : p ∣ -(z.tmod p) - -z := by have := Int.dvd_neg.2 (dvd_tmod z p); rwa [show -(z.tmod p - z) = -(z.tmod p) - -z by omega] at this
                    have h3 : sumTo (fun k => cel ys j i k * x.getD k 0) j = sumTo (fun k => cel ys j i k * smS (imV j ys p) bs p k j) j := sumTo_congr j fun k hk => by
                      rw [HXV.out]; unfold smL; rw [tab_getD hk]
                    rw [h3]
                    have := Int.dvd_add h2 h1
                    rwa [show -(z.tmod p) - -z + (sumTo (fun k => cel ys j i k * smS (imV j ys p) bs p k j) j - z) = -(z.tmod p) + sumTo (fun k => cel ys j i k * smS (imV j ys p) bs p k j) j by omega] at this)
                  rw [hz0]
                  have HRY := Lib.hid hry
                  have HRX := Lib.hid hrx
                  have HRB2 := Lib.hid hrb
                  clear hz0 hry hrx hrb
                  go_wp2_with fail
                  have hry := HRY.out
                  have hrx := HRX.out
                  have hrb := HRB2.out
                  go_roundw
                  case rel => exact ⟨i + 1, by go_num, by omega, Kb hM, Kr hry, Kr hrb, Kr hrx, Kw, Ks⟩
                  case measure => simp only [intOf]; omega
            · go_wp2_with fail
              go_ret
              exact ⟨rfl, HB0.out.trans (Below.mono (B := w0.heap.size) Kw hs0)⟩
      · rw [mulM_yes hmb]
        simp only [Int.toNat_natCast]
        have hml : isMat R R (mulL (redL ys p) R R (tb R R (imV R ys p)) R) = true := by
          unfold mulB at hmb
          rw [Bool.and_eq_true] at hmb
          have := hmb.2
          simpa only [Int.toNat_natCast] using this
        obtain ⟨L, hL⟩ : ∃ L, mulL (redL ys p) R R (tb R R (imV R ys p)) R = L := ⟨_, rfl⟩
        have hz := HRU.out L hL.symm
        rw [hL] at hml
        rw [hL]
        have hrl : redB R R L p = true := by unfold redB; rw [hml, HPR.out]; rfl
        have HML := Lib.hid (show redM R R L p = ⟨R, R, tb R R idF⟩ by rw [(redOk hrl).mx, hz])
        have hLL : L.length = R * R := by rw [← hL, mulL_len]
        have hsm : sameB R R (tb R R idF) R R (tb R R idF) = true := by simp [sameB, eqB]
        have HSMB := Lib.hid hsm
        clear hmb hml hL hz hrl hsm
        rintro e w7 ⟨A7, n7, c7, rfl, ho7, hb7⟩
        have e7 := OR.lenEq (xs := L) ho7
        have hn7 : n7 ≤ 1048576 := by omega
        have H7 : Hid (RI w7 w7.heap.size A7 n7 L) := Lib.hid (OR.reads (xs := L) ho7)
        clear ho7 e7 hLL
        have H5_1 : Hid (RI w7 w5.heap.size A5 n5 x) := Lib.hid (Kr H5.out); clear H5; have H5 := H5_1; clear H5_1; have hV_1 : BM w7 w2.heap.size R R A3 n3 c3 := (Kb hV); have H3_1 : Hid (RI w7 w2.heap.size A3 n3 (tb R R (imV R ys p))) := Lib.hid (Kr H3.out); clear hV H3 va vb vc vf vl; have hV := hV_1; have H3 := H3_1; clear hV_1 H3_1; obtain ⟨va, vb, vc, vf, vl⟩ := hV.mx; have hszw7 := hb7.size; (try simp at hszw7); have hM_1 : BM w7 bM ((R : Int)) ((R : Int)) A1 n1 c1 := (Kb hM); have H1_1 : Hid (RI w7 w0.heap.size A1 n1 ys) := Lib.hid (Kr H1.out); have H2_1 : Hid (RI w7 w0.heap.size A2 n2 bs) := Lib.hid (Kr H2.out); have hbw_1 : Below w0.heap.size w0 w7 := Kw; clear hM hbw H1 H2 ma mb mc mf ml hb7; have hM := hM_1; have H1 := H1_1; have H2 := H2_1; have hbw := hbw_1; clear hM_1 H1_1 H2_1 hbw_1; obtain ⟨ma, mb, mc, mf, ml⟩ := hM.mx
        go_wp2_with fail
        refine (impl_ReduceMod R R p A7 n7 c7 L _ (B := w7.heap.size) (Kr H7.out) Ks hn7).mono ?_
        rw [HML.out]
        rintro e w8 ⟨A8, n8, c8, rfl, ho8, hb8⟩
        have e8 := OR.lenEq (xs := tb R R idF) ho8
        rw [tb_len] at e8
        have hn8 : n8 ≤ 1048576 := by omega
        have H8 : Hid (RI w8 w8.heap.size A8 n8 (tb R R idF)) := Lib.hid (OR.reads (xs := tb R R idF) ho8)
        clear ho8 e8
        have H5_1 : Hid (RI w8 w5.heap.size A5 n5 x) := Lib.hid (Kr H5.out); clear H5; have H5 := H5_1; clear H5_1; have hV_1 : BM w8 w2.heap.size R R A3 n3 c3 := (Kb hV); have H3_1 : Hid (RI w8 w2.heap.size A3 n3 (tb R R (imV R ys p))) := Lib.hid (Kr H3.out); clear hV H3 va vb vc vf vl; have hV := hV_1; have H3 := H3_1; clear hV_1 H3_1; obtain ⟨va, vb, vc, vf, vl⟩ := hV.mx; have hszw8 := hb8.size; (try simp at hszw8); have hM_1 : BM w8 bM ((R : Int)) ((R : Int)) A1 n1 c1 := (Kb hM); have H1_1 : Hid (RI w8 w0.heap.size A1 n1 ys) := Lib.hid (Kr H1.out); have H2_1 : Hid (RI w8 w0.heap.size A2 n2 bs) := Lib.hid (Kr H2.out); have hbw_1 : Below w0.heap.size w0 w8 := Kw; clear hM hbw H1 H2 ma mb mc mf ml hb8; have hM := hM_1; have H1 := H1_1; have H2 := H2_1; have hbw := hbw_1; clear hM_1 H1_1 H2_1 hbw_1; obtain ⟨ma, mb, mc, mf, ml⟩ := hM.mx
        have hZ : BM (w8.alloc (.cells #[.int .i64 R, .int .i64 R, .slice A8 n8 c8] 26)) w8.heap.size R R A8 n8 c8 := Ka
        obtain ⟨za, zb, zc, zf, zl⟩ := hZ.mx
        have hlM8 := hM.lt
        go_upto_region 15 with fail
        ((refine wp_region_held_drew (S := (fun w' => w'.cell? ⟨bM, 0, none⟩ = some (.int .i64 R) ∧ w'.cell? ⟨w8.heap.size, 0, none⟩ = some (.int .i64 R) ∧ w'.cell? ⟨w8.heap.size, 1, none⟩ = some (.int .i64 R) ∧ w'.cell? ⟨w8.heap.size, 2, none⟩ = some (.slice A8 n8 c8))) (by kernel_rfl) ?_ (fun hHeld => ?_)); ((focus ((try dsimp only); ((first | (go_keep; done) | exact ⟨ma, za, zb, zc⟩))))); ((refine tk_ (i := 0) (v := ?_) (y := Or.inl ⟨by rfl, ?_⟩) (h := ?_); rotate_left; (focus (((intro w hSw; (try dsimp only at hSw); go_simp) <;> (try with_reducible rfl)); done)); (try simp only [Act.put, p1_, p2_, p3_]))); ((refine tk_ (i := 1) (v := ?_) (y := Or.inl ⟨by rfl, ?_⟩) (h := ?_); rotate_left; (focus (((intro w hSw; (try dsimp only at hSw); go_simp) <;> (try with_reducible rfl)); done)); (try simp only [Act.put, p1_, p2_, p3_]))); ((refine tk_ (i := 2) (v := ?_) (y := Or.inl ⟨by rfl, ?_⟩) (h := ?_); rotate_left; (focus (((intro w hSw; (try dsimp only at hSw); go_simp) <;> (try with_reducible rfl)); done)); (try simp only [Act.put, p1_, p2_, p3_]))); ((refine tk_ (i := 3) (v := ?_) (y := Or.inl ⟨by rfl, ?_⟩) (h := ?_); rotate_left; (focus (((intro w hSw; (try dsimp only at hSw); go_simp) <;> (try with_reducible rfl)); done)); (try simp only [Act.put, p1_, p2_, p3_]))); ((refine tk_ (i := 4) (v := ?_) (y := Or.inl ⟨by rfl, ?_⟩) (h := ?_); rotate_left; (focus (((intro w hSw; (try dsimp only at hSw); go_simp) <;> (try with_reducible rfl)); done)); (try simp only [Act.put, p1_, p2_, p3_]))); ((refine tk_ (i := 5) (v := ?_) (y := Or.inl ⟨by rfl, ?_⟩) (h := ?_); rotate_left; (focus (((intro w hSw; (try dsimp only at hSw); go_simp) <;> (try with_reducible rfl)); done)); (try simp only [Act.put, p1_, p2_, p3_]))); ((refine tk_ (i := 6) (v := ?_) (y := Or.inl ⟨by rfl, ?_⟩) (h := ?_); rotate_left; (focus (((intro w hSw; (try dsimp only at hSw); go_simp) <;> (try with_reducible rfl)); done)); (try simp only [Act.put, p1_, p2_, p3_]))); ((refine tk_ (i := 7) (v := ?_) (y := Or.inl ⟨by rfl, ?_⟩) (h := ?_); rotate_left; (focus (((intro w hSw; (try dsimp only at hSw); go_simp) <;> (try with_reducible rfl)); done)); (try simp only [Act.put, p1_, p2_, p3_]))); ((refine wpAnyH_ready (rs := [8]) (by kernel_rfl) (by simp) ?_; refine AllReadyH.cons (by simp only [e1_, e2_, e3_]; try rfl) (fun K hK => ?_) AllReadyH.nil; go_simp; (go_at_call 42; refine (laws_unit R _ (by omega)).mono ?_; rintro e w9 ⟨A9, n9, c9, rfl, ho9, hb9⟩; have e9 := OR.lenEq (xs := tb R R idF) ho9; rw [tb_len] at e9; have hn9 : n9 ≤ 1048576 := (by omega); have H9 : Hid (RI w9 w9.heap.size A9 n9 (tb R R idF)) := Lib.hid (OR.reads (xs := tb R R idF) ho9); clear ho9 e9; have hZ_1 : BM w9 w8.heap.size R R A8 n8 c8 := (Kb hZ); have H8_1 : Hid (RI w9 w8.heap.size A8 n8 (tb R R idF)) := Lib.hid (Kr H8.out); clear hZ H8 za zb zc zf zl; have hZ := hZ_1; have H8 := H8_1; clear hZ_1 H8_1; obtain ⟨za, zb, zc, zf, zl⟩ := hZ.mx; have H5_1 : Hid (RI w9 w5.heap.size A5 n5 x) := Lib.hid (Kr H5.out); clear H5; have H5 := H5_1; clear H5_1; have hV_1 : BM w9 w2.heap.size R R A3 n3 c3 := (Kb hV); have H3_1 : Hid (RI w9 w2.heap.size A3 n3 (tb R R (imV R ys p))) := Lib.hid (Kr H3.out); clear hV H3 va vb vc vf vl; have hV := hV_1; have H3 := H3_1; clear hV_1 H3_1; obtain ⟨va, vb, vc, vf, vl⟩ := hV.mx; have hszw9 := hb9.size; (try simp at hszw9); have hM_1 : BM w9 bM ((R : Int)) ((R : Int)) A1 n1 c1 := (Kb hM); have H1_1 : Hid (RI w9 w0.heap.size A1 n1 ys) := Lib.hid (Kr H1.out); have H2_1 : Hid (RI w9 w0.heap.size A2 n2 bs) := Lib.hid (Kr H2.out); have hbw_1 : Below w0.heap.size w0 w9 := Kw; clear hM hbw H1 H2 ma mb mc mf ml hb9; have hM := hM_1; have H1 := H1_1; have H2 := H2_1; have hbw := hbw_1; clear hM_1 H1_1 H2_1 hbw_1; obtain ⟨ma, mb, mc, mf, ml⟩ := hM.mx); (try go_wp2_with fail); refine hK.out _ _ ?_ (fun hHeld => ?_); (focus ((try dsimp only); ((first | (go_keep; done) | exact ⟨ma, za, zb, zc⟩)))); clear hK K; (try simp only [Act.put, p1_, p2_, p3_]))); ((refine wpAnyH_ready (rs := [9]) (by kernel_rfl) (by simp) ?_; refine AllReadyH.cons (by simp only [e1_, e2_, e3_]; try rfl) (fun K hK => ?_) AllReadyH.nil; go_simp; (go_at_call 41; refine (impl_SameMatrix R R R R A8 A9 n8 c8 n9 c9 (tb R R idF) (tb R R idF) _ (B := w8.heap.size) (B' := w9.heap.size) (Kr H8.out) (Kr H9.out) Ks Ks hn8 hn9).mono ?_; rw [HSMB.out]; rintro e w10 ⟨rfl, hb10⟩; have hZ_1 : BM w10 w8.heap.size R R A8 n8 c8 := (Kb hZ); have H8_1 : Hid (RI w10 w8.heap.size A8 n8 (tb R R idF)) := Lib.hid (Kr H8.out); clear hZ H8 za zb zc zf zl; have hZ := hZ_1; have H8 := H8_1; clear hZ_1 H8_1; obtain ⟨za, zb, zc, zf, zl⟩ := hZ.mx; have H5_1 : Hid (RI w10 w5.heap.size A5 n5 x) := Lib.hid (Kr H5.out); clear H5; have H5 := H5_1; clear H5_1; have hV_1 : BM w10 w2.heap.size R R A3 n3 c3 := (Kb hV); have H3_1 : Hid (RI w10 w2.heap.size A3 n3 (tb R R (imV R ys p))) := Lib.hid (Kr H3.out); clear hV H3 va vb vc vf vl; have hV := hV_1; have H3 := H3_1; clear hV_1 H3_1; obtain ⟨va, vb, vc, vf, vl⟩ := hV.mx; have hszw10 := hb10.size; (try simp at hszw10); have hM_1 : BM w10 bM ((R : Int)) ((R : Int)) A1 n1 c1 := (Kb hM); have H1_1 : Hid (RI w10 w0.heap.size A1 n1 ys) := Lib.hid (Kr H1.out); have H2_1 : Hid (RI w10 w0.heap.size A2 n2 bs) := Lib.hid (Kr H2.out); have hbw_1 : Below w0.heap.size w0 w10 := Kw; clear hM hbw H1 H2 ma mb mc mf ml hb10; have hM := hM_1; have H1 := H1_1; have H2 := H2_1; have hbw := hbw_1; clear hM_1 H1_1 H2_1 hbw_1; obtain ⟨ma, mb, mc, mf, ml⟩ := hM.mx); (try go_wp2_with fail); refine hK.out _ _ ?_ (fun hHeld => ?_); (focus ((try dsimp only); ((first | (go_keep; done) | exact ⟨ma, za, zb, zc⟩)))); clear hK K; (try simp only [Act.put, p1_, p2_, p3_]))); ((refine tk_ (i := 10) (v := ?_) (y := Or.inl ⟨by rfl, ?_⟩) (h := ?_); rotate_left; (focus (((intro w hSw; (try dsimp only at hSw); go_simp) <;> (try with_reducible rfl)); done)); (try simp only [Act.put, p1_, p2_, p3_]))); ((refine tk_ (i := 11) (v := ?_) (y := Or.inl ⟨by rfl, ?_⟩) (h := ?_); rotate_left; (focus (((intro w hSw; (try dsimp only at hSw); go_simp) <;> (try with_reducible rfl)); done)); (try simp only [Act.put, p1_, p2_, p3_]))); ((refine tk_ (i := 12) (v := ?_) (y := Or.inl ⟨by rfl, ?_⟩) (h := ?_); rotate_left; (focus (((intro w hSw; (try dsimp only at hSw); go_simp) <;> (try with_reducible rfl)); done)); (try simp only [Act.put, p1_, p2_, p3_]))); (refine wpAnyH_done (by kernel_rfl) ?_ _))
        rcases hsb : smB R R ys bs p with _ | _
        · clear hsb
          go_wp2_with fail
          go_loopw [20] (fun v wr => v = .int .i64 0 ∧ BM wr bM (R : Int) (R : Int) A1 n1 c1 ∧ Below w0.heap.size w0 wr) (fun _ _ => 0)
          case atStart => exact ⟨rfl, Kb hM, Kw⟩
          case round =>
            clear hM hbw ma mb mc mf ml
            obtain ⟨rfl, hM, hbw⟩ := hrel
            obtain ⟨ma, mb, mc, mf, ml⟩ := hM.mx
            by_cases h0 : 0 < R
            · go_wp2_with fail
              go_ret
              exact ⟨rfl, HB0.out.trans (Below.mono (B := w0.heap.size) Kw hs0)⟩
            · go_wp2_with fail
              go_ret
              exact ⟨rfl, HB0.out.trans (Below.mono (B := w0.heap.size) Kw hs0)⟩
        · have hxv : x = smL R R (imV R ys p) bs p := by
            rw [← HX.out, smV_yes hsb, Int.toNat_natCast]; rfl
          have hsb2 := hsb
          unfold smB at hsb2
          rw [Bool.and_eq_true, Bool.and_eq_true] at hsb2
          have hbl := of_decide_eq_true hsb2.1.2
          have HNB : Hid (∀ k, Num (bs.getD k 0)) := Lib.hid (getD_num hsb2.2)
          have HXV := Lib.hid hxv
          have hxl : x.length = R := by rw [hxv, smL_len]
          have n5x : n5 ≤ R ∧ R ≤ n5 := by have := HE5.out; omega
          have n2y : n2 ≤ R ∧ R ≤ n2 := by omega
          have hry := H1.out
          have hrb := H2.out
          have hrx := H5.out
          clear hsb hsb2 hbl hxv hxl
          go_wp2_with fail
          go_loopw [20] (fun v wr => ∃ i : Nat, v = .int .i64 i ∧ i ≤ R ∧ BM wr bM (R : Int) (R : Int) A1 n1 c1 ∧ RI wr w0.heap.size A1 n1 ys ∧ RI wr w0.heap.size A2 n2 bs ∧ RI wr w5.heap.size A5 n5 x ∧ Below w0.heap.size w0 wr ∧ w5.heap.size ≤ wr.heap.size) (fun v _ => R - (intOf v).toNat)
          case atStart => exact ⟨0, rfl, Nat.zero_le _, Kb hM, Kr hry, Kr hrb, Kr hrx, Kw, Ks⟩
          case round =>
            clear hM hbw ma mb mc mf ml hry hrb hrx
            obtain ⟨i, rfl, hi, hM, hry, hrb, hrx, hbw, hs5r⟩ := hrel
            obtain ⟨ma, mb, mc, mf, ml⟩ := hM.mx
            have hsr := hbw.size
            by_cases hiR : i < R
            · obtain ⟨b2, o2, rfl, hb2_, -⟩ := hrb.2 (by omega)
              have q2 := RI.at_ hrb (k := i) (by omega)
              obtain ⟨z1, z2⟩ := HNB.out i
              have HSOL := Lib.hid (HSS.out i hiR)
              obtain ⟨z, hz⟩ : ∃ z, bs.getD i 0 = z := ⟨_, rfl⟩
              rw [hz] at q2 z1 z2 HSOL
              clear hz
              have hp0 : ¬ p = 0 := by omega
              have hzb0 := tmod_abs z hp3
              have hzb : -p < -(z.tmod p) ∧ -(z.tmod p) < p := by omega
              clear hzb0
              have HRBX := Lib.hid hrb
              clear hrb
              go_wp2_with fail
              have hrb := HRBX.out
              clear q2
              go_loopw [21, 22] (fun u v wr => ∃ j : Nat, v = .int .i64 j ∧ u = .int .i64 (imN p (-(z.tmod p)) (fun l => cel ys R i l) (fun l => x.getD l 0) j) ∧ j ≤ R ∧ BM wr bM (R : Int) (R : Int) A1 n1 c1 ∧ RI wr w0.heap.size A1 n1 ys ∧ RI wr w0.heap.size (some ⟨b2, o2, none⟩) n2 bs ∧ RI wr w5.heap.size A5 n5 x ∧ Below w0.heap.size w0 wr ∧ w5.heap.size ≤ wr.heap.size) (fun _ v _ => R - (intOf v).toNat)
              case atStart => exact ⟨0, rfl, rfl, Nat.zero_le _, Kb hM, Kr hry, Kr hrb, Kr hrx, Kw, Ks⟩
              case round =>
                clear hM hbw ma mb mc mf ml hry hrb hrx
                obtain ⟨j, rfl, rfl, hj, hM, hry, hrb, hrx, hbw, hs5r⟩ := hrel
                obtain ⟨ma, mb, mc, mf, ml⟩ := hM.mx
                have hsr2 := hbw.size
                by_cases hjR : j < R
                · obtain ⟨T, hT⟩ : ∃ T, i * R = T := ⟨_, rfl⟩
                  have hTR : T + R ≤ R * R := by have := Nat.mul_le_mul_right R (show i + 1 ≤ R by omega); rw [Nat.add_mul, Nat.one_mul, hT] at this; exact this
                  have e1 : (i : Int) * (R : Int) = (T : Int) := by rw [← hT, Int.natCast_mul]
                  have hcel : cel ys R i j = ys.getD (T + j) 0 := by rw [cel_nat, hT]
                  obtain ⟨b1, o1, rfl, hb1_, -⟩ := hry.2 (by omega)
                  obtain ⟨b5, o5, rfl, hb5_, -⟩ := hrx.2 (by omega)
                  have q1 := RI.at_ hry (k := T + j) (by omega)
                  have q5 := RI.at_ hrx (k := j) (by omega)
                  obtain ⟨y1, y2⟩ := HNY.out (T + j)
                  have hxb : 0 ≤ x.getD j 0 ∧ x.getD j 0 < p := by rw [HXV.out]; unfold smL; rw [tab_getD hjR]; exact smS_bd hp3 j R
                  have hNb := imN_bd (m := fun l => cel ys R i l) (x := fun l => x.getD l 0) hp3 hzb j
                  have HSTEP : Hid (imN p (-(z.tmod p)) (fun l => cel ys R i l) (fun l => x.getD l 0) (j + 1) = (imN p (-(z.tmod p)) (fun l => cel ys R i l) (fun l => x.getD l 0) j + (ys.getD (T + j) 0).tmod p * x.getD j 0).tmod p) := Lib.hid (by rw [← hcel]; rfl)
                  generalize ys.getD (T + j) 0 = y at *
                  generalize x.getD j 0 = xj at *
                  generalize imN p (-(z.tmod p)) (fun l => cel ys R i l) (fun l => x.getD l 0) j = N at *
                  have hyb := tmod_abs y hp3
                  have hmb : ((y.tmod p) * xj).natAbs ≤ 10000 * 10000 := by rw [Int.natAbs_mul]; exact Nat.mul_le_mul (by omega) (by omega)
                  have hw1 : IntKind.i64.wrap ((i : Int) * (R : Int)) = (T : Int) := by rw [e1]; exact IntWalk.i64_in _ (by omega)
                  have hw2 : IntKind.i64.wrap ((T : Int) + (j : Int)) = (T : Int) + (j : Int) := IntWalk.i64_in _ (by omega)
                  have hw3 : IntKind.i64.wrap (y.tmod p * xj) = y.tmod p * xj := IntWalk.i64_in _ (by omega)
                  have hw4 : IntKind.i64.wrap (N + y.tmod p * xj) = N + y.tmod p * xj := IntWalk.i64_in _ (by omega)
                  have i1 : (T : Int) + (j : Int) < (n1 : Int) := by omega
                  have i2 : ((T : Int) + (j : Int)).toNat = T + j := by omega
                  have i3 : (0 : Int) ≤ (T : Int) + (j : Int) := by omega
                  have i4 : j < n5 := by omega
                  have HRY := Lib.hid hry
                  have HRX := Lib.hid hrx
                  have HRB2 := Lib.hid hrb
                  clear hcel hT e1 hry hrx hrb hTR hmb
                  go_wp2_with fail
                  ((refine wp_region_held_drew (S := (fun w' => w'.cell? ⟨bM, 0, none⟩ = some (.int .i64 R) ∧ w'.cell? ⟨bM, 2, none⟩ = some (.slice (some ⟨b1, o1, none⟩) n1 c1) ∧ w'.cell? ⟨b1, o1 + (T + j), none⟩ = some (.int .i64 y) ∧ w'.cell? ⟨b5, o5 + j, none⟩ = some (.int .i64 xj))) (by kernel_rfl) ?_ (fun hHeld => ?_)); ((focus ((try dsimp only); ((first | (go_keep; done) | exact ⟨ma, mc, q1, q5⟩))))); ((refine tk_ (i := 0) (v := ?_) (y := Or.inl ⟨by rfl, ?_⟩) (h := ?_); rotate_left; (focus (((intro w hSw; (try dsimp only at hSw); go_simp) <;> (try with_reducible rfl)); done)); (try simp only [Act.put, p1_, p2_, p3_]))); ((refine tk_ (i := 1) (v := ?_) (y := Or.inl ⟨by rfl, ?_⟩) (h := ?_); rotate_left; (focus (((intro w hSw; (try dsimp only at hSw); go_simp) <;> (try with_reducible rfl)); done)); (try simp only [Act.put, p1_, p2_, p3_]))); ((refine tk_ (i := 2) (v := ?_) (y := Or.inl ⟨by rfl, ?_⟩) (h := ?_); rotate_left; (focus (((intro w hSw; (try dsimp only at hSw); go_simp) <;> (try with_reducible rfl)); done)); (try simp only [Act.put, p1_, p2_, p3_]))); ((refine tk_ (i := 3) (v := ?_) (y := Or.inl ⟨by rfl, ?_⟩) (h := ?_); rotate_left; (focus (((intro w hSw; (try dsimp only at hSw); go_simp) <;> (try with_reducible rfl)); done)); (try simp only [Act.put, p1_, p2_, p3_]))); ((refine tk_ (i := 4) (v := ?_) (y := Or.inl ⟨by rfl, ?_⟩) (h := ?_); rotate_left; (focus (((intro w hSw; (try dsimp only at hSw); go_simp) <;> (try with_reducible rfl)); done)); (try simp only [Act.put, p1_, p2_, p3_]))); ((refine tk_ (i := 5) (v := ?_) (y := Or.inl ⟨by rfl, ?_⟩) (h := ?_); rotate_left; (focus (((intro w hSw; (try dsimp only at hSw); go_simp) <;> (try with_reducible rfl)); done)); (try simp only [Act.put, p1_, p2_, p3_]))); ((refine tk_ (i := 6) (v := ?_) (y := Or.inl ⟨by rfl, ?_⟩) (h := ?_); rotate_left; (focus (((intro w hSw; (try dsimp only at hSw); go_simp) <;> (try with_reducible rfl)); done)); (try simp only [Act.put, p1_, p2_, p3_]))); ((refine tk_ (i := 7) (v := ?_) (y := Or.inl ⟨by rfl, ?_⟩) (h := ?_); rotate_left; (focus (((intro w hSw; (try dsimp only at hSw); go_simp) <;> (try with_reducible rfl)); done)); (try simp only [Act.put, p1_, p2_, p3_]))); ((refine tk_ (i := 8) (v := ?_) (y := Or.inl ⟨by rfl, ?_⟩) (h := ?_); rotate_left; (focus (((intro w hSw; (try dsimp only at hSw); go_simp) <;> (try with_reducible rfl)); done)); (try simp only [Act.put, p1_, p2_, p3_]))); ((refine tk_ (i := 9) (v := ?_) (y := Or.inl ⟨by rfl, ?_⟩) (h := ?_); rotate_left; (focus (((intro w hSw; (try dsimp only at hSw); go_simp) <;> (try with_reducible rfl)); done)); (try simp only [Act.put, p1_, p2_, p3_]))); ((refine tk_ (i := 10) (v := ?_) (y := Or.inl ⟨by rfl, ?_⟩) (h := ?_); rotate_left; (focus (((intro w hSw; (try dsimp only at hSw); go_simp) <;> (try with_reducible rfl)); done)); (try simp only [Act.put, p1_, p2_, p3_]))); ((refine tk_ (i := 11) (v := ?_) (y := Or.inl ⟨by rfl, ?_⟩) (h := ?_); rotate_left; (focus (((intro w hSw; (try dsimp only at hSw); go_simp) <;> (try with_reducible rfl)); done)); (try simp only [Act.put, p1_, p2_, p3_]))); ((refine tk_ (i := 12) (v := ?_) (y := Or.inl ⟨by rfl, ?_⟩) (h := ?_); rotate_left; (focus (((intro w hSw; (try dsimp only at hSw); go_simp) <;> (try with_reducible rfl)); done)); (try simp only [Act.put, p1_, p2_, p3_]))); ((refine tk_ (i := 13) (v := ?_) (y := Or.inl ⟨by rfl, ?_⟩) (h := ?_); rotate_left; (focus (((intro w hSw; (try dsimp only at hSw); go_simp) <;> (try with_reducible rfl)); done)); (try simp only [Act.put, p1_, p2_, p3_]))); ((refine tk_ (i := 14) (v := ?_) (y := Or.inl ⟨by rfl, ?_⟩) (h := ?_); rotate_left; (focus (((intro w hSw; (try dsimp only at hSw); go_simp) <;> (try with_reducible rfl)); done)); (try simp only [Act.put, p1_, p2_, p3_]))); ((refine tk_ (i := 15) (v := ?_) (y := Or.inl ⟨by rfl, ?_⟩) (h := ?_); rotate_left; (focus (((intro w hSw; (try dsimp only at hSw); go_simp) <;> (try with_reducible rfl)); done)); (try simp only [Act.put, p1_, p2_, p3_]))); ((refine tk_ (i := 16) (v := ?_) (y := Or.inl ⟨by rfl, ?_⟩) (h := ?_); rotate_left; (focus (((intro w hSw; (try dsimp only at hSw); go_simp) <;> (try with_reducible rfl)); done)); (try simp only [Act.put, p1_, p2_, p3_]))); ((refine tk_ (i := 17) (v := ?_) (y := Or.inl ⟨by rfl, ?_⟩) (h := ?_); rotate_left; (focus (((intro w hSw; (try dsimp only at hSw); go_simp) <;> (try with_reducible rfl)); done)); (try simp only [Act.put, p1_, p2_, p3_]))); ((refine tk_ (i := 18) (v := ?_) (y := Or.inl ⟨by rfl, ?_⟩) (h := ?_); rotate_left; (focus (((intro w hSw; (try dsimp only at hSw); go_simp) <;> (try with_reducible rfl)); done)); (try simp only [Act.put, p1_, p2_, p3_]))); ((refine tk_ (i := 19) (v := ?_) (y := Or.inl ⟨by rfl, ?_⟩) (h := ?_); rotate_left; (focus (((intro w hSw; (try dsimp only at hSw); go_simp) <;> (try with_reducible rfl)); done)); (try simp only [Act.put, p1_, p2_, p3_]))); ((refine tk_ (i := 20) (v := ?_) (y := Or.inl ⟨by rfl, ?_⟩) (h := ?_); rotate_left; (focus (((intro w hSw; (try dsimp only at hSw); go_simp) <;> (try with_reducible rfl)); done)); (try simp only [Act.put, p1_, p2_, p3_]))); ((refine tk_ (i := 21) (v := ?_) (y := Or.inl ⟨by rfl, ?_⟩) (h := ?_); rotate_left; (focus (((intro w hSw; (try dsimp only at hSw); go_simp) <;> (try with_reducible rfl)); done)); (try simp only [Act.put, p1_, p2_, p3_]))); (refine wpAnyH_done (by kernel_rfl) ?_ _))
                  have hry := HRY.out
                  have hrx := HRX.out
                  have hrb := HRB2.out
                  clear hw1 hw2 hw3 hw4 i1 i2 i3 q1 q5
                  go_wp2_with fail
                  go_roundw
                  case rel => exact ⟨j + 1, by go_num, by rw [HSTEP.out], by omega, Kb hM, Kr hry, Kr hrb, Kr hrx, Kw, Ks⟩
                  case measure => simp only [intOf]; omega
                · obtain rfl : j = R := by omega
                  have hz0 : imN p (-(z.tmod p)) (fun l => cel ys j i l) (fun l => x.getD l 0) j = 0 := imN_zero (by omega) (by
                    have h1 := HSOL.out
                    have h2 : p ∣ -(z.tmod p) - -z := by have := Int.dvd_neg.2 (dvd_tmod z p); rwa [show -(z.tmod p - z) = -(z.tmod p) - -z by omega] at this
                    have h3 : sumTo (fun k => cel ys j i k * x.getD k 0) j = sumTo (fun k => cel ys j i k * smS (imV j ys p) bs p k j) j := sumTo_congr j fun k hk => by
                      rw [HXV.out]; unfold smL; rw [tab_getD hk]
                    rw [h3]
                    have := Int.dvd_add h2 h1
                    rwa [show -(z.tmod p) - -z + (sumTo (fun k => cel ys j i k * smS (imV j ys p) bs p k j) j - z) = -(z.tmod p) + sumTo (fun k => cel ys j i k * smS (imV j ys p) bs p k j) j by omega] at this)
                  rw [hz0]
                  have HRY := Lib.hid hry
                  have HRX := Lib.hid hrx
                  have HRB2 := Lib.hid hrb
                  clear hz0 hry hrx hrb
                  go_wp2_with fail
                  have hry := HRY.out
                  have hrx := HRX.out
                  have hrb := HRB2.out
                  go_roundw
                  case rel => exact ⟨i + 1, by go_num, by omega, Kb hM, Kr hry, Kr hrb, Kr hrx, Kw, Ks⟩
                  case measure => simp only [intOf]; omega
            · go_wp2_with fail
              go_ret
              exact ⟨rfl, HB0.out.trans (Below.mono (B := w0.heap.size) Kw hs0)⟩
end Go.Proofs.Ytacjonkehcamgaa

/-
  DERIVED. SolveByLifting of the reference.
-/
import Derived.Test.YtlggfmfelakadaaVS
import Derived.Test.YtlggfmfelakadaaLfIv
import Derived.Test.YtlggfmfelakadaaInvSv
import Derived.Test.YtlggfmfelakadaaRatioFrom2v
import Derived.Test.YtlggfmfelakadaaIsRatSv
namespace Go.Proofs.Ytlggfmfelakadaa
open Go.RowKit
set_option linter.unusedVariables false
set_option linter.unusedSimpArgs false
theorem fillTo_at {xs : List Int} {n i : Nat} (hx : xs.length = n) (hi : i < n) : (fillTo xs n i).getD i 0 = 0 := by
  unfold fillTo
  simp only [List.getD]
  rw [List.getElem?_append_right (by simp; omega)]
  simp [List.getElem?_replicate]
  split <;> rfl
set_option maxRecDepth 100000 in
set_option maxHeartbeats 16000000 in
theorem spec_SolveByLifting (r c : Int) (A Ab : Option Addr) (n cap nb capb : Nat) (xs bs : List Int) (w : World) {B B' : Nat} (h : RI w B A n xs) (hb : RI w B' Ab nb bs) (hB : B ≤ w.heap.size) (hB' : B' ≤ w.heap.size) (hn : n ≤ 1048576) (hnb : nb ≤ 1048576) :
    Calls Try.prog 25 #[.agg #[.int .i64 r, .int .i64 c, .slice A n cap], .slice Ab nb capb] w (LSR r (lsX r c xs bs) w) := by
  obtain ⟨i0, hi, hz0, hz1, hz2⟩ := info_parts int_info
  have hlb := hb.len
  have hla := h.len
  have H2 := Lib.hid (h.more hB)
  have H3 := Lib.hid (hb.more hB')
  clear h hb
  rcases hs : sysB r c xs bs with _ | _
  · rw [lsX_no hs]
    have HS := Lib.hid hs
    clear hs hlb hla
    go_enter Try.func25, Try.ntmps25
    go_wp2_with fail
    refine (spec_l11Right r c A Ab n cap nb capb xs bs _ (B := w.heap.size) (B' := w.heap.size) (Kr H2.out) (Kr H3.out) Ks Ks hn hnb).mono ?_
    rw [HS.out]
    rintro e w1 ⟨rfl, hb1⟩
    have hsz1 := hb1.size
    (try simp at hsz1)
    have hbw : Below w.heap.size w w1 := Kw
    go_wp2_with fail
    go_ret2; exact LSR.no (by simp) Kw Ks
  · have S := sysOk hs
    have hrc := S.rc
    subst hrc
    have hr6 := S.r6
    obtain ⟨R, rfl⟩ := nat_of S.m.r0
    have hR : R ≤ 6 := by omega
    have hlbR := S.bl
    have hnbR : R = nb := by omega
    have hlaR := S.m.len
    have HOKF : Hid (OKF R R (fun i j => cel xs R i j)) := Lib.hid (fun i j _ _ => S.m.cel_bd i j)
    have HBN : Hid (∀ k, Num (bs.getD k 0)) := Lib.hid (fun k => by
      by_cases hk : k < bs.length
      · have := (isNum_iff _).1 (List.all_eq_true.1 S.bn _ (mem_getD hk))
        exact this
      · have e : bs.getD k 0 = 0 := by simp [List.getD, List.getElem?_eq_none (show bs.length ≤ k by omega)]
        rw [e]; exact ⟨by omega, by omega⟩)
    have HBL : Hid (bs.length = R) := Lib.hid (by omega)
    have hnR : n ≤ R * R ∧ R * R ≤ n := by rw [← Int.natCast_mul] at hlaR; omega
    have hRR : R * R ≤ 6 * 6 := Nat.mul_le_mul hR hR
    subst hnbR
    have HNO : Hid (liP R R xs 99 101 = none → lsX R R xs bs = none) := Lib.hid (lsX_none hs)
    have HYES : Hid (∀ p, liP R R xs 99 101 = some p → lsX R R xs bs = lsQ R R xs bs p) := Lib.hid (fun p => lsX_some hs)
    have HS := Lib.hid hs
    clear hs S hlb hla hlbR hlaR hr6
    generalize lsX (R : Int) (R : Int) xs bs = X at *
    obtain ⟨L, hL⟩ : ∃ L, liP R R xs 99 101 = L := ⟨_, rfl⟩
    rw [hL] at HNO HYES
    have HL0 := Lib.hid hL
    clear hL
    go_enter Try.func25, Try.ntmps25
    go_wp2_with fail
    refine (spec_l11Right R R A Ab n cap R capb xs bs _ (B := w.heap.size) (B' := w.heap.size) (Kr H2.out) (Kr H3.out) Ks Ks hn hnb).mono ?_
    rw [HS.out]
    rintro e w1 ⟨rfl, hb1⟩
    have hsz1 := hb1.size
    (try simp at hsz1)
    have hM : BM w1 w.heap.size R R A n cap := Ka
    have hbw : Below w.heap.size w w1 := Kw
    obtain ⟨ma, mb, mc, mf, ml⟩ := hM.mx
    clear hb1
    go_wp2_with fail
    refine (spec_InverseMod R R 101 A n cap xs _ (B := w.heap.size) (Kr H2.out) Ks hn).mono ?_
    rintro e w2 ⟨A0, n0, c0, rfl, ho2, hb2⟩
    have hsz2 := hb2.size
    (try simp at hsz2)
    have hM2 : BM w2 w.heap.size R R A n cap := Kb hM
    have hbw2 : Below w.heap.size w w2 := Kw
    obtain ⟨mr0, hmr⟩ : ∃ q, (imM (R : Int) (R : Int) xs 101).r = q := ⟨_, rfl⟩
    obtain ⟨mc0, hmc⟩ : ∃ q, (imM (R : Int) (R : Int) xs 101).c = q := ⟨_, rfl⟩
    obtain ⟨ib0, hib0⟩ : ∃ q, imB (R : Int) (R : Int) xs 101 = q := ⟨_, rfl⟩
    rw [hmr, hmc, hib0]
    have HMR := Lib.hid hmr
    have HMC := Lib.hid hmc
    have HIB := Lib.hid hib0
    clear hM hbw hb2 hmr hmc hib0 ma mb mc mf ml
    go_wp2_with fail
    generalize hbI : w2.heap.size = bI at *
    have hO : BM (w2.alloc (.cells #[.int .i64 mr0, .int .i64 mc0, .slice A0 n0 c0] 26)) bI mr0 mc0 A0 n0 c0 := BX.new _ _ _ _ _ _ _ _ hbI.symm
    have hoi0 := OR.reads (ho2.alloc (.cells #[.int .i64 mr0, .int .i64 mc0, .slice A0 n0 c0] 26))
    have hM3 : BM (w2.alloc (.cells #[.int .i64 mr0, .int .i64 mc0, .slice A0 n0 c0] 26)) w.heap.size R R A n cap := Kb hM2
    have hbw3 : Below w.heap.size w (w2.alloc (.cells #[.int .i64 mr0, .int .i64 mc0, .slice A0 n0 c0] 26)) := Kw
    go_loopw [6, 8] (fun vp vk wr => ∃ (k : Nat) (mr0 mc0 : Int) (ib0 : Bool) (A2 : Option Addr) (n2 c2 : Nat), vp = .int .i64 (101 + (k : Int)) ∧ vk = .bool ib0 ∧ Hid (imB R R xs (101 + (k : Int)) = ib0) ∧ Hid ((imM R R xs (101 + (k : Int))).r = mr0) ∧ Hid ((imM R R xs (101 + (k : Int))).c = mc0) ∧ k ≤ 99 ∧ Hid (liP R R xs (99 - k) (101 + (k : Int)) = L) ∧ BM wr w.heap.size R R A n cap ∧ BM wr bI mr0 mc0 A2 n2 c2 ∧ RI wr wr.heap.size A2 n2 (imM R R xs (101 + (k : Int))).xs ∧ Below w.heap.size w wr) (fun v _ _ => 300 - (intOf v).toNat)
    case atStart => exact ⟨0, mr0, mc0, ib0, A0, n0, c0, rfl, rfl, HIB, HMR, HMC, by omega, HL0, hM3, hO, hoi0, hbw3⟩
    case round =>
      clear hM2 hbw2 hO hoi0 hM3 hbw3 ho2 HMR HMC HIB
      obtain ⟨k, mr0, mc0, ib0, A2, n2, c2, rfl, rfl, HIB, HMR, HMC, hk, HLK, hM, hI, hri, hbw⟩ := hrel
      have hszr := hbw.size
      have hlI := hI.lt
      obtain ⟨ma, mb, mc, mf, ml⟩ := hM.mx; obtain ⟨ia, ib, ic, jf, il⟩ := hI.mx
      rcases ib0 with _ | _
      · by_cases hk9 : k < 99
        · have HLN : Hid (liP R R xs (99 - (k + 1)) (101 + (k : Int) + 1) = L) := Lib.hid (by
            have := HLK.out
            rw [show 99 - k = 99 - (k + 1) + 1 by omega, liP_no HIB.out] at this
            exact this)
          have hpk : ((k + 1 : Nat) : Int) = (k : Int) + 1 := by omega
          have HPK := Lib.hid hpk
          clear hpk hri HMR HMC HIB
          go_wp2_with fail
          refine (spec_InverseMod R R _ A n cap xs _ (B := w.heap.size) (Kr H2.out) Ks hn).mono ?_
          rw [show (101 : Int) + (k : Int) + 1 = 101 + ((k + 1 : Nat) : Int) by omega]
          rintro e w2 ⟨A3, n3, c3, rfl, ho2, hb2⟩
          have hsz2 := hb2.size
          have hM2 : BM w2 w.heap.size R R A n cap := Kb hM
          have hI2 : BM w2 bI mr0 mc0 A2 n2 c2 := Kb hI
          have hbw2 : Below w.heap.size w w2 := Kw
          have hvr := B3.of hI2
          obtain ⟨mr1, hmr⟩ : ∃ q, (imM (R : Int) (R : Int) xs (101 + ((k + 1 : Nat) : Int))).r = q := ⟨_, rfl⟩
          obtain ⟨mc1, hmc⟩ : ∃ q, (imM (R : Int) (R : Int) xs (101 + ((k + 1 : Nat) : Int))).c = q := ⟨_, rfl⟩
          obtain ⟨ib1, hib1⟩ : ∃ q, imB (R : Int) (R : Int) xs (101 + ((k + 1 : Nat) : Int)) = q := ⟨_, rfl⟩
          rw [hmr, hmc, hib1]
          have HMR := Lib.hid hmr
          have HMC := Lib.hid hmc
          have HIB := Lib.hid hib1
          have hov : OR (((w2.setCell ⟨bI, 0, none⟩ (.int .i64 mr1)).setCell ⟨bI, 1, none⟩ (.int .i64 mc1)).setCell ⟨bI, 2, none⟩ (.slice A3 n3 c3)) wr.heap.size (.slice A3 n3 c3) (imM (R : Int) (R : Int) xs (101 + ((k + 1 : Nat) : Int))).xs := Ko ho2
          have hri := OR.reads hov
          clear ho2 hb2 hov hmr hmc hib1 ma mb mc mf ml ia ib ic jf il
          obtain ⟨ia, ib, ic, jf, il⟩ := hI2.mx
          go_wp2_with fail
          go_roundw
          case rel => exact ⟨k + 1, mr1, mc1, ib1, A3, n3, c3, by go_num, rfl, HIB, HMR, HMC, by omega, by rw [HPK.out, ← Int.add_assoc]; exact HLN, Kb hM2, Kb hvr, hri, Kw⟩
          case measure => simp only [intOf]; omega
        · have hX : X = none := HNO.out (by
            have := HLK.out
            rw [show 99 - k = 0 by omega] at this
            exact this.symm)
          subst hX
          have hk99 : k = 99 := by omega
          subst hk99
          go_wp2_with fail
          go_ret2; exact LSR.no (by simp) Kw Ks
      · have hk9 : k < 99 := by
          refine Nat.lt_of_not_le fun hge => ?_
          have e : k = 99 := by omega
          have := HIB.out
          rw [e] at this
          rw [show (101 : Int) + ((99 : Nat) : Int) = 200 from rfl, im_200] at this
          cases this
        have hib := HIB.out
        have hXQ := HYES.out (101 + (k : Int)) (by
          have := HLK.out
          rw [show 99 - k = 99 - (k + 1) + 1 by omega, liP_yes hib] at this
          exact this.symm)
        have hX0 := imM_yes hib
        have hG0 := (imOk_of hib).f0
        unfold lsQ at hXQ
        simp only [Int.toNat_natCast] at hXQ hX0
        have hp1 : 101 ≤ 101 + (k : Int) := by omega
        have hp2 : 101 + (k : Int) < 200 := by omega
        have hmr := HMR.out
        have hmc := HMC.out
        rw [hX0] at hmr hmc hri
        clear HLK HMR HMC HIB
        generalize hp : 101 + (k : Int) = p at *
        obtain ⟨G, hG⟩ : ∃ G : Fn2, (fun i j => (imS (R : Int) (R : Int) xs p).f i (R + j)) = G := ⟨_, rfl⟩
        rw [hG] at hXQ hri
        have HGB : Hid (∀ i j : Nat, 0 ≤ G i j ∧ G i j < p) := Lib.hid (fun i j => by rw [← hG]; exact hG0 i (R + j))
        dsimp only at hmr hmc hri
        rw [← hmr, ← hmc] at hI
        clear hG hG0 hX0 hib hp hk hk9 HNO HYES HL0 ma mb mc mf ml ia ib ic jf il hmr hmc
        obtain ⟨f, hf⟩ : ∃ f : Fn2, (fun i j => cel xs (R : Int) (i : Nat) (j : Nat)) = f := ⟨_, rfl⟩
        rw [hf] at hXQ
        have HCEL : Hid (∀ i j : Nat, cel xs (R : Int) i j = f i j) := Lib.hid (fun i j => by rw [← hf])
        have HOK : Hid (OKF R R f) := Lib.hid (by rw [← hf]; exact HOKF.out)
        have HXQ := Lib.hid hXQ
        clear hXQ hf HOKF
        obtain ⟨ma, mb, mc, mf, ml⟩ := hM.mx; obtain ⟨ia, ib, ic, jf, il⟩ := hI.mx
        have hn2 : n2 = R * R := by have := hri.len; rw [tb_len] at this; exact this.symm
        have hn2b : n2 ≤ 1048576 := by omega
        have HN2 := Lib.hid hn2
        have hoi := hri
        clear hri hn2
        go_upto_region 11 with fail
        have hlw := hM.lt
        go_wp2_with (at_make; go_loud (refine wpList_make_full _ rfl _ _ 24 rfl wr.heap.size 3 i0 (.int .i64 0) 1 Try.underlying24 hi hz0 hz1 _ _ _ _ R rfl rfl rfl rfl ?b2 ?b3 ?b4 ?_))
        case b2 => rw [hz2]; omega
        case b3 => unfold maxLen; omega
        case b4 => simp
        intro w4 hown4 hgrow4
        have hox4 := OR.of_made hown4
        have hb4 : Below wr.heap.size wr w4 := (Below.refl _ _).grown hgrow4 (by simp) (by simp)
        have hsz4 := hb4.size
        have hgx4 : wr.heap.size < w4.heap.size := (hox4.own _ rfl).2
        have hM4 : BM w4 w.heap.size R R A n cap := Kb hM
        have hI4 : BM w4 bI R R A2 n2 c2 := Kb hI
        have hoi4 : RI w4 wr.heap.size A2 n2 (tb R R G) := Kr hoi
        have hbw4 : Below w.heap.size w w4 := Kw
        clear hM hI hoi hbw hb4 hown4 hgrow4 hsz4 ma mb mc mf ml ia ib ic jf il
        go_wp2_with (at_builtin; refine wpList_append_ints _ rfl (.tmp 56) (.tmp 57) rfl w4.heap.size _ [] rfl ?c1 w.heap.size Ab R capb bs rfl ?c2 ?c3 ?c4 ?_)
        case c1 => exact OR.empty' _ w4.heap.size rfl (Nat.le_refl _)
        case c2 => (with_reducible (repeat (first | exact H3.out | refine RI.drew ?_ | refine RI.drewN ?_ _ | refine RI.a_ ?_ | refine RI.s_ ?_ | refine RI.b_ ?_)))
        case c3 => simp; omega
        case c4 => simp
        intro v1 w5 hown hgr hat
        (try simp only [List.nil_append] at hown)
        obtain ⟨gr, cr, rfl, hg1, hg2⟩ := hown.notNil hat
        have hb5 : Below w4.heap.size w4 w5 := Below.trans (show Below w4.heap.size w4 (w4.alloc (.cells #[] 3)) from Kw) (only_below hgr (by simp) (by intro g' h'; simp [Value.ownBlock] at h'; omega))
        rw [HBL.out] at hown
        rw [HBL.out]
        have hsz5 := hb5.size
        obtain ⟨lr, hlr⟩ : ∃ lr, lr = w4.heap.size := ⟨_, rfl⟩
        have hM5 : BM w5 w.heap.size R R A n cap := Kb hM4
        have hI5 : BM w5 bI R R A2 n2 c2 := Kb hI4
        have hoi5 : RI w5 wr.heap.size A2 n2 (tb R R G) := Kr hoi4
        have hox5 : OR w5 wr.heap.size (.slice (some ⟨wr.heap.size, 0, none⟩) R R) (List.replicate R 0) := Ko hox4
        have hbw5 : Below w.heap.size w w5 := Kw
        rw [← hlr] at hown hg1 hgx4
        clear hM4 hI4 hoi4 hox4 hbw4 hgr hat hb5 hsz5 hlr
        generalize wr.heap.size = gx at *
        obtain ⟨KK, hKK⟩ : ∃ KK, liK p = KK := ⟨_, rfl⟩
        rw [hKK] at HXQ
        have HK0 : Hid (liG p (6 - 0) 0 = KK) := Lib.hid hKK
        clear hKK
        go_wp2_with fail
        go_loopg [12] 8 (fun gn v wr => ∃ (k : Nat) (pw : Int), v = .int .i64 pw ∧ Hid (p ^ k = pw) ∧ (1 ≤ pw ∧ pw ≤ 400000000) ∧ k ≤ 4 ∧ Hid (liG p (6 - k) k = KK) ∧ 6 - k < gn ∧ BM wr w.heap.size R R A n cap ∧ BM wr bI R R A2 n2 c2 ∧ RI wr gx A2 n2 (tb R R G) ∧ OR wr gx (.slice (some ⟨gx, 0, none⟩) R R) (((liS R f G p bs k).2)) ∧ OR wr lr (.slice (some ⟨gr, 0, none⟩) R cr) (((liS R f G p bs k).1)) ∧ gr < wr.heap.size ∧ Below w.heap.size w wr)
        case atStart => exact ⟨0, 1, rfl, Lib.hid (Int.pow_zero p), ⟨by omega, by omega⟩, by omega, HK0, by omega, hM5, hI5, hoi5, hox5, hown, hg2, hbw5⟩
        case round => as_aux_lemma =>
          clear hM5 hI5 hoi5 hown hox5 hg2 hbw5 HK0
          obtain ⟨k, pw, rfl, HPW, hpw, hk4, HGO, hgk, hM, hI, hoi, hox, hor, hgr, hbw⟩ := hrel
          obtain ⟨hpw1, hpw2⟩ := hpw
          have hlI := hI.lt
          have hszr := hbw.size
          have hp0 : ¬ p = 0 := by omega
          go_upto_region 14 with fail
          go_cut [66] from 59 to 157 (fun v wc => ∃ tb : Bool, v = .bool tb ∧ tb = liC p k ∧ wr = wc)
          case first =>
            by_cases h2 : pw ≤ 200000000
            · have e2 : decide (pw ≤ 200000000) = true := decide_eq_true h2
              by_cases h3 : pw ≤ 400000000 / p
              · have e3 : decide (pw ≤ 400000000 / p) = true := decide_eq_true h3
                have hl := Lib.hid (liC_next hp1 HPW.out h2 h3)
                go_wp2_with fail
                go_meet
                case rel => exact ⟨_, rfl, hl.out.symm, rfl⟩
              · have e3 : decide (pw ≤ 400000000 / p) = false := decide_eq_false h3
                have hl := Lib.hid (liC_no2 HPW.out h3)
                go_wp2_with fail
                go_meet
                case rel => exact ⟨_, rfl, hl.out.symm, rfl⟩
            · have e2 : decide (pw ≤ 200000000) = false := decide_eq_false h2
              have hl := Lib.hid (liC_no1 HPW.out h2)
              go_wp2_with fail
              go_meet
              case rel => exact ⟨_, rfl, hl.out.symm, rfl⟩
          case rest => as_aux_lemma =>
            obtain ⟨tb, rfl, htb, rfl⟩ := hcut
            rcases tb with _ | _
            · have HKE : Hid (KK = k) := Lib.hid (HGO.out.symm.trans (liG_stop htb.symm))
              clear htb HGO
              have HRAT : Hid (X = (liO pw ((liBd pw 10000 : Nat) : Int) (liS R f G p bs k).2 R).bind fun qs => if irB R R xs bs qs then some qs else none) := Lib.hid (by
                have := HXQ.out
                rw [HKE.out, HPW.out] at this
                exact this)
              obtain ⟨hlo, hlx⟩ := liS_len (n := R) (f := f) (g := G) (p := p) HBL.out k
              have HLX := Lib.hid hlx
              have hri : RI wr w.heap.size A n xs := H2.out.below hbw (Nat.le_refl _)
              have hrb : RI wr w.heap.size Ab R bs := H3.out.below hbw (Nat.le_refl _)
              generalize (liS R f G p bs k).2 = xo at *
              clear HXQ HKE hlo hlx hoi hor hI HGB HOK HCEL HBN
              have hlM := hM.lt
              go_wp2_with fail
              go_loopg [19] 10002 (fun gn v wr' => ∃ b : Nat, v = .int .i64 b ∧ b ≤ 10000 ∧ Hid (liBd pw b = liBd pw 10000) ∧ b + 1 < gn ∧ wr' = wr)
              case atStart => exact ⟨10000, rfl, Nat.le_refl _, Lib.hid rfl, by omega, rfl⟩
              case round => as_aux_lemma =>
                obtain ⟨b, rfl, hb, HBD, hgb, rfl⟩ := hrel
                have hbb := mul_bd4 (2 * (b : Int)) b 20000 10000 (by omega) (by omega) (by omega) (by omega)
                have g1 : IntKind.i64.wrap (2 * (b : Int)) = 2 * (b : Int) := IntWalk.i64_in _ (by omega)
                have g2 : IntKind.i64.wrap (2 * (b : Int) * (b : Int)) = 2 * (b : Int) * (b : Int) := IntWalk.i64_in _ (by omega)
                by_cases hge : pw ≤ 2 * (b : Int) * (b : Int)
                · obtain ⟨h1, h2⟩ := liBd_go hge hpw1
                  have e1 : decide (pw ≤ 2 * (b : Int) * (b : Int)) = true := decide_eq_true hge
                  have HN := Lib.hid (h2.symm.trans HBD.out)
                  clear hbb h2 hge HBD
                  go_wp2_with fail
                  go_roundg (gk - 1)
                  case measure => omega
                  case rel => exact ⟨b - 1, by go_num, by omega, HN, by omega, rfl⟩
                · have e1 : decide (pw ≤ 2 * (b : Int) * (b : Int)) = false := decide_eq_false hge
                  have hbe := liBd_stop hge
                  rw [← HBD.out, hbe] at HRAT
                  clear hbb hbe hge HBD
                  go_wp2_with fail
                  generalize hbq : wr.heap.size = bQ at *
                  go_loopw [20, 21] (fun vo u wr' => ∃ (j : Nat) (P : Option Addr) (pc : Nat) (qs : List Int), u = .int .i64 j ∧ vo = .slice P j pc ∧ j ≤ R ∧ Hid (liO pw (b : Int) xo j = some qs) ∧ BM wr' w.heap.size R R A n cap ∧ OR wr' gx (.slice (some ⟨gx, 0, none⟩) R R) xo ∧ OF wr' bQ (.slice P j pc) j qs ∧ bQ ≤ wr'.heap.size ∧ Below w.heap.size w wr') (fun _ u _ => R - (intOf u).toNat)
                  case atStart => exact ⟨0, _, _, [], rfl, rfl, Nat.zero_le _, Lib.hid rfl, Kb hM, Ko hox, OF.empty _ _ hbq.symm (by omega), by simp [hbq], Kw⟩
                  case round => as_aux_lemma =>
                    clear hM hox hbw hri hrb
                    obtain ⟨j, P, pc, qs, rfl, rfl, hj, HQS, hM, hox, hof, hszq, hbw⟩ := hrel
                    have hszr := hbw.size
                    have hlr := hM.lt
                    obtain ⟨ma, mb, mc, mf, ml⟩ := hM.mx
                    by_cases hjR : j < R
                    · have e1 := hox.cell j (by rw [HLX.out]; exact hjR)
                      have HUO : Hid (Own (.slice P j pc) bQ wr.heap.size) := Lib.hid hof.own
                      rcases hr : rfRes (xo.getD j 0) pw b with _ | ⟨q1, q2⟩
                      · have hX : X = none := by
                          have h0 := liO_none (liO_no HQS.out hr) R (by omega)
                          rw [h0] at HRAT
                          exact HRAT.out
                        subst hX
                        generalize xo.getD j 0 = z at *
                        have HR := Lib.hid hr
                        clear hr
                        go_wp2_with fail
                        refine (spec_RatioFrom z pw b _).mono ?_
                        rw [HR.out]
                        unfold rfV
                        rintro e w7 ⟨rfl, hb7⟩
                        have hsz7 := hb7.size
                        (try simp at hsz7)
                        have hbw7 : Below w.heap.size w w7 := Kw
                        go_wp2_with fail
                        go_ret2; exact LSR.no (by simp) Kw Ks
                      · have HQN := Lib.hid (liO_yes HQS.out hr)
                        generalize xo.getD j 0 = z at *
                        have HR := Lib.hid hr
                        clear hr
                        go_wp2_with fail
                        refine (spec_RatioFrom z pw b _).mono ?_
                        rw [HR.out]
                        unfold rfV
                        rintro e w7 ⟨rfl, hb7⟩
                        have hsz7 := hb7.size
                        (try simp at hsz7)
                        have hM7 : BM w7 w.heap.size R R A n cap := Kb hM
                        have hox7 : OR w7 gx (.slice (some ⟨gx, 0, none⟩) R R) xo := Ko hox
                        have hof7 : OF w7 bQ (.slice P j pc) j qs := by (with_reducible (repeat (first | exact hof | refine OF.drew ?_ | refine OF.drewN ?_ _ | refine OF.alloc ?_ _ | refine OF.b_ ?_ | refine OF.l_ ?_)))
                        have hbw7 : Below w.heap.size w w7 := Kw
                        clear hM hox hof hbw hb7 ma mb mc mf ml e1
                        go_wp2_with (at_builtin; refine wpList_append_ratio _ rfl (.tmp 185) (.tmp 187) rfl bQ _ j qs rfl ((hof7.alloc _).alloc _) _ q1 q2 rfl ?f1 ?f2 ?f3 ?f4 ?_)
                        case f1 => simp [go_sem]
                        case f2 => simp [go_sem]
                        case f3 => omega
                        case f4 => simp; omega
                        intro v1 w6 hown1 hgr hat
                        have hM9 := ((hM7.alloc (.cells #[.int .i64 q1, .int .i64 q2] 84)).alloc (.cells #[.int .i64 q1, .int .i64 q2] 84)).grown hgr (hof7.ne_low (by omega))
                        have hx9 := ((hox7.alloc (.cells #[.int .i64 q1, .int .i64 q2] 84)).alloc (.cells #[.int .i64 q1, .int .i64 q2] 84)).kept hgr (.inr (hof7.ne_low (show gx < bQ by omega)))
                        have hb9 := Below.trans (show Below w.heap.size w ((w7.alloc (.cells #[.int .i64 q1, .int .i64 q2] 84)).alloc (.cells #[.int .i64 q1, .int .i64 q2] 84)) from Kw) (((hof7.alloc (.cells #[.int .i64 q1, .int .i64 q2] 84)).alloc (.cells #[.int .i64 q1, .int .i64 q2] 84)).below_grown hgr (by simp; omega) |>.mono (by omega))
                        have hsz9 := hgr.size
                        simp at hsz9
                        obtain ⟨P', pc', rfl⟩ := hown1.shape
                        clear hM7 hox7 hof7 hbw7 hgr hat
                        go_wp2_with fail
                        go_roundw
                        case rel => exact ⟨j + 1, P', pc', qs ++ [q1, q2], by go_num, rfl, by omega, HQN, Kb hM9, Ko hx9, by (with_reducible (repeat (first | exact hown1 | refine OF.drew ?_ | refine OF.drewN ?_ _ | refine OF.alloc ?_ _ | refine OF.b_ ?_ | refine OF.l_ ?_))), Ks, Kw⟩
                        case measure => simp only [intOf]; omega
                    · obtain rfl : R = j := by omega
                      have hir : X = if irB R R xs bs qs then some qs else none := by
                        have h0 := HRAT.out
                        rw [HQS.out] at h0
                        exact h0
                      have hql := liO_len HQS.out
                      have HQL : Hid (R = R) := Lib.hid rfl
                      have hread := hof.reads
                      have hri : RI wr w.heap.size A n xs := H2.out.below hbw (Nat.le_refl _)
                      have hrb : RI wr w.heap.size Ab R bs := H3.out.below hbw (Nat.le_refl _)
                      rcases hi2 : irB R R xs bs qs with _ | _
                      · rw [hi2] at hir
                        have hX : X = none := hir
                        subst hX
                        have HI := Lib.hid hi2
                        clear hi2 hir hql
                        go_wp2_with fail
                        refine (spec_IsRational R R A Ab P n cap R capb R pc xs bs qs _ (B := w.heap.size) (B' := w.heap.size) (Kr hri) (Kr hrb) (Kr hread) Ks Ks (Nat.le_refl _) hn hnb hnb).mono ?_
                        rw [HI.out]
                        rintro e w8 ⟨rfl, hb8⟩
                        have hsz8 := hb8.size
                        (try simp at hsz8)
                        have hbw8 : Below w.heap.size w w8 := Kw
                        go_wp2_with fail
                        go_ret2; exact LSR.no (by simp) Kw Ks
                      · rw [hi2] at hir
                        have hX : X = some qs := hir
                        subst hX
                        have HI := Lib.hid hi2
                        clear hi2 hir hql
                        go_wp2_with fail
                        refine (spec_IsRational R R A Ab P n cap R capb R pc xs bs qs _ (B := w.heap.size) (B' := w.heap.size) (Kr hri) (Kr hrb) (Kr hread) Ks Ks (Nat.le_refl _) hn hnb hnb).mono ?_
                        rw [HI.out]
                        rintro e w8 ⟨rfl, hb8⟩
                        have hsz8 := hb8.size
                        (try simp at hsz8)
                        have hof8 : OF w8 bQ (.slice P R pc) R qs := by (with_reducible (repeat (first | exact hof | refine OF.drew ?_ | refine OF.drewN ?_ _ | refine OF.alloc ?_ _ | refine OF.b_ ?_ | refine OF.l_ ?_)))
                        have hbw8 : Below w.heap.size w w8 := Kw
                        go_wp2_with fail
                        go_ret2
                        exact LSR.yes rfl (OF.mono (B := bQ) (by (with_reducible (repeat (first | exact hof8 | refine OF.drew ?_ | refine OF.drewN ?_ _ | refine OF.alloc ?_ _ | refine OF.b_ ?_ | refine OF.l_ ?_)))) (by omega)) Kw
            · have hc := htb.symm
              clear htb
              have hCL := (liC_iff (show 1 ≤ p by omega)).1 hc
              have hk3 := liC_small hp1 hc
              have hLG : liG p (6 - (k + 1)) (k + 1) = KK := by
                have := HGO.out
                rw [show 6 - k = 6 - (k + 1) + 1 by omega, liG_go hc] at this
                exact this
              have hpn : p ^ (k + 1) = pw * p := by rw [Int.pow_succ, HPW.out]
              rw [HPW.out, hpn] at hCL
              obtain ⟨hq1, hq2⟩ := hCL
              have hq3 : pw < pw * p := by
                have := Int.mul_le_mul_of_nonneg_left (show 101 ≤ p by omega) (show 0 ≤ pw by omega)
                omega
              have HLG := Lib.hid hLG
              have HPN := Lib.hid hpn
              have gq : IntKind.i64.wrap (pw * p) = pw * p := IntWalk.i64_in _ (by omega)
              obtain ⟨hbo, hbx⟩ := liS_bd (n := R) (f := f) (g := G) (p := p) (bs := bs) hp1 hp2 hR HOK.out HBN.out k
              obtain ⟨hlo, hlx⟩ := liS_len (n := R) (f := f) (g := G) (p := p) HBL.out k
              rw [HPW.out] at hbx
              have HNXT : Hid (liS R f G p bs (k + 1) = (liR R f (liS R f G p bs k).1 (smL R R G (liS R f G p bs k).1 p) p, liX R (liS R f G p bs k).2 (smL R R G (liS R f G p bs k).1 p) pw)) := Lib.hid (by rw [← HPW.out]; rfl)
              generalize (liS R f G p bs k).1 = os at *
              generalize (liS R f G p bs k).2 = xo at *
              have HBO := Lib.hid hbo
              have HBX := Lib.hid hbx
              have HLO := Lib.hid hlo
              have HLX := Lib.hid hlx
              clear hc hLG hpn hbo hbx hlo hlx HGO
              obtain ⟨ma, mb, mc, mf, ml⟩ := hM.mx; obtain ⟨ia, ib, ic, jf, il⟩ := hI.mx
              obtain ⟨go, hgo⟩ : ∃ x, x = gk := ⟨_, rfl⟩
              have HGK := Lib.hid hgo
              clear hgo
              go_wp2_with (at_make; go_loud (refine wpList_make_full _ rfl _ _ 24 rfl wr.heap.size 3 i0 (.int .i64 0) 1 Try.underlying24 hi hz0 hz1 _ _ _ _ R rfl rfl rfl rfl ?b2 ?b3 ?b4 ?_))
              case b2 => rw [hz2]; omega
              case b3 => unfold maxLen; omega
              case b4 => simp
              intro w6 hown6 hgrow6
              have hod6 := OR.of_made hown6
              have hb6 : Below wr.heap.size wr w6 := (Below.refl _ _).grown hgrow6 (by simp) (by simp)
              have hsz6 := hb6.size
              obtain ⟨ds, hds⟩ : ∃ ds, smL R R G os p = ds := ⟨_, rfl⟩
              have HDB : Hid (∀ q, 0 ≤ ds.getD q 0 ∧ ds.getD q 0 < p) := Lib.hid (fun q => by rw [← hds]; exact smL_bd (by omega) q)
              have HLD : Hid (ds.length = R) := Lib.hid (by rw [← hds]; exact smL_len _ _ _ _ _)
              have HDS : Hid (∀ i, i < R → ds.getD i 0 = smS G os p i R) := Lib.hid (fun i hi => by rw [← hds]; exact tab_getD hi)
              rw [hds] at HNXT
              clear hds
              have hM6 : BM w6 w.heap.size R R A n cap := Kb hM
              have hI6 : BM w6 bI R R A2 n2 c2 := Kb hI
              have hoi6 : RI w6 gx A2 n2 (tb R R G) := Kr hoi
              have hor6 : OR w6 lr (.slice (some ⟨gr, 0, none⟩) R cr) os := Ko hor
              have hox6 : OR w6 gx (.slice (some ⟨gx, 0, none⟩) R R) xo := Ko hox
              have hbw6 : Below w.heap.size w w6 := Kw
              have hgr6 : gr < w6.heap.size := by omega
              have hgd6 : wr.heap.size < w6.heap.size := (hod6.own _ rfl).2
              have hgl : gr < wr.heap.size := hgr
              obtain ⟨nw, hnw⟩ : ∃ nw, liR R f os ds p = nw := ⟨_, rfl⟩
              obtain ⟨nx, hnx⟩ : ∃ nx, liX R xo ds pw = nx := ⟨_, rfl⟩
              rw [hnw, hnx] at HNXT
              have HNW := Lib.hid hnw
              have HXW := Lib.hid hnx
              have HLW : Hid (nw.length = R) := Lib.hid (by rw [← hnw]; exact liR_len _ _ _ _ _)
              have HLZ : Hid (nx.length = R) := Lib.hid (by rw [← hnx]; exact liX_len _ _ _ _)
              clear ma mb mc mf ml ia ib ic jf il
              clear hM hI hoi hor hox hbw hgr hb6 hnw hnx hown6 hgrow6
              generalize wr.heap.size = gd at *
              go_wp2_with fail
              go_loopw [14] (fun v wr => ∃ i : Nat, v = .int .i64 i ∧ i ≤ R ∧ (BM wr w.heap.size R R A n cap ∧ BM wr bI R R A2 n2 c2 ∧ RI wr gx A2 n2 (tb R R G) ∧ OR wr gx (.slice (some ⟨gx, 0, none⟩) R R) (xo) ∧ OR wr lr (.slice (some ⟨gr, 0, none⟩) R cr) (os) ∧ gr < wr.heap.size ∧ Below w.heap.size w wr) ∧ gd < wr.heap.size ∧ OR wr gd (.slice (some ⟨gd, 0, none⟩) R R) (fillTo ds R i)) (fun v _ => R - (intOf v).toNat)
              case atStart => exact ⟨0, rfl, Nat.zero_le _, ⟨hM6, hI6, hoi6, hox6, hor6, hgr6, hbw6⟩, hgd6, by rw [fillTo_zero]; exact hod6⟩
              case round => as_aux_lemma =>
                clear hM6 hI6 hoi6 hor6 hox6 hgr6 hbw6 hod6 hgd6
                obtain ⟨i, rfl, hi, ⟨hM, hI, hoi, hox, hor, hgr, hbw⟩, hgd, hod⟩ := hrel
                obtain ⟨ma, mb, mc, mf, ml⟩ := hM.mx; obtain ⟨ia, ib, ic, jf, il⟩ := hI.mx
                by_cases hiR : i < R
                · have hli : i < (fillTo ds R i).length := by rw [fillTo_len HLD.out hi]; exact hiR
                  go_wp2_with fail
                  go_loopw [15] (fun v wr => ∃ j : Nat, v = .int .i64 j ∧ j ≤ R ∧ (BM wr w.heap.size R R A n cap ∧ BM wr bI R R A2 n2 c2 ∧ RI wr gx A2 n2 (tb R R G) ∧ OR wr gx (.slice (some ⟨gx, 0, none⟩) R R) (xo) ∧ OR wr lr (.slice (some ⟨gr, 0, none⟩) R cr) (os) ∧ gr < wr.heap.size ∧ Below w.heap.size w wr) ∧ gd < wr.heap.size ∧ OR wr gd (.slice (some ⟨gd, 0, none⟩) R R) ((fillTo ds R i).set i (smS G os p i j))) (fun v _ => R - (intOf v).toNat)
                  case atStart => exact ⟨0, rfl, Nat.zero_le _, ⟨hM, hI, hoi, hox, hor, hgr, hbw⟩, hgd, by rw [show smS G os p i 0 = 0 from rfl, set_same (fillTo_at HLD.out hiR) hli]; exact hod⟩
                  case round => as_aux_lemma =>
                    clear ma mb mc mf ml ia ib ic jf il
                    clear hM hI hoi hor hox hgr hbw hod hgd
                    obtain ⟨j, rfl, hj, ⟨hM, hI, hoi, hox, hor, hgr, hbw⟩, hgd, hod⟩ := hrel
                    obtain ⟨ma, mb, mc, mf, ml⟩ := hM.mx; obtain ⟨ia, ib, ic, jf, il⟩ := hI.mx
                    by_cases hjR : j < R
                    · have hix := idx_nat hiR hjR
                      have hn2R : i * R + j < n2 := by have := HN2.out; omega
                      obtain ⟨bb, oo, rfl, hbb, -⟩ := hoi.2 (by omega)
                      have hnx : (((fillTo ds R i).set i (smS G os p i j)).set i (smS G os p i (j + 1))) = (fillTo ds R i).set i (smS G os p i (j + 1)) := by rw [List.set_set]
                      have hsb := smS_bd (f := G) (bs := os) (show 2 ≤ p by omega) i j
                      have hst : smS G os p i (j + 1) = (smS G os p i j + G i j * (os.getD j 0 % p)) % p := rfl
                      have hgb := HGB.out i j
                      have hob := HBO.out j
                      have e1 := hod.cell i (by rw [List.length_set]; exact hli)
                      rw [set_get hli] at e1
                      have e2 := hor.cell j (by rw [HLO.out]; exact hjR)
                      have e3 := hoi.at_ (k := i * R + j) hn2R
                      rw [tb_at hiR hjR] at e3
                      have f1 := hod.frozen i
                      have hs4 := hod.set_ i (smS G os p i (j + 1))
                      rw [hnx, hst] at hs4
                      have HST := Lib.hid hst
                      generalize smS G os p i j = s at *
                      generalize G i j = g at *
                      generalize os.getD j 0 = o at *
                      have hm1 := Int.emod_nonneg o (show p ≠ 0 by omega)
                      have hm2 := Int.emod_lt_of_pos o (show 0 < p by omega)
                      obtain ⟨g1_, g2_⟩ := hgb
                      obtain ⟨s1_, s2_⟩ := hsb
                      obtain ⟨o1_, o2_⟩ := hob
                      have hm3 := mul_bd4 g (o % p) 200 200 (by omega) (by omega) (by omega) (by omega)
                      have hm4 : 0 ≤ g * (o % p) := Int.mul_nonneg g1_ hm1
                      have t1 : (s + g * (o % p)).tmod p = (s + g * (o % p)) % p := Int.tmod_eq_emod_of_nonneg (by omega)
                      have g1 : IntKind.i64.wrap (g * (o % p)) = g * (o % p) := IntWalk.i64_in _ (by omega)
                      have g2 : IntKind.i64.wrap (s + g * (o % p)) = s + g * (o % p) := IntWalk.i64_in _ (by omega)
                      have i1 : (i : Int) * (R : Int) = ((i * R : Nat) : Int) := by rw [Int.natCast_mul]
                      have i0_ : i * R ≤ 36 := by have := Nat.mul_le_mul (show i ≤ 6 by omega) hR; omega
                      have g3 : IntKind.i64.wrap ((i : Int) * (R : Int)) = (i : Int) * (R : Int) := IntWalk.i64_in _ (by omega)
                      have g4 : IntKind.i64.wrap ((i : Int) * (R : Int) + (j : Int)) = (i : Int) * (R : Int) + (j : Int) := IntWalk.i64_in _ (by omega)
                      have g5 : 0 ≤ (i : Int) * (R : Int) + (j : Int) ∧ (i : Int) * (R : Int) + (j : Int) < (n2 : Int) := by omega
                      have g6 : ((i : Int) * (R : Int) + (j : Int)).toNat = i * R + j := by omega
                      rw [← g6] at e3
                      have hp0 : ¬ p = 0 := by omega
                      have ne1 : ¬ bI = gd := by omega
                      have ne2 : ¬ gd = bI := by omega
                      have ne3 : ¬ bb = gd := by omega
                      have ne4 : ¬ gd = bb := by omega
                      have ne5 : ¬ gr = gd := by omega
                      have ne6 : ¬ gd = gr := by omega
                      clear hnx hst hm3 i1 g6 hix
                      go_wp2_with fail
                      ((refine wp_region_held_drew (S := (fun w' => w'.cell? ⟨bI, 2, none⟩ = some (.slice (some ⟨bb, oo, none⟩) n2 c2) ∧ w'.cell? ⟨bb, oo + ((i : Int) * (R : Int) + (j : Int)).toNat, none⟩ = some (.int .i64 g) ∧ w'.cell? ⟨gr, j, none⟩ = some (.int .i64 o))) (by kernel_rfl) ?_ (fun hHeld => ?_)); ((focus ((try dsimp only); (go_keep)))); ((refine tk_ (i := 0) (v := ?_) (y := Or.inl ⟨by rfl, ?_⟩) (h := ?_); rotate_left; (focus (((intro w hSw; (try dsimp only at hSw); go_simp) <;> (try with_reducible rfl)); done)); (try simp only [Act.put, p1_, p2_, p3_]))); ((refine tk_ (i := 1) (v := ?_) (y := Or.inl ⟨by rfl, ?_⟩) (h := ?_); rotate_left; (focus (((intro w hSw; (try dsimp only at hSw); go_simp) <;> (try with_reducible rfl)); done)); (try simp only [Act.put, p1_, p2_, p3_]))); ((refine tk_ (i := 2) (v := ?_) (y := Or.inl ⟨by rfl, ?_⟩) (h := ?_); rotate_left; (focus (((intro w hSw; (try dsimp only at hSw); go_simp) <;> (try with_reducible rfl)); done)); (try simp only [Act.put, p1_, p2_, p3_]))); ((refine tk_ (i := 3) (v := ?_) (y := Or.inl ⟨by rfl, ?_⟩) (h := ?_); rotate_left; (focus (((intro w hSw; (try dsimp only at hSw); go_simp) <;> (try with_reducible rfl)); done)); (try simp only [Act.put, p1_, p2_, p3_]))); ((refine tk_ (i := 4) (v := ?_) (y := Or.inl ⟨by rfl, ?_⟩) (h := ?_); rotate_left; (focus (((intro w hSw; (try dsimp only at hSw); go_simp) <;> (try with_reducible rfl)); done)); (try simp only [Act.put, p1_, p2_, p3_]))); ((refine tk_ (i := 6) (v := ?_) (y := Or.inl ⟨by rfl, ?_⟩) (h := ?_); rotate_left; (focus (((intro w hSw; (try dsimp only at hSw); go_simp) <;> (try with_reducible rfl)); done)); (try simp only [Act.put, p1_, p2_, p3_]))); ((refine tk_ (i := 7) (v := ?_) (y := Or.inl ⟨by rfl, ?_⟩) (h := ?_); rotate_left; (focus (((intro w hSw; (try dsimp only at hSw); go_simp) <;> (try with_reducible rfl)); done)); (try simp only [Act.put, p1_, p2_, p3_]))); ((refine tk_ (i := 8) (v := ?_) (y := Or.inl ⟨by rfl, ?_⟩) (h := ?_); rotate_left; (focus (((intro w hSw; (try dsimp only at hSw); go_simp) <;> (try with_reducible rfl)); done)); (try simp only [Act.put, p1_, p2_, p3_]))); ((refine tk_ (i := 9) (v := ?_) (y := Or.inl ⟨by rfl, ?_⟩) (h := ?_); rotate_left; (focus (((intro w hSw; (try dsimp only at hSw); go_simp) <;> (try with_reducible rfl)); done)); (try simp only [Act.put, p1_, p2_, p3_]))); ((refine tk_ (i := 10) (v := ?_) (y := Or.inl ⟨by rfl, ?_⟩) (h := ?_); rotate_left; (focus (((intro w hSw; (try dsimp only at hSw); go_simp) <;> (try with_reducible rfl)); done)); (try simp only [Act.put, p1_, p2_, p3_]))); ((refine tk_ (i := 11) (v := ?_) (y := Or.inl ⟨by rfl, ?_⟩) (h := ?_); rotate_left; (focus (((intro w hSw; (try dsimp only at hSw); go_simp) <;> (try with_reducible rfl)); done)); (try simp only [Act.put, p1_, p2_, p3_]))); ((refine tk_ (i := 12) (v := ?_) (y := Or.inl ⟨by rfl, ?_⟩) (h := ?_); rotate_left; (focus (((intro w hSw; (try dsimp only at hSw); go_simp) <;> (try with_reducible rfl)); done)); (try simp only [Act.put, p1_, p2_, p3_]))); ((refine tk_ (i := 13) (v := ?_) (y := Or.inl ⟨by rfl, ?_⟩) (h := ?_); rotate_left; (focus (((intro w hSw; (try dsimp only at hSw); go_simp) <;> (try with_reducible rfl)); done)); (try simp only [Act.put, p1_, p2_, p3_]))); ((refine tk_ (i := 14) (v := ?_) (y := Or.inl ⟨by rfl, ?_⟩) (h := ?_); rotate_left; (focus (((intro w hSw; (try dsimp only at hSw); go_simp) <;> (try with_reducible rfl)); done)); (try simp only [Act.put, p1_, p2_, p3_]))); ((refine tk_ (i := 15) (v := ?_) (y := Or.inl ⟨by rfl, ?_⟩) (h := ?_); rotate_left; (focus (((intro w hSw; (try dsimp only at hSw); go_simp) <;> (try with_reducible rfl)); done)); (try simp only [Act.put, p1_, p2_, p3_]))); ((refine tk_ (i := 16) (v := ?_) (y := Or.inl ⟨by rfl, ?_⟩) (h := ?_); rotate_left; (focus (((intro w hSw; (try dsimp only at hSw); go_simp) <;> (try with_reducible rfl)); done)); (try simp only [Act.put, p1_, p2_, p3_]))); ((refine tk_ (i := 17) (v := ?_) (y := Or.inl ⟨by rfl, ?_⟩) (h := ?_); rotate_left; (focus (((intro w hSw; (try dsimp only at hSw); go_simp) <;> (try with_reducible rfl)); done)); (try simp only [Act.put, p1_, p2_, p3_]))); ((refine tk_ (i := 18) (v := ?_) (y := Or.inl ⟨by rfl, ?_⟩) (h := ?_); rotate_left; (focus (((intro w hSw; (try dsimp only at hSw); go_simp) <;> (try with_reducible rfl)); done)); (try simp only [Act.put, p1_, p2_, p3_]))); ((refine tk_ (i := 19) (v := ?_) (y := Or.inl ⟨by rfl, ?_⟩) (h := ?_); rotate_left; (focus (((intro w hSw; (try dsimp only at hSw); go_simp) <;> (try with_reducible rfl)); done)); (try simp only [Act.put, p1_, p2_, p3_]))); ((refine tk_ (i := 23) (v := ?_) (y := Or.inl ⟨by rfl, ?_⟩) (h := ?_); rotate_left; (focus (((intro w hSw; (try dsimp only at hSw); go_simp) <;> (try with_reducible rfl)); done)); (try simp only [Act.put, p1_, p2_, p3_]))); (refine wpAnyH_ready (rs := [5, 20]) (by kernel_rfl) (by simp) ?_); (refine AllReadyH.cons (by simp only [e1_, e2_, e3_]; try rfl) ?_ ?_); ((focus ((intro K hK); (go_simp); ((try go_wp2_with fail)); (refine hK.out _ _ ?_ (fun hHeld => ?_)); ((focus ((try dsimp only); (go_keep)))); (clear hK K); ((try simp only [Act.put, p1_, p2_, p3_])); (refine wpAnyH_ready (rs := [20]) (by kernel_rfl) (by simp) ?_); (refine AllReadyH.cons (by simp only [e1_, e2_, e3_]; try rfl) ?_ ?_); ((focus ((intro K hK); (go_simp); ((go_at_call 75; refine (spec_l8Mod o p _ (by omega) (by omega) (by omega) (by omega)).mono ?_; rintro e w' ⟨rfl, rfl⟩)); ((try go_wp2_with fail)); (refine hK.out _ _ ?_ (fun hHeld => ?_)); ((focus ((try dsimp only); (go_keep)))); (clear hK K); ((try simp only [Act.put, p1_, p2_, p3_])); ((refine tk_ (i := 21) (v := ?_) (y := Or.inl ⟨by rfl, ?_⟩) (h := ?_); rotate_left; (focus (((intro w hSw; (try dsimp only at hSw); go_simp) <;> (try with_reducible rfl)); done)); (try simp only [Act.put, p1_, p2_, p3_]))); ((refine tk_ (i := 22) (v := ?_) (y := Or.inl ⟨by rfl, ?_⟩) (h := ?_); rotate_left; (focus (((intro w hSw; (try dsimp only at hSw); go_simp) <;> (try with_reducible rfl)); done)); (try simp only [Act.put, p1_, p2_, p3_]))); ((refine tk_ (i := 24) (v := ?_) (y := Or.inl ⟨by rfl, ?_⟩) (h := ?_); rotate_left; (focus (((intro w hSw; (try dsimp only at hSw); go_simp) <;> (try with_reducible rfl)); done)); (try simp only [Act.put, p1_, p2_, p3_]))); ((refine tk_ (i := 25) (v := ?_) (y := Or.inl ⟨by rfl, ?_⟩) (h := ?_); rotate_left; (focus (((intro w hSw; (try dsimp only at hSw); go_simp) <;> (try with_reducible rfl)); done)); (try simp only [Act.put, p1_, p2_, p3_]))); (refine wpAnyH_ready (rs := [26]) (by kernel_rfl) (by simp) ?_); (refine AllReadyH.cons (by simp only [e1_, e2_, e3_]; try rfl) ?_ ?_); ((focus ((intro K hK); (go_simp); ((try go_wp2_with fail)); (refine hK.out _ _ ?_ (fun hHeld => ?_)); ((focus ((try dsimp only); (go_keep)))); (clear hK K); ((try simp only [Act.put, p1_, p2_, p3_])); (refine wpAnyH_done (by kernel_rfl) ?_ _)))); (rotate_left 1); (exact AllReadyH.nil)))); (rotate_left 1); (exact AllReadyH.nil)))); (rotate_left 1); (refine AllReadyH.cons (by simp only [e1_, e2_, e3_]; try rfl) ?_ ?_); ((focus ((intro K hK); (go_simp); ((go_at_call 75; refine (spec_l8Mod o p _ (by omega) (by omega) (by omega) (by omega)).mono ?_; rintro e w' ⟨rfl, rfl⟩)); ((try go_wp2_with fail)); (refine hK.out _ _ ?_ (fun hHeld => ?_)); ((focus ((try dsimp only); (go_keep)))); (clear hK K); ((try simp only [Act.put, p1_, p2_, p3_])); ((refine tk_ (i := 21) (v := ?_) (y := Or.inl ⟨by rfl, ?_⟩) (h := ?_); rotate_left; (focus (((intro w hSw; (try dsimp only at hSw); go_simp) <;> (try with_reducible rfl)); done)); (try simp only [Act.put, p1_, p2_, p3_]))); (refine wpAnyH_ready (rs := [5]) (by kernel_rfl) (by simp) ?_); (refine AllReadyH.cons (by simp only [e1_, e2_, e3_]; try rfl) ?_ ?_); ((focus ((intro K hK); (go_simp); ((try go_wp2_with fail)); (refine hK.out _ _ ?_ (fun hHeld => ?_)); ((focus ((try dsimp only); (go_keep)))); (clear hK K); ((try simp only [Act.put, p1_, p2_, p3_])); ((refine tk_ (i := 22) (v := ?_) (y := Or.inl ⟨by rfl, ?_⟩) (h := ?_); rotate_left; (focus (((intro w hSw; (try dsimp only at hSw); go_simp) <;> (try with_reducible rfl)); done)); (try simp only [Act.put, p1_, p2_, p3_]))); ((refine tk_ (i := 24) (v := ?_) (y := Or.inl ⟨by rfl, ?_⟩) (h := ?_); rotate_left; (focus (((intro w hSw; (try dsimp only at hSw); go_simp) <;> (try with_reducible rfl)); done)); (try simp only [Act.put, p1_, p2_, p3_]))); ((refine tk_ (i := 25) (v := ?_) (y := Or.inl ⟨by rfl, ?_⟩) (h := ?_); rotate_left; (focus (((intro w hSw; (try dsimp only at hSw); go_simp) <;> (try with_reducible rfl)); done)); (try simp only [Act.put, p1_, p2_, p3_]))); (refine wpAnyH_ready (rs := [26]) (by kernel_rfl) (by simp) ?_); (refine AllReadyH.cons (by simp only [e1_, e2_, e3_]; try rfl) ?_ ?_); ((focus ((intro K hK); (go_simp); ((try go_wp2_with fail)); (refine hK.out _ _ ?_ (fun hHeld => ?_)); ((focus ((try dsimp only); (go_keep)))); (clear hK K); ((try simp only [Act.put, p1_, p2_, p3_])); (refine wpAnyH_done (by kernel_rfl) ?_ _)))); (rotate_left 1); (exact AllReadyH.nil)))); (rotate_left 1); (exact AllReadyH.nil)))); (rotate_left 1); (exact AllReadyH.nil))
                      all_goals
                        clear g1 g2 g3 g4
                        go_wp2_with fail
                        go_roundw
                        case rel => exact ⟨j + 1, by go_num, by omega, ⟨Kb hM, Kb hI, Kr hoi, OR.farG hox (by simp only [ne_eq]; omega) _, OR.farG hor (by simp only [ne_eq]; omega) _, Ks, Kw⟩, Ks, by rw [HST.out]; (with_reducible (repeat (first | exact hs4 | refine OR.drew ?_ | refine OR.drewN ?_ _ | refine OR.alloc ?_ _ | refine OR.b_ ?_ | refine OR.l_ ?_)))⟩
                        case measure => simp only [intOf]; omega
                    · obtain rfl : R = j := by omega
                      have hod2 := hod.as (fillTo_setV HLD.out hiR (HDS.out i hiR))
                      clear hod
                      go_wp2_with fail
                      go_roundw
                      case rel => exact ⟨i + 1, by go_num, by omega, ⟨hM, hI, hoi, hox, hor, hgr, hbw⟩, hgd, hod2⟩
                      case measure => simp only [intOf]; omega
                · obtain rfl : R = i := by omega
                  have hod2 := hod.as (fillTo_all HLD.out)
                  clear hod
                  go_wp2_with fail
                  go_loopw [16] (fun v wr => ∃ i : Nat, v = .int .i64 i ∧ i ≤ R ∧ (BM wr w.heap.size R R A n cap ∧ BM wr bI R R A2 n2 c2 ∧ RI wr gx A2 n2 (tb R R G) ∧ OR wr gx (.slice (some ⟨gx, 0, none⟩) R R) ((mxT R nx xo i)) ∧ OR wr lr (.slice (some ⟨gr, 0, none⟩) R cr) ((mxT R nw os i)) ∧ gr < wr.heap.size ∧ Below w.heap.size w wr) ∧ gd < wr.heap.size ∧ OR wr gd (.slice (some ⟨gd, 0, none⟩) R R) ds) (fun v _ => R - (intOf v).toNat)
                  case atStart => exact ⟨0, rfl, Nat.zero_le _, ⟨hM, hI, hoi, by rw [mxT_zero HLX.out]; exact hox, by rw [mxT_zero HLO.out]; exact hor, hgr, hbw⟩, hgd, hod2⟩
                  case round => as_aux_lemma =>
                    clear ma mb mc mf ml ia ib ic jf il
                    clear hM hI hoi hod2 hox hor hgr hbw hgd
                    obtain ⟨i, rfl, hi, ⟨hM, hI, hoi, hox, hor, hgr, hbw⟩, hgd, hod⟩ := hrel
                    obtain ⟨ma, mb, mc, mf, ml⟩ := hM.mx; obtain ⟨ia, ib, ic, jf, il⟩ := hI.mx
                    by_cases hiR : i < R
                    · have e1 := hor.cell i (by rw [mxT_len]; exact hiR)
                      rw [mxT_at hiR] at e1
                      have hob := HBO.out i
                      obtain ⟨oi, hoe⟩ : ∃ oi, os.getD i 0 = oi := ⟨_, rfl⟩
                      rw [hoe] at e1 hob
                      have HOE := Lib.hid hoe
                      have HS0 : Hid (oi = oi - sumTo (fun q => f i q * ds.getD q 0) 0) := Lib.hid (by show _ = _ - 0; omega)
                      clear hoe
                      go_wp2_with fail
                      go_loopw [17, 18] (fun vs v wr => ∃ j : Nat, v = .int .i64 j ∧ vs = .int .i64 (oi - sumTo (fun q => f i q * ds.getD q 0) j) ∧ j ≤ R ∧ (BM wr w.heap.size R R A n cap ∧ BM wr bI R R A2 n2 c2 ∧ RI wr gx A2 n2 (tb R R G) ∧ OR wr gx (.slice (some ⟨gx, 0, none⟩) R R) ((mxT R nx xo i)) ∧ OR wr lr (.slice (some ⟨gr, 0, none⟩) R cr) ((mxT R nw os i)) ∧ gr < wr.heap.size ∧ Below w.heap.size w wr) ∧ gd < wr.heap.size ∧ OR wr gd (.slice (some ⟨gd, 0, none⟩) R R) ds) (fun _ v _ => R - (intOf v).toNat)
                      case atStart => exact ⟨0, rfl, by rw [← HS0.out], Nat.zero_le _, ⟨hM, hI, hoi, hox, hor, hgr, hbw⟩, hgd, hod⟩
                      case round => as_aux_lemma =>
                        clear ma mb mc mf ml ia ib ic jf il
                        clear hM hI hoi hor hox hgr hbw hod hgd e1
                        obtain ⟨j, rfl, rfl, hj, ⟨hM, hI, hoi, hox, hor, hgr, hbw⟩, hgd, hod⟩ := hrel
                        have hvb : -1000000000000 ≤ oi - sumTo (fun q => f i q * ds.getD q 0) j ∧ oi - sumTo (fun q => f i q * ds.getD q 0) j ≤ 1000000000000 := by
                          have hsb := liD_bd (ds := ds) hR HOK.out hiR (fun q => by have := HDB.out q; omega) hj
                          omega
                        obtain ⟨ma, mb, mc, mf, ml⟩ := hM.mx; obtain ⟨ia, ib, ic, jf, il⟩ := hI.mx
                        by_cases hjR : j < R
                        · have hnx : oi - sumTo (fun q => f i q * ds.getD q 0) j - f i j * ds.getD j 0 = oi - sumTo (fun q => f i q * ds.getD q 0) (j + 1) := by
                            show _ = oi - (sumTo (fun q => f i q * ds.getD q 0) j + f i j * ds.getD j 0)
                            omega
                          have hix := idx_nat hiR hjR
                          have hnR1 : i * R + j < n := by omega
                          have hri : RI wr w.heap.size A n xs := H2.out.below hbw (Nat.le_refl _)
                          obtain ⟨bb, oo, rfl, hbb, -⟩ := hri.2 (by omega)
                          have e3 := hri.at_ (k := i * R + j) hnR1
                          have hce : xs.getD (i * R + j) 0 = f i j := by rw [← HCEL.out i j]; exact (cel_nat xs R i j).symm
                          rw [hce] at e3
                          have e2 := hod.cell j (by rw [HLD.out]; exact hjR)
                          have hzb := HOK.out i j hiR hjR
                          have hdb := HDB.out j
                          generalize oi - sumTo (fun q => f i q * ds.getD q 0) j = v at *
                          generalize f i j = z at *
                          generalize ds.getD j 0 = d at *
                          have HNX := Lib.hid hnx
                          obtain ⟨z1, z2⟩ := hzb
                          obtain ⟨d1, d2⟩ := hdb
                          have hm1 := mul_bd4 z d 400000000 200 z1 z2 (by omega) (by omega)
                          have g1 : IntKind.i64.wrap (z * d) = z * d := IntWalk.i64_in _ (by omega)
                          have g2 : IntKind.i64.wrap (v - z * d) = v - z * d := IntWalk.i64_in _ (by omega)
                          have i1 : (i : Int) * (R : Int) = ((i * R : Nat) : Int) := by rw [Int.natCast_mul]
                          have i0_ : i * R ≤ 36 := by have := Nat.mul_le_mul (show i ≤ 6 by omega) hR; omega
                          have g3 : IntKind.i64.wrap ((i : Int) * (R : Int)) = (i : Int) * (R : Int) := IntWalk.i64_in _ (by omega)
                          have g4 : IntKind.i64.wrap ((i : Int) * (R : Int) + (j : Int)) = (i : Int) * (R : Int) + (j : Int) := IntWalk.i64_in _ (by omega)
                          have g5 : 0 ≤ (i : Int) * (R : Int) + (j : Int) ∧ (i : Int) * (R : Int) + (j : Int) < (n : Int) := by omega
                          have g6 : ((i : Int) * (R : Int) + (j : Int)).toNat = i * R + j := by omega
                          rw [← g6] at e3
                          clear hnx hm1 i1 g6 hix hce hri
                          go_wp2_with fail
                          go_quiet (fail)
                          go_wp2_with fail
                          go_roundw
                          case rel => exact ⟨j + 1, by go_num, by rw [← HNX.out], by omega, ⟨Kb hM, Kb hI, Kr hoi, Ko hox, Ko hor, Ks, Kw⟩, Ks, Ko hod⟩
                          case measure => simp only [intOf]; omega
                        · obtain rfl : R = j := by omega
                          have hnw : (mxT R nw os i).set i ((oi - sumTo (fun q => f i q * ds.getD q 0) R).tdiv p) = mxT R nw os (i + 1) := mxT_set (by rw [← HNW.out, ← HOE.out]; exact tab_getD hiR)
                          have hnx : (mxT R nx xo i).set i (xo.getD i 0 + ds.getD i 0 * pw) = mxT R nx xo (i + 1) := mxT_set (by rw [← HXW.out]; exact tab_getD hiR)
                          have f1 := hor.frozen i
                          have r1 := hor.cell i (by rw [mxT_len]; exact hiR)
                          generalize oi - sumTo (fun q => f i q * ds.getD q 0) R = v at *
                          have hst := hor.set_ i (v.tdiv p)
                          rw [hnw] at hst
                          have e1 := hox.cell i (by rw [mxT_len]; exact hiR)
                          rw [mxT_at hiR] at e1
                          have e2 := hod.cell i (by rw [HLD.out]; exact hiR)
                          have f2 := hox.frozen i
                          have hox3 : OR (wr.setCell ⟨gr, i, none⟩ (.int .i64 (v.tdiv p))) gx (.slice (some ⟨gx, 0, none⟩) R R) (mxT R nx xo i) := OR.farG hox (by simp only [ne_eq]; omega) _
                          have hsx := hox3.set_ i (xo.getD i 0 + ds.getD i 0 * pw)
                          rw [hnx] at hsx
                          have hxb := HBX.out i
                          have hdb := HDB.out i
                          generalize xo.getD i 0 = x at *
                          generalize ds.getD i 0 = d at *
                          obtain ⟨x1, x2⟩ := hxb
                          obtain ⟨d1, d2⟩ := hdb
                          have hp0 : ¬ p = 0 := by omega
                          have hq := tdiv_abs v p
                          have hm1 := mul_bd4 pw d 400000000 200 (by omega) (by omega) (by omega) (by omega)
                          have g0 : IntKind.i64.wrap (v.tdiv p) = v.tdiv p := IntWalk.i64_in _ (by omega)
                          have g1 : IntKind.i64.wrap (pw * d) = pw * d := IntWalk.i64_in _ (by omega)
                          have g2 : IntKind.i64.wrap (x + pw * d) = x + pw * d := IntWalk.i64_in _ (by omega)
                          rw [Int.mul_comm d pw] at hsx
                          have ne1 : ¬ gx = gr := by omega
                          have ne2 : ¬ gr = gx := by omega
                          have ne3 : ¬ gd = gr := by omega
                          have ne4 : ¬ gr = gd := by omega
                          have ne5 : ¬ gd = gx := by omega
                          have ne6 : ¬ gx = gd := by omega
                          clear hnw hnx hm1 hq
                          go_wp2_with fail
                          ((refine wp_region_held_drew (S := (fun w' => w'.cell? ⟨gd, i, none⟩ = some (.int .i64 d))) (by kernel_rfl) ?_ (fun hHeld => ?_)); ((focus ((try dsimp only); (go_keep)))); ((refine tk_ (i := 0) (v := ?_) (y := Or.inl ⟨by rfl, ?_⟩) (h := ?_); rotate_left; (focus (((intro w hSw; (try dsimp only at hSw); go_simp) <;> (try with_reducible rfl)); done)); (try simp only [Act.put, p1_, p2_, p3_]))); ((refine tk_ (i := 1) (v := ?_) (y := Or.inl ⟨by rfl, ?_⟩) (h := ?_); rotate_left; (focus (((intro w hSw; (try dsimp only at hSw); go_simp) <;> (try with_reducible rfl)); done)); (try simp only [Act.put, p1_, p2_, p3_]))); ((refine tk_ (i := 2) (v := ?_) (y := Or.inl ⟨by rfl, ?_⟩) (h := ?_); rotate_left; (focus (((intro w hSw; (try dsimp only at hSw); go_simp) <;> (try with_reducible rfl)); done)); (try simp only [Act.put, p1_, p2_, p3_]))); ((refine tk_ (i := 3) (v := ?_) (y := Or.inl ⟨by rfl, ?_⟩) (h := ?_); rotate_left; (focus (((intro w hSw; (try dsimp only at hSw); go_simp) <;> (try with_reducible rfl)); done)); (try simp only [Act.put, p1_, p2_, p3_]))); ((refine tk_ (i := 4) (v := ?_) (y := Or.inl ⟨by rfl, ?_⟩) (h := ?_); rotate_left; (focus (((intro w hSw; (try dsimp only at hSw); go_simp) <;> (try with_reducible rfl)); done)); (try simp only [Act.put, p1_, p2_, p3_]))); ((refine tk_ (i := 6) (v := ?_) (y := Or.inl ⟨by rfl, ?_⟩) (h := ?_); rotate_left; (focus (((intro w hSw; (try dsimp only at hSw); go_simp) <;> (try with_reducible rfl)); done)); (try simp only [Act.put, p1_, p2_, p3_]))); ((refine tk_ (i := 7) (v := ?_) (y := Or.inl ⟨by rfl, ?_⟩) (h := ?_); rotate_left; (focus (((intro w hSw; (try dsimp only at hSw); go_simp) <;> (try with_reducible rfl)); done)); (try simp only [Act.put, p1_, p2_, p3_]))); ((refine tk_ (i := 8) (v := ?_) (y := Or.inl ⟨by rfl, ?_⟩) (h := ?_); rotate_left; (focus (((intro w hSw; (try dsimp only at hSw); go_simp) <;> (try with_reducible rfl)); done)); (try simp only [Act.put, p1_, p2_, p3_]))); ((refine tk_ (i := 9) (v := ?_) (y := Or.inl ⟨by rfl, ?_⟩) (h := ?_); rotate_left; (focus (((intro w hSw; (try dsimp only at hSw); go_simp) <;> (try with_reducible rfl)); done)); (try simp only [Act.put, p1_, p2_, p3_]))); ((refine tk_ (i := 10) (v := ?_) (y := Or.inl ⟨by rfl, ?_⟩) (h := ?_); rotate_left; (focus (((intro w hSw; (try dsimp only at hSw); go_simp) <;> (try with_reducible rfl)); done)); (try simp only [Act.put, p1_, p2_, p3_]))); ((refine tk_ (i := 11) (v := ?_) (y := Or.inl ⟨by rfl, ?_⟩) (h := ?_); rotate_left; (focus (((intro w hSw; (try dsimp only at hSw); go_simp) <;> (try with_reducible rfl)); done)); (try simp only [Act.put, p1_, p2_, p3_]))); ((refine wpAnyH_ready (rs := [5]) (by kernel_rfl) (by simp) ?_; refine AllReadyH.cons (by simp only [e1_, e2_, e3_]; try rfl) (fun K hK => ?_) AllReadyH.nil; go_simp; (try go_wp2_with fail); refine hK.out _ _ ?_ (fun hHeld => ?_); (focus ((try dsimp only); (go_keep))); clear hK K; (try simp only [Act.put, p1_, p2_, p3_]))); ((refine tk_ (i := 12) (v := ?_) (y := Or.inl ⟨by rfl, ?_⟩) (h := ?_); rotate_left; (focus (((intro w hSw; (try dsimp only at hSw); go_simp) <;> (try with_reducible rfl)); done)); (try simp only [Act.put, p1_, p2_, p3_]))); ((refine tk_ (i := 13) (v := ?_) (y := Or.inl ⟨by rfl, ?_⟩) (h := ?_); rotate_left; (focus (((intro w hSw; (try dsimp only at hSw); go_simp) <;> (try with_reducible rfl)); done)); (try simp only [Act.put, p1_, p2_, p3_]))); ((refine wpAnyH_ready (rs := [14]) (by kernel_rfl) (by simp) ?_; refine AllReadyH.cons (by simp only [e1_, e2_, e3_]; try rfl) (fun K hK => ?_) AllReadyH.nil; go_simp; (try go_wp2_with fail); refine hK.out _ _ ?_ (fun hHeld => ?_); (focus ((try dsimp only); (go_keep))); clear hK K; (try simp only [Act.put, p1_, p2_, p3_]))); (refine wpAnyH_done (by kernel_rfl) ?_ _))
                          clear g0 g1 g2
                          go_wp2_with fail
                          go_roundw
                          case rel => exact ⟨i + 1, by go_num, by omega, ⟨Kb hM, Kb hI, Kr hoi, Ko hsx, OR.farG (Ko hst) (by simp only [ne_eq]; omega) _, Ks, Kw⟩, Ks, Ko hod⟩
                          case measure => simp only [intOf]; omega
                    · obtain rfl : R = i := by omega
                      have hox2 := hox.as (mxT_end HLZ.out)
                      have hor2 := hor.as (mxT_end HLW.out)
                      have HN1 : Hid (nw = (liS R f G p bs (k + 1)).1) := Lib.hid (by rw [HNXT.out])
                      have HN2' : Hid (nx = (liS R f G p bs (k + 1)).2) := Lib.hid (by rw [HNXT.out])
                      clear hox hor
                      go_wp2_with fail
                      go_roundg (go - 1)
                      case measure => have := HGK.out; omega
                      case rel => exact ⟨k + 1, pw * p, rfl, HPN, ⟨by omega, by omega⟩, by omega, HLG, by have := HGK.out; omega, hM, hI, hoi, by rw [← HN2'.out]; exact hox2, by rw [← HN1.out]; exact hor2, hgr, hbw⟩
end Go.Proofs.Ytlggfmfelakadaa

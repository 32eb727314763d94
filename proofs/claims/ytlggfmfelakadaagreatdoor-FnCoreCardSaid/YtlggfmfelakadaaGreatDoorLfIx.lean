/-
  DERIVED. SolveByLifting of the program.
-/
import Derived.Test.YtlggfmfelakadaaGreatDoorc8
import Derived.Test.YtlggfmfelakadaaGreatDoorInvIx
import Derived.Test.YtlggfmfelakadaaGreatDoorTimMx
import Derived.Test.YtlggfmfelakadaaGreatDoorRatioFromx
import Derived.Test.YtlggfmfelakadaaGreatDoorIsRatx
import Derived.Test.YtlggfmfelakadaaGreatDoorc7
import Derived.Test.YtlggfmfelakadaaGreatDoorc3
namespace Go.Proofs.YtlggfmfelakadaaGreatDoor
open Go.RowKit
set_option linter.unusedVariables false
set_option linter.unusedSimpArgs false
theorem OR.farOwn {w : World} {B lo hi : Nat} {v : Value} {xs : List Int} (h : OR w B v xs) (o : Own v lo hi) {p : Addr} (hp : p.block < lo ∨ hi ≤ p.block) (u : Value) : OR (w.setCell p u) B v xs :=
  OR.far h (fun e => by have := o _ e; omega) u
/-- What the roads of lifting answer, as a call's result. -/
def LSR (r : Int) (o : Option (List Int)) (w : World) (e : Ending) (w' : World) : Prop := QBR (lsN r o) (o.getD []) o.isSome w e w'
theorem LSR.no {r : Int} {w w' : World} {g : Nat} (hg : g = w'.heap.size) (hb : Below w.heap.size w w') (hs : w.heap.size ≤ w'.heap.size) :
    LSR r none w (.returned (.tuple #[.slice (some ⟨g, 0, none⟩) 0 0, .bool false])) (w'.alloc (.cells #[] 38)) :=
  ⟨_, _, _, rfl, OF.empty _ _ hg hs, Kw⟩
theorem LSR.yes {r : Int} {w w' : World} {R m cap : Nat} {A : Option Addr} {qs : List Int} (hr : r = R) (h : OF w' w.heap.size (.slice A m cap) R qs) (hb : Below w.heap.size w w') :
    LSR r (some qs) w (.returned (.tuple #[.slice A m cap, .bool true])) w' := by
  subst hr
  exact ⟨_, _, _, rfl, h, hb⟩
theorem OR.farG {w : World} {B g n cap : Nat} {xs : List Int} (h : OR w B (.slice (some ⟨g, 0, none⟩) n cap) xs) {p : Addr} (hp : g ≠ p.block) (u : Value) : OR (w.setCell p u) B (.slice (some ⟨g, 0, none⟩) n cap) xs :=
  OR.far h (by simp [Value.ownBlock]; exact hp) u
theorem set_same {xs : List Int} {i : Nat} {v : Int} (h : xs.getD i 0 = v) (hi : i < xs.length) : xs.set i v = xs := by
  subst h
  apply List.ext_getElem?
  intro j
  by_cases hj : j = i
  · subst hj; simp [hi, List.getD]
  · rw [List.getElem?_set_ne (Ne.symm hj)]
theorem set_get {xs : List Int} {i : Nat} {v : Int} (hi : i < xs.length) : (xs.set i v).getD i 0 = v := by simp [List.getD, hi]
theorem liC_next {p pw : Int} {k : Nat} (hp : 101 ≤ p) (hw : p ^ k = pw) (h1 : pw ≤ 200000000) (h2 : pw ≤ 400000000 / p) : liC p k = true := by
  unfold liC; rw [hw, decide_eq_true h1, decide_eq_true h2]; rfl
theorem liC_no1 {p pw : Int} {k : Nat} (hw : p ^ k = pw) (h1 : ¬ pw ≤ 200000000) : liC p k = false := by
  unfold liC; rw [hw, decide_eq_false h1]; rfl
theorem liC_no2 {p pw : Int} {k : Nat} (hw : p ^ k = pw) (h2 : ¬ pw ≤ 400000000 / p) : liC p k = false := by
  unfold liC; rw [hw, decide_eq_false h2, Bool.and_false]
set_option maxRecDepth 100000 in
set_option maxHeartbeats 16000000 in
theorem impl_SolveByLifting (r c : Int) (A Ab : Option Addr) (n cap nb capb : Nat) (xs bs : List Int) (w : World) {B B' : Nat} (h : RI w B A n xs) (hb : RI w B' Ab nb bs) (hB : B ≤ w.heap.size) (hB' : B' ≤ w.heap.size) (hn : n ≤ 1048576) (hnb : nb ≤ 1048576) :
    Calls Tryz.prog 10 #[.agg #[.int .i64 r, .int .i64 c, .slice A n cap], .slice Ab nb capb] w (LSR r (lsX r c xs bs) w) := by
  obtain ⟨i0, hi, hz0, hz1, hz2⟩ := info_parts int_info
  have hlb := hb.len
  have hla := h.len
  have H2 := Lib.hid (h.more hB)
  have H3 := Lib.hid (hb.more hB')
  clear h hb
  rcases hs : sysB r c xs bs with _ | _
  · rw [lsX_no hs]
    have HS := Lib.hid hs
    clear hs hlb hla
    go_enter Tryz.func10, Tryz.ntmps10
    go_wp2_with fail
    refine (impl_isSystem r c A Ab n cap nb capb xs bs _ (B := w.heap.size) (B' := w.heap.size) (Kr H2.out) (Kr H3.out) Ks Ks hn hnb).mono ?_
    rw [HS.out]
    rintro e w1 ⟨rfl, hb1⟩
    have hsz1 := hb1.size
    (try simp at hsz1)
    have hbw : Below w.heap.size w w1 := Kw
    go_wp2_with fail
    go_ret2; exact LSR.no (by simp) Kw Ks
  · have S := sysOk hs
    have hrc := S.rc
    subst hrc
    have hr6 := S.r6
    obtain ⟨R, rfl⟩ := nat_of S.m.r0
    have hR : R ≤ 6 := by omega
    have hlbR := S.bl
    have hnbR : R = nb := by omega
    have hlaR := S.m.len
    have HOKF : Hid (OKF R R (fun i j => cel xs R i j)) := Lib.hid (fun i j _ _ => S.m.cel_bd i j)
    have HBN : Hid (∀ k, Num (bs.getD k 0)) := Lib.hid (fun k => by
      by_cases hk : k < bs.length
      · have := (isNum_iff _).1 (List.all_eq_true.1 S.bn _ (mem_getD hk))
        exact this
      · have e : bs.getD k 0 = 0 := by simp [List.getD, List.getElem?_eq_none (show bs.length ≤ k by omega)]
        rw [e]; exact ⟨by omega, by omega⟩)
    have HBL : Hid (bs.length = R) := Lib.hid (by omega)
    have hnR : n ≤ R * R ∧ R * R ≤ n := by rw [← Int.natCast_mul] at hlaR; omega
    have hRR : R * R ≤ 6 * 6 := Nat.mul_le_mul hR hR
    subst hnbR
    have HNO : Hid (liP R R xs 99 101 = none → lsX R R xs bs = none) := Lib.hid (lsX_none hs)
    have HYES : Hid (∀ p, liP R R xs 99 101 = some p → lsX R R xs bs = lsQ R R xs bs p) := Lib.hid (fun p => lsX_some hs)
    have HS := Lib.hid hs
    clear hs S hlb hla hlbR hlaR hr6
    generalize lsX (R : Int) (R : Int) xs bs = X at *
    obtain ⟨L, hL⟩ : ∃ L, liP R R xs 99 101 = L := ⟨_, rfl⟩
    rw [hL] at HNO HYES
    have HL0 := Lib.hid hL
    clear hL
    go_enter Tryz.func10, Tryz.ntmps10
    go_wp2_with fail
    refine (impl_isSystem R R A Ab n cap R capb xs bs _ (B := w.heap.size) (B' := w.heap.size) (Kr H2.out) (Kr H3.out) Ks Ks hn hnb).mono ?_
    rw [HS.out]
    rintro e w1 ⟨rfl, hb1⟩
    have hsz1 := hb1.size
    (try simp at hsz1)
    have hM : BM w1 w.heap.size R R A n cap := Ka
    have hbw : Below w.heap.size w w1 := Kw
    obtain ⟨ma, mb, mc, mf, ml⟩ := hM.mx
    clear hb1
    go_wp2_with fail
    generalize hbI : w1.heap.size = bI at *
    go_loopw [6, 8] (fun vp vk wr => ∃ (k : Nat) (ri ci : Int) (Ai : Option Addr) (ni capi : Nat), vp = .int .i64 (101 + (k : Int)) ∧ vk = .bool false ∧ k ≤ 99 ∧ Hid (liP R R xs (99 - k) (101 + (k : Int)) = L) ∧ BM wr w.heap.size R R A n cap ∧ BM wr bI ri ci Ai ni capi ∧ Below w.heap.size w wr) (fun v _ _ => 300 - (intOf v).toNat)
    case atStart => exact ⟨0, 0, 0, none, 0, 0, rfl, rfl, by omega, HL0, Kb hM, BX.new _ _ _ _ _ _ _ _ hbI.symm, Kw⟩
    case round =>
      clear hM hbw ma mb mc mf ml
      obtain ⟨k, ri, ci, Ai, ni, capi, rfl, rfl, hk, HLK, hM, hI, hbw⟩ := hrel
      have hszr := hbw.size
      have hlI := hI.lt
      obtain ⟨ma, mb, mc, mf, ml⟩ := hM.mx; obtain ⟨ia, ib, ic, jf, il⟩ := hI.mx
      by_cases hk9 : k < 99
      · rcases hib : imB R R xs (101 + (k : Int)) with _ | _
        · have HB := Lib.hid hib
          have HX := Lib.hid (imM_no hib)
          have HLN : Hid (liP R R xs (99 - (k + 1)) (101 + (k : Int) + 1) = L) := Lib.hid (by
            have := HLK.out
            rw [show 99 - k = 99 - (k + 1) + 1 by omega, liP_no hib] at this
            exact this)
          clear hib
          go_wp2_with fail
          refine (impl_InverseMod R R (101 + (k : Int)) A n cap xs _ (B := w.heap.size) (Kr H2.out) Ks hn).mono ?_
          rw [HB.out, HX.out]
          rintro e w2 ⟨A2, n2, c2, rfl, ho2, hb2⟩
          have hsz2 := hb2.size
          have hM2 : BM w2 w.heap.size R R A n cap := Kb hM
          have hI2 : BM w2 bI ri ci Ai ni capi := Kb hI
          have hbw2 : Below w.heap.size w w2 := Kw
          have hvr := B3.of hI2
          clear ho2 hb2 ma mb mc mf ml ia ib ic jf il
          obtain ⟨ia, ib, ic, jf, il⟩ := hI2.mx
          go_wp2_with fail
          go_roundw
          case rel => exact ⟨k + 1, _, _, _, _, _, by go_num, rfl, by omega, by rw [show ((k + 1 : Nat) : Int) = (k : Int) + 1 by omega, ← Int.add_assoc]; exact HLN, Kb hM2, Kb hvr, Kw⟩
          case measure => simp only [intOf]; omega
        · have hXQ := HYES.out (101 + (k : Int)) (by
            have := HLK.out
            rw [show 99 - k = 99 - (k + 1) + 1 by omega, liP_yes hib] at this
            exact this.symm)
          have hX0 := imM_yes hib
          have hG0 := (imOk_of hib).f0
          unfold lsQ at hXQ
          simp only [Int.toNat_natCast] at hXQ hX0
          have hp1 : 101 ≤ 101 + (k : Int) := by omega
          have hp2 : 101 + (k : Int) < 200 := by omega
          clear HLK
          generalize hp : 101 + (k : Int) = p at *
          have HB := Lib.hid hib
          obtain ⟨G, hG⟩ : ∃ G : Fn2, (fun i j => (imS (R : Int) (R : Int) xs p).f i (R + j)) = G := ⟨_, rfl⟩
          rw [hG] at hXQ hX0
          have HGB : Hid (∀ i j : Nat, 0 ≤ G i j ∧ G i j < p) := Lib.hid (fun i j => by rw [← hG]; exact hG0 i (R + j))
          have HX := Lib.hid hX0
          clear hG hG0 hX0 hib hp hk hk9 HNO HYES HL0
          obtain ⟨f, hf⟩ : ∃ f : Fn2, (fun i j => cel xs (R : Int) (i : Nat) (j : Nat)) = f := ⟨_, rfl⟩
          rw [hf] at hXQ
          have HCEL : Hid (∀ i j : Nat, cel xs (R : Int) i j = f i j) := Lib.hid (fun i j => by rw [← hf])
          have HOK : Hid (OKF R R f) := Lib.hid (by rw [← hf]; exact HOKF.out)
          have HXQ := Lib.hid hXQ
          clear hXQ hf HOKF
          go_wp2_with fail
          refine (impl_InverseMod R R p A n cap xs _ (B := w.heap.size) (Kr H2.out) Ks hn).mono ?_
          rw [HB.out, HX.out]
          rintro e w2 ⟨A2, n2, c2, rfl, ho2, hb2⟩
          have hsz2 := hb2.size
          have hM2 : BM w2 w.heap.size R R A n cap := Kb hM
          have hI2 : BM w2 bI ri ci Ai ni capi := Kb hI
          have hbw2 : Below w.heap.size w w2 := Kw
          have hvr := B3.of hI2
          have ho3 : OR (((w2.setCell ⟨bI, 0, none⟩ (.int .i64 R)).setCell ⟨bI, 1, none⟩ (.int .i64 R)).setCell ⟨bI, 2, none⟩ (.slice A2 n2 c2)) wr.heap.size (.slice A2 n2 c2) (tb R R G) := Ko ho2
          have hoi := OR.reads ho3
          have hMs : BM (((w2.setCell ⟨bI, 0, none⟩ (.int .i64 R)).setCell ⟨bI, 1, none⟩ (.int .i64 R)).setCell ⟨bI, 2, none⟩ (.slice A2 n2 c2)) w.heap.size R R A n cap := Kb hM2
          have hIs : BM (((w2.setCell ⟨bI, 0, none⟩ (.int .i64 R)).setCell ⟨bI, 1, none⟩ (.int .i64 R)).setCell ⟨bI, 2, none⟩ (.slice A2 n2 c2)) bI R R A2 n2 c2 := Kb hvr
          have hbs : Below w.heap.size w (((w2.setCell ⟨bI, 0, none⟩ (.int .i64 R)).setCell ⟨bI, 1, none⟩ (.int .i64 R)).setCell ⟨bI, 2, none⟩ (.slice A2 n2 c2)) := Kw
          have hszs : bI < (((w2.setCell ⟨bI, 0, none⟩ (.int .i64 R)).setCell ⟨bI, 1, none⟩ (.int .i64 R)).setCell ⟨bI, 2, none⟩ (.slice A2 n2 c2)).heap.size := by simp; omega
          have hn2 : n2 = R * R := by have := ho2.lenEq; simpa [tb_len] using this
          have hn2b : n2 ≤ 1048576 := by omega
          clear ho2 ho3 hb2 hM hI hbw hn2 ma mb mc mf ml ia ib ic jf il
          obtain ⟨ia, ib, ic, jf, il⟩ := hI2.mx
          go_upto_region 11 with fail
          clear hM2 hI2 hbw2 hvr ia ib ic jf il hsz2
          generalize (((w2.setCell ⟨bI, 0, none⟩ (.int .i64 R)).setCell ⟨bI, 1, none⟩ (.int .i64 R)).setCell ⟨bI, 2, none⟩ (.slice A2 n2 c2)) = w3 at *
          have hlw := hMs.lt
          go_wp2_with (at_builtin; refine wpList_append_ints _ rfl (.tmp 42) (.tmp 43) rfl w3.heap.size _ [] rfl ?c1 w.heap.size Ab R capb bs rfl ?c2 ?c3 ?c4 ?_)
          case c1 => exact OR.empty' _ w3.heap.size rfl (Nat.le_refl _)
          case c2 => (with_reducible (repeat (first | exact H3.out | refine RI.drew ?_ | refine RI.drewN ?_ _ | refine RI.a_ ?_ | refine RI.s_ ?_ | refine RI.b_ ?_)))
          case c3 => simp; omega
          case c4 => simp
          intro v1 w4 hown hgr hat
          (try simp only [List.nil_append] at hown)
          obtain ⟨gr, cr, rfl, hg1, hg2⟩ := hown.notNil hat
          have hb4 : Below w3.heap.size w3 w4 := Below.trans (show Below w3.heap.size w3 (w3.alloc (.cells #[] 3)) from Kw) (only_below hgr (by simp) (by intro g' h'; simp [Value.ownBlock] at h'; omega))
          rw [HBL.out] at hown
          rw [HBL.out]
          have hsz4 := hb4.size
          have hM4 : BM w4 w.heap.size R R A n cap := Kb hMs
          have hI4 : BM w4 bI R R A2 n2 c2 := Kb hIs
          have hoi4 : RI w4 w3.heap.size A2 n2 (tb R R G) := Kr hoi
          have hbw4 : Below w.heap.size w w4 := Kw
          clear hMs hIs hoi hbs hgr hat hb4
          obtain ⟨ma, mb, mc, mf, ml⟩ := hM4.mx
          go_wp2_with (at_make; go_loud (refine wpList_make_full _ rfl _ _ 24 rfl w4.heap.size 3 i0 (.int .i64 0) 1 Tryz.underlying24 hi hz0 hz1 _ _ _ _ R rfl rfl rfl rfl ?b2 ?b3 ?b4 ?_))
          case b2 => rw [hz2]; omega
          case b3 => unfold maxLen; omega
          case b4 => simp
          intro w5 hown5 hgrow5
          have hox5 := OR.of_made hown5
          have hb5 : Below w4.heap.size w4 w5 := (Below.refl _ _).grown hgrow5 (by simp) (by simp)
          have hsz5 := hb5.size
          obtain ⟨lr, hlr⟩ : ∃ lr, lr = w3.heap.size := ⟨_, rfl⟩
          rw [← hlr] at hoi4 hown hg1
          have hbl : bI < lr := by omega
          have hwl : w.heap.size < lr := by omega
          have hM5 : BM w5 w.heap.size R R A n cap := Kb hM4
          have hI5 : BM w5 bI R R A2 n2 c2 := Kb hI4
          have hoi5 : RI w5 lr A2 n2 (tb R R G) := Kr hoi4
          have hor5 : OR w5 lr (.slice (some ⟨gr, 0, none⟩) R cr) bs := Ko hown
          have hbw5 : Below w.heap.size w w5 := Kw
          have hgx5 : w4.heap.size < w5.heap.size := (hox5.own _ rfl).2
          generalize w4.heap.size = gx at *
          clear hown hb5 hown5 hgrow5 hM4 hI4 hoi4 hbw4 ma mb mc mf ml hlr hsz4 hszs
          have hlI := hI5.lt
          obtain ⟨KK, hKK⟩ : ∃ KK, liK p = KK := ⟨_, rfl⟩
          rw [hKK] at HXQ
          have HK0 : Hid (liG p (6 - 0) 0 = KK) := Lib.hid hKK
          clear hKK
          go_wp2_with fail
          go_loopg [11] 8 (fun gn v wr => ∃ (k : Nat) (pw : Int), v = .int .i64 pw ∧ Hid (p ^ k = pw) ∧ (1 ≤ pw ∧ pw ≤ 400000000) ∧ k ≤ 4 ∧ Hid (liG p (6 - k) k = KK) ∧ 6 - k < gn ∧ BM wr w.heap.size R R A n cap ∧ BM wr bI R R A2 n2 c2 ∧ RI wr lr A2 n2 (tb R R G) ∧ OR wr lr (.slice (some ⟨gr, 0, none⟩) R cr) (((liS R f G p bs k).1)) ∧ OR wr gx (.slice (some ⟨gx, 0, none⟩) R R) (((liS R f G p bs k).2)) ∧ gx < wr.heap.size ∧ Below w.heap.size w wr)
          case atStart => exact ⟨0, 1, rfl, Lib.hid (Int.pow_zero p), ⟨by omega, by omega⟩, by omega, HK0, by omega, hM5, hI5, hoi5, hor5, hox5, hgx5, hbw5⟩
          case round => as_aux_lemma =>
            clear hM5 hI5 hoi5 hor5 hox5 hgx5 hbw5 HK0
            obtain ⟨k, pw, rfl, HPW, hpw, hk4, HGO, hgk, hM, hI, hoi, hor, hox, hgx, hbw⟩ := hrel
            obtain ⟨hpw1, hpw2⟩ := hpw
            have hlI := hI.lt
            have hszr := hbw.size
            have hp0 : ¬ p = 0 := by omega
            go_upto_region 14 with fail
            go_cut [55] from 48 to 114 (fun v wc => ∃ tb : Bool, v = .bool tb ∧ tb = liC p k ∧ wr = wc)
            case first =>
              by_cases h2 : pw ≤ 200000000
              · have e2 : decide (pw ≤ 200000000) = true := decide_eq_true h2
                by_cases h3 : pw ≤ 400000000 / p
                · have e3 : decide (pw ≤ 400000000 / p) = true := decide_eq_true h3
                  have hl := Lib.hid (liC_next hp1 HPW.out h2 h3)
                  go_wp2_with fail
                  go_meet
                  case rel => exact ⟨_, rfl, hl.out.symm, rfl⟩
                · have e3 : decide (pw ≤ 400000000 / p) = false := decide_eq_false h3
                  have hl := Lib.hid (liC_no2 HPW.out h3)
                  go_wp2_with fail
                  go_meet
                  case rel => exact ⟨_, rfl, hl.out.symm, rfl⟩
              · have e2 : decide (pw ≤ 200000000) = false := decide_eq_false h2
                have hl := Lib.hid (liC_no1 HPW.out h2)
                go_wp2_with fail
                go_meet
                case rel => exact ⟨_, rfl, hl.out.symm, rfl⟩
            case rest => as_aux_lemma =>
              obtain ⟨tb, rfl, htb, rfl⟩ := hcut
              rcases tb with _ | _
              · have HKE : Hid (KK = k) := Lib.hid (HGO.out.symm.trans (liG_stop htb.symm))
                clear htb HGO
                have HRAT : Hid (X = (liO pw ((liBd pw 10000 : Nat) : Int) (liS R f G p bs k).2 R).bind fun qs => if irB R R xs bs qs then some qs else none) := Lib.hid (by
                  have := HXQ.out
                  rw [HKE.out, HPW.out] at this
                  exact this)
                obtain ⟨hlo, hlx⟩ := liS_len (n := R) (f := f) (g := G) (p := p) HBL.out k
                have HLX := Lib.hid hlx
                have hri : RI wr w.heap.size A n xs := H2.out.below hbw (Nat.le_refl _)
                have hrb : RI wr w.heap.size Ab R bs := H3.out.below hbw (Nat.le_refl _)
                generalize (liS R f G p bs k).2 = xo at *
                clear HXQ HKE hlo hlx hoi hor hI HGB HOK HCEL HB HX HBN
                have hlM := hM.lt
                go_wp2_with fail
                go_loopg [16] 10002 (fun gn v wr' => ∃ b : Nat, v = .int .i64 b ∧ b ≤ 10000 ∧ Hid (liBd pw b = liBd pw 10000) ∧ b + 1 < gn ∧ wr' = wr)
                case atStart => exact ⟨10000, rfl, Nat.le_refl _, Lib.hid rfl, by omega, rfl⟩
                case round => as_aux_lemma =>
                  obtain ⟨b, rfl, hb, HBD, hgb, rfl⟩ := hrel
                  have hbb := mul_bd4 (2 * (b : Int)) b 20000 10000 (by omega) (by omega) (by omega) (by omega)
                  have g1 : IntKind.i64.wrap (2 * (b : Int)) = 2 * (b : Int) := IntWalk.i64_in _ (by omega)
                  have g2 : IntKind.i64.wrap (2 * (b : Int) * (b : Int)) = 2 * (b : Int) * (b : Int) := IntWalk.i64_in _ (by omega)
                  by_cases hge : pw ≤ 2 * (b : Int) * (b : Int)
                  · obtain ⟨h1, h2⟩ := liBd_go hge hpw1
                    have e1 : decide (pw ≤ 2 * (b : Int) * (b : Int)) = true := decide_eq_true hge
                    have HN := Lib.hid (h2.symm.trans HBD.out)
                    clear hbb h2 hge HBD
                    go_wp2_with fail
                    go_roundg (gk - 1)
                    case measure => omega
                    case rel => exact ⟨b - 1, by go_num, by omega, HN, by omega, rfl⟩
                  · have e1 : decide (pw ≤ 2 * (b : Int) * (b : Int)) = false := decide_eq_false hge
                    have hbe := liBd_stop hge
                    rw [← HBD.out, hbe] at HRAT
                    clear hbb hbe hge HBD
                    go_wp2_with fail
                    generalize hbq : wr.heap.size = bQ at *
                    go_loopw [17, 126] (fun vo u wr' => ∃ (j : Nat) (P : Option Addr) (pc : Nat) (qs : List Int), u = .int .i64 j ∧ vo = .slice P j pc ∧ j ≤ R ∧ Hid (liO pw (b : Int) xo j = some qs) ∧ BM wr' w.heap.size R R A n cap ∧ OR wr' gx (.slice (some ⟨gx, 0, none⟩) R R) xo ∧ OF wr' bQ (.slice P j pc) j qs ∧ bQ ≤ wr'.heap.size ∧ Below w.heap.size w wr') (fun _ u _ => R - (intOf u).toNat)
                    case atStart => exact ⟨0, _, _, [], rfl, rfl, Nat.zero_le _, Lib.hid rfl, Kb hM, Ko hox, OF.empty _ _ hbq.symm (by omega), by simp [hbq], Kw⟩
                    case round => as_aux_lemma =>
                      clear hM hox hbw hri hrb
                      obtain ⟨j, P, pc, qs, rfl, rfl, hj, HQS, hM, hox, hof, hszq, hbw⟩ := hrel
                      have hszr := hbw.size
                      have hlr := hM.lt
                      obtain ⟨ma, mb, mc, mf, ml⟩ := hM.mx
                      by_cases hjR : j < R
                      · have e1 := hox.cell j (by rw [HLX.out]; exact hjR)
                        have HUO : Hid (Own (.slice P j pc) bQ wr.heap.size) := Lib.hid hof.own
                        rcases hr : rfRes (xo.getD j 0) pw b with _ | ⟨q1, q2⟩
                        · have hX : X = none := by
                            have h0 := liO_none (liO_no HQS.out hr) R (by omega)
                            rw [h0] at HRAT
                            exact HRAT.out
                          subst hX
                          generalize xo.getD j 0 = z at *
                          have HR := Lib.hid hr
                          clear hr
                          go_wp2_with fail
                          refine (impl_RatioFrom z pw b _).mono ?_
                          rw [HR.out]
                          unfold rfV
                          rintro e w7 ⟨rfl, hb7⟩
                          have hsz7 := hb7.size
                          (try simp at hsz7)
                          have hbw7 : Below w.heap.size w w7 := Kw
                          go_wp2_with fail
                          go_ret2; exact LSR.no (by simp) Kw Ks
                        · have HQN := Lib.hid (liO_yes HQS.out hr)
                          generalize xo.getD j 0 = z at *
                          have HR := Lib.hid hr
                          clear hr
                          go_wp2_with fail
                          refine (impl_RatioFrom z pw b _).mono ?_
                          rw [HR.out]
                          unfold rfV
                          rintro e w7 ⟨rfl, hb7⟩
                          have hsz7 := hb7.size
                          (try simp at hsz7)
                          have hM7 : BM w7 w.heap.size R R A n cap := Kb hM
                          have hox7 : OR w7 gx (.slice (some ⟨gx, 0, none⟩) R R) xo := Ko hox
                          have hof7 : OF w7 bQ (.slice P j pc) j qs := by (with_reducible (repeat (first | exact hof | refine OF.drew ?_ | refine OF.drewN ?_ _ | refine OF.alloc ?_ _ | refine OF.b_ ?_ | refine OF.l_ ?_)))
                          have hbw7 : Below w.heap.size w w7 := Kw
                          clear hM hox hof hbw hb7 ma mb mc mf ml e1
                          go_wp2_with (at_builtin; refine wpList_append_ratio _ rfl (.tmp 140) (.tmp 142) rfl bQ _ j qs rfl ((hof7.alloc _).alloc _) _ q1 q2 rfl ?f1 ?f2 ?f3 ?f4 ?_)
                          case f1 => simp [go_sem]
                          case f2 => simp [go_sem]
                          case f3 => omega
                          case f4 => simp; omega
                          intro v1 w6 hown1 hgr hat
                          have hM9 := ((hM7.alloc (.cells #[.int .i64 q1, .int .i64 q2] 38)).alloc (.cells #[.int .i64 q1, .int .i64 q2] 38)).grown hgr (hof7.ne_low (by omega))
                          have hx9 := ((hox7.alloc (.cells #[.int .i64 q1, .int .i64 q2] 38)).alloc (.cells #[.int .i64 q1, .int .i64 q2] 38)).kept hgr (.inr (hof7.ne_low (show gx < bQ by omega)))
                          have hb9 := Below.trans (show Below w.heap.size w ((w7.alloc (.cells #[.int .i64 q1, .int .i64 q2] 38)).alloc (.cells #[.int .i64 q1, .int .i64 q2] 38)) from Kw) (((hof7.alloc (.cells #[.int .i64 q1, .int .i64 q2] 38)).alloc (.cells #[.int .i64 q1, .int .i64 q2] 38)).below_grown hgr (by simp; omega) |>.mono (by omega))
                          have hsz9 := hgr.size
                          simp at hsz9
                          obtain ⟨P', pc', rfl⟩ := hown1.shape
                          clear hM7 hox7 hof7 hbw7 hgr hat
                          go_wp2_with fail
                          go_roundw
                          case rel => exact ⟨j + 1, P', pc', qs ++ [q1, q2], by go_num, rfl, by omega, HQN, Kb hM9, Ko hx9, by (with_reducible (repeat (first | exact hown1 | refine OF.drew ?_ | refine OF.drewN ?_ _ | refine OF.alloc ?_ _ | refine OF.b_ ?_ | refine OF.l_ ?_))), Ks, Kw⟩
                          case measure => simp only [intOf]; omega
                      · obtain rfl : R = j := by omega
                        have hir : X = if irB R R xs bs qs then some qs else none := by
                          have h0 := HRAT.out
                          rw [HQS.out] at h0
                          exact h0
                        have hql := liO_len HQS.out
                        have HQL : Hid (R = R) := Lib.hid rfl
                        have hread := hof.reads
                        have hri : RI wr w.heap.size A n xs := H2.out.below hbw (Nat.le_refl _)
                        have hrb : RI wr w.heap.size Ab R bs := H3.out.below hbw (Nat.le_refl _)
                        rcases hi2 : irB R R xs bs qs with _ | _
                        · rw [hi2] at hir
                          have hX : X = none := hir
                          subst hX
                          have HI := Lib.hid hi2
                          clear hi2 hir hql
                          go_wp2_with fail
                          refine (impl_IsRational R R A Ab P n cap R capb R pc xs bs qs _ (B := w.heap.size) (B' := w.heap.size) (Kr hri) (Kr hrb) (Kr hread) Ks Ks (Nat.le_refl _) hn hnb hnb).mono ?_
                          rw [HI.out]
                          rintro e w8 ⟨rfl, hb8⟩
                          have hsz8 := hb8.size
                          (try simp at hsz8)
                          have hbw8 : Below w.heap.size w w8 := Kw
                          go_wp2_with fail
                          go_ret2; exact LSR.no (by simp) Kw Ks
                        · rw [hi2] at hir
                          have hX : X = some qs := hir
                          subst hX
                          have HI := Lib.hid hi2
                          clear hi2 hir hql
                          go_wp2_with fail
                          refine (impl_IsRational R R A Ab P n cap R capb R pc xs bs qs _ (B := w.heap.size) (B' := w.heap.size) (Kr hri) (Kr hrb) (Kr hread) Ks Ks (Nat.le_refl _) hn hnb hnb).mono ?_
                          rw [HI.out]
                          rintro e w8 ⟨rfl, hb8⟩
                          have hsz8 := hb8.size
                          (try simp at hsz8)
                          have hof8 : OF w8 bQ (.slice P R pc) R qs := by (with_reducible (repeat (first | exact hof | refine OF.drew ?_ | refine OF.drewN ?_ _ | refine OF.alloc ?_ _ | refine OF.b_ ?_ | refine OF.l_ ?_)))
                          have hbw8 : Below w.heap.size w w8 := Kw
                          go_wp2_with fail
                          go_ret2
                          exact LSR.yes rfl (OF.mono (B := bQ) (by (with_reducible (repeat (first | exact hof8 | refine OF.drew ?_ | refine OF.drewN ?_ _ | refine OF.alloc ?_ _ | refine OF.b_ ?_ | refine OF.l_ ?_)))) (by omega)) Kw
              · have hc := htb.symm
                clear htb
                have hCL := (liC_iff (show 1 ≤ p by omega)).1 hc
                have hk3 := liC_small hp1 hc
                have hLG : liG p (6 - (k + 1)) (k + 1) = KK := by
                  have := HGO.out
                  rw [show 6 - k = 6 - (k + 1) + 1 by omega, liG_go hc] at this
                  exact this
                have hpn : p ^ (k + 1) = pw * p := by rw [Int.pow_succ, HPW.out]
                rw [HPW.out, hpn] at hCL
                obtain ⟨hq1, hq2⟩ := hCL
                have hq3 : pw < pw * p := by
                  have := Int.mul_le_mul_of_nonneg_left (show 101 ≤ p by omega) (show 0 ≤ pw by omega)
                  omega
                have HLG := Lib.hid hLG
                have HPN := Lib.hid hpn
                have gq : IntKind.i64.wrap (pw * p) = pw * p := IntWalk.i64_in _ (by omega)
                obtain ⟨hbo, hbx⟩ := liS_bd (n := R) (f := f) (g := G) (p := p) (bs := bs) hp1 hp2 hR HOK.out HBN.out k
                obtain ⟨hlo, hlx⟩ := liS_len (n := R) (f := f) (g := G) (p := p) HBL.out k
                rw [HPW.out] at hbx
                have HNXT : Hid (liS R f G p bs (k + 1) = (liR R f (liS R f G p bs k).1 (smL R R G (liS R f G p bs k).1 p) p, liX R (liS R f G p bs k).2 (smL R R G (liS R f G p bs k).1 p) pw)) := Lib.hid (by rw [← HPW.out]; rfl)
                generalize (liS R f G p bs k).1 = os at *
                generalize (liS R f G p bs k).2 = xo at *
                have HBO := Lib.hid hbo
                have HBX := Lib.hid hbx
                have HLO := Lib.hid hlo
                have HLX := Lib.hid hlx
                clear hc hLG hpn hbo hbx hlo hlx HGO
                obtain ⟨ma, mb, mc, mf, ml⟩ := hM.mx; obtain ⟨ia, ib, ic, jf, il⟩ := hI.mx
                obtain ⟨go, hgo⟩ : ∃ x, x = gk := ⟨_, rfl⟩
                have HGK := Lib.hid hgo
                clear hgo
                go_wp2_with fail
                refine (impl_timesMod R R p A2 (some ⟨gr, 0, none⟩) n2 c2 R cr G os _ (B := lr) (Kr hoi) hor.reads (by omega) (Nat.le_refl _) hn2b (by omega) (by omega) rfl ⟨by omega, by omega⟩ HGB.out (fun q => by have := HBO.out q; omega)).mono ?_
                rintro e w6 ⟨Ad, nd, cd, rfl, hod, hb6⟩
                have hsz6 := hb6.size
                have hnd : nd = R := by have := hod.lenEq; rw [smL_len] at this; exact this
                rw [hnd] at hod ⊢
                clear hnd
                obtain ⟨ds, hds⟩ : ∃ ds, smL R R G os p = ds := ⟨_, rfl⟩
                have HDB : Hid (∀ q, 0 ≤ ds.getD q 0 ∧ ds.getD q 0 < p) := Lib.hid (fun q => by rw [← hds]; exact smL_bd (by omega) q)
                have HLD : Hid (ds.length = R) := Lib.hid (by rw [← hds]; exact smL_len _ _ _ _ _)
                rw [hds] at hod HNXT
                clear hds
                have hM6 : BM w6 w.heap.size R R A n cap := Kb hM
                have hI6 : BM w6 bI R R A2 n2 c2 := Kb hI
                have hoi6 : RI w6 lr A2 n2 (tb R R G) := Kr hoi
                have hor6 : OR w6 lr (.slice (some ⟨gr, 0, none⟩) R cr) os := Ko hor
                have hox6 : OR w6 gx (.slice (some ⟨gx, 0, none⟩) R R) xo := Ko hox
                have hbw6 : Below w.heap.size w w6 := Kw
                have hgx6 : gx < w6.heap.size := by omega
                obtain ⟨ld, hld⟩ : ∃ ld, ld = wr.heap.size := ⟨_, rfl⟩
                rw [← hld] at hod
                have hgl : gx < ld := by omega
                obtain ⟨nw, hnw⟩ : ∃ nw, liR R f os ds p = nw := ⟨_, rfl⟩
                rw [hnw] at HNXT
                have HNW := Lib.hid hnw
                have HLW : Hid (nw.length = R) := Lib.hid (by rw [← hnw]; exact liR_len _ _ _ _ _)
                clear ma mb mc mf ml ia ib ic jf il
                clear hM hI hoi hor hox hbw hgx hb6 hld hnw
                go_wp2_with fail
                go_loopw [62] (fun v wr => ∃ i : Nat, v = .int .i64 i ∧ i ≤ R ∧ (BM wr w.heap.size R R A n cap ∧ BM wr bI R R A2 n2 c2 ∧ RI wr lr A2 n2 (tb R R G) ∧ OR wr lr (.slice (some ⟨gr, 0, none⟩) R cr) ((mxT R nw os i)) ∧ OR wr gx (.slice (some ⟨gx, 0, none⟩) R R) (xo) ∧ gx < wr.heap.size ∧ Below w.heap.size w wr) ∧ OR wr ld (.slice Ad R cd) ds) (fun v _ => R - (intOf v).toNat)
                case atStart => exact ⟨0, rfl, Nat.zero_le _, ⟨hM6, hI6, hoi6, by rw [mxT_zero HLO.out]; exact hor6, hox6, hgx6, hbw6⟩, hod⟩
                case round => as_aux_lemma =>
                  clear hM6 hI6 hoi6 hor6 hox6 hgx6 hbw6 hod
                  obtain ⟨i, rfl, hi, ⟨hM, hI, hoi, hor, hox, hgx, hbw⟩, hod⟩ := hrel
                  by_cases hiR : i < R
                  · obtain ⟨gd, rfl, hgd1, hgd2⟩ := hod.begins (by rw [HLD.out]; omega)
                    obtain ⟨ma, mb, mc, mf, ml⟩ := hM.mx; obtain ⟨ia, ib, ic, jf, il⟩ := hI.mx
                    have hli : i < (mxT R nw os i).length := by rw [mxT_len]; exact hiR
                    go_wp2_with fail
                    go_loopw [67] (fun v wr => ∃ j : Nat, v = .int .i64 j ∧ j ≤ R ∧ (BM wr w.heap.size R R A n cap ∧ BM wr bI R R A2 n2 c2 ∧ RI wr lr A2 n2 (tb R R G) ∧ OR wr lr (.slice (some ⟨gr, 0, none⟩) R cr) (((mxT R nw os i).set i (os.getD i 0 - sumTo (fun q => f i q * ds.getD q 0) j))) ∧ OR wr gx (.slice (some ⟨gx, 0, none⟩) R R) (xo) ∧ gx < wr.heap.size ∧ Below w.heap.size w wr) ∧ OR wr ld (.slice (some ⟨gd, 0, none⟩) R cd) ds) (fun v _ => R - (intOf v).toNat)
                    case atStart => exact ⟨0, rfl, Nat.zero_le _, ⟨hM, hI, hoi, by rw [show sumTo (fun q => f i q * ds.getD q 0) 0 = 0 from rfl, Int.sub_zero, set_same (mxT_at hiR) hli]; exact hor, hox, hgx, hbw⟩, hod⟩
                    case round => as_aux_lemma =>
                      clear ma mb mc mf ml ia ib ic jf il
                      clear hM hI hoi hor hox hgx hbw hod
                      obtain ⟨j, rfl, hj, ⟨hM, hI, hoi, hor, hox, hgx, hbw⟩, hod⟩ := hrel
                      have hv1 := set_get (v := os.getD i 0 - sumTo (fun q => f i q * ds.getD q 0) j) hli
                      have hvb : -1000000000000 ≤ os.getD i 0 - sumTo (fun q => f i q * ds.getD q 0) j ∧ os.getD i 0 - sumTo (fun q => f i q * ds.getD q 0) j ≤ 1000000000000 := by
                        have hsb := liD_bd (ds := ds) hR HOK.out hiR (fun q => by have := HDB.out q; omega) hj
                        have hob := HBO.out i
                        omega
                      have HI1 : Hid (i < ((mxT R nw os i).set i (os.getD i 0 - sumTo (fun q => f i q * ds.getD q 0) j)).length) := Lib.hid (by rw [List.length_set]; exact hli)
                      obtain ⟨ma, mb, mc, mf, ml⟩ := hM.mx; obtain ⟨ia, ib, ic, jf, il⟩ := hI.mx
                      by_cases hjR : j < R
                      · have hnx : (((mxT R nw os i).set i (os.getD i 0 - sumTo (fun q => f i q * ds.getD q 0) j)).set i (os.getD i 0 - sumTo (fun q => f i q * ds.getD q 0) j - f i j * ds.getD j 0)) = (mxT R nw os i).set i (os.getD i 0 - sumTo (fun q => f i q * ds.getD q 0) (j + 1)) := by
                          rw [List.set_set]
                          congr 1
                          show _ = os.getD i 0 - (sumTo (fun q => f i q * ds.getD q 0) j + f i j * ds.getD j 0)
                          omega
                        have hzb := HOK.out i j hiR hjR
                        have hdb := HDB.out j
                        have hcel := HCEL.out i j
                        have HJ1 : Hid (j < ds.length) := Lib.hid (by rw [HLD.out]; exact hjR)
                        obtain ⟨L1, hL1⟩ : ∃ L1, (mxT R nw os i).set i (os.getD i 0 - sumTo (fun q => f i q * ds.getD q 0) j) = L1 := ⟨_, rfl⟩
                        rw [hL1] at hor hv1 hnx HI1
                        clear hL1
                        generalize os.getD i 0 - sumTo (fun q => f i q * ds.getD q 0) j = v at *
                        have HV1 := Lib.hid hv1
                        generalize hz : f i j = z at *
                        generalize hd : ds.getD j 0 = d at *
                        have HV2 := Lib.hid hd
                        have HNX := Lib.hid hnx
                        have HCL := Lib.hid hcel
                        have e1 := hor.cell i HI1.out
                        rw [HV1.out] at e1
                        have e2 := hod.cell j HJ1.out
                        rw [HV2.out] at e2
                        have f1 := hor.frozen i
                        obtain ⟨z1, z2⟩ := hzb
                        obtain ⟨d1, d2⟩ := hdb
                        have hm1 := mul_bd4 z d 400000000 200 z1 z2 (by omega) (by omega)
                        have g1 : IntKind.i64.wrap (z * d) = z * d := IntWalk.i64_in _ (by omega)
                        have g2 : IntKind.i64.wrap (v - z * d) = v - z * d := IntWalk.i64_in _ (by omega)
                        have hix := idx_nat hiR hjR
                        have i1 : (i : Int) * (R : Int) = ((i * R : Nat) : Int) := by rw [Int.natCast_mul]
                        have i2 : 0 ≤ (i : Int) * (R : Int) ∧ (i : Int) * (R : Int) ≤ 10000 := by have := Nat.mul_le_mul (show i ≤ 6 by omega) hR; omega
                        have i3 : (i : Int) * (R : Int) + (j : Int) < (n : Int) := by omega
                        have ne1 : ¬ w.heap.size = gr := by omega
                        have ne2 : ¬ gr = w.heap.size := by omega
                        have ne3 : ¬ gd = gr := by omega
                        have ne4 : ¬ gr = gd := by omega
                        clear hz hd hv1 hnx hcel hm1 i1
                        go_wp2_with fail
                        ((refine wp_region_held_drew (S := (fun w' => w'.cell? ⟨w.heap.size, 0, none⟩ = some (.int .i64 R) ∧ w'.cell? ⟨w.heap.size, 1, none⟩ = some (.int .i64 R) ∧ w'.cell? ⟨w.heap.size, 2, none⟩ = some (.slice A n cap) ∧ w'.cell? ⟨gd, j, none⟩ = some (.int .i64 d))) (by kernel_rfl) ?_ (fun hHeld => ?_)); ((focus ((try dsimp only); (go_keep)))); ((refine tk_ (i := 0) (v := ?_) (y := Or.inl ⟨by rfl, ?_⟩) (h := ?_); rotate_left; (focus (((intro w hSw; (try dsimp only at hSw); go_simp) <;> (try with_reducible rfl)); done)); (try simp only [Act.put, p1_, p2_, p3_]))); ((refine tk_ (i := 1) (v := ?_) (y := Or.inl ⟨by rfl, ?_⟩) (h := ?_); rotate_left; (focus (((intro w hSw; (try dsimp only at hSw); go_simp) <;> (try with_reducible rfl)); done)); (try simp only [Act.put, p1_, p2_, p3_]))); ((refine tk_ (i := 2) (v := ?_) (y := Or.inl ⟨by rfl, ?_⟩) (h := ?_); rotate_left; (focus (((intro w hSw; (try dsimp only at hSw); go_simp) <;> (try with_reducible rfl)); done)); (try simp only [Act.put, p1_, p2_, p3_]))); ((refine tk_ (i := 4) (v := ?_) (y := Or.inl ⟨by rfl, ?_⟩) (h := ?_); rotate_left; (focus (((intro w hSw; (try dsimp only at hSw); go_simp) <;> (try with_reducible rfl)); done)); (try simp only [Act.put, p1_, p2_, p3_]))); ((refine tk_ (i := 5) (v := ?_) (y := Or.inl ⟨by rfl, ?_⟩) (h := ?_); rotate_left; (focus (((intro w hSw; (try dsimp only at hSw); go_simp) <;> (try with_reducible rfl)); done)); (try simp only [Act.put, p1_, p2_, p3_]))); ((refine tk_ (i := 6) (v := ?_) (y := Or.inl ⟨by rfl, ?_⟩) (h := ?_); rotate_left; (focus (((intro w hSw; (try dsimp only at hSw); go_simp) <;> (try with_reducible rfl)); done)); (try simp only [Act.put, p1_, p2_, p3_]))); ((refine tk_ (i := 8) (v := ?_) (y := Or.inl ⟨by rfl, ?_⟩) (h := ?_); rotate_left; (focus (((intro w hSw; (try dsimp only at hSw); go_simp) <;> (try with_reducible rfl)); done)); (try simp only [Act.put, p1_, p2_, p3_]))); ((refine tk_ (i := 9) (v := ?_) (y := Or.inl ⟨by rfl, ?_⟩) (h := ?_); rotate_left; (focus (((intro w hSw; (try dsimp only at hSw); go_simp) <;> (try with_reducible rfl)); done)); (try simp only [Act.put, p1_, p2_, p3_]))); ((refine tk_ (i := 10) (v := ?_) (y := Or.inl ⟨by rfl, ?_⟩) (h := ?_); rotate_left; (focus (((intro w hSw; (try dsimp only at hSw); go_simp) <;> (try with_reducible rfl)); done)); (try simp only [Act.put, p1_, p2_, p3_]))); ((refine tk_ (i := 11) (v := ?_) (y := Or.inl ⟨by rfl, ?_⟩) (h := ?_); rotate_left; (focus (((intro w hSw; (try dsimp only at hSw); go_simp) <;> (try with_reducible rfl)); done)); (try simp only [Act.put, p1_, p2_, p3_]))); (refine wpAnyH_ready (rs := [3, 7]) (by kernel_rfl) (by simp) ?_); (refine AllReadyH.cons (by simp only [e1_, e2_, e3_]; try rfl) ?_ ?_); ((focus ((intro K hK); (go_simp); ((try go_wp2_with fail)); (refine hK.out _ _ ?_ (fun hHeld => ?_)); ((focus ((try dsimp only); (go_keep)))); (clear hK K); ((try simp only [Act.put, p1_, p2_, p3_])); (refine wpAnyH_ready (rs := [7]) (by kernel_rfl) (by simp) ?_); (refine AllReadyH.cons (by simp only [e1_, e2_, e3_]; try rfl) ?_ ?_); ((focus ((intro K hK); (go_simp); ((refine (impl_at R R i j A n cap xs _ (C := w.heap.size) (Kr H2.out) Ks i2 ⟨by omega, by omega⟩ i3).mono ?_; rw [HCL.out]; rintro e w3 ⟨rfl, hb3⟩; have hsz_0 := hb3.size; (try simp at hsz_0); have hgx_1 : gx < w3.heap.size := (by omega); have hM_1 : BM w3 w.heap.size R R A n cap := (Kb hM); have hI_1 : BM w3 bI R R A2 n2 c2 := (Kb hI); have hoi_1 : RI w3 lr A2 n2 (tb R R G) := (Kr hoi); have hor_1 : OR w3 lr (.slice (some ⟨gr, 0, none⟩) R cr) L1 := (Ko hor); have hox_1 : OR w3 gx (.slice (some ⟨gx, 0, none⟩) R R) xo := (Ko hox); have hod_1 : OR w3 ld (.slice (some ⟨gd, 0, none⟩) R cd) ds := (Ko hod); have hbw_1 : Below w.heap.size w w3 := Kw; clear ma mb mc mf ml ia ib ic jf il; clear hM hI hoi hor hox hod hbw e1 e2 f1 hgx hsz_0; have hgx := hgx_1; clear hgx_1; have hM := hM_1; have hI := hI_1; have hoi := hoi_1; have hor := hor_1; have hox := hox_1; have hod := hod_1; have hbw := hbw_1; clear hM_1 hI_1 hoi_1 hor_1 hox_1 hod_1 hbw_1; obtain ⟨ma, mb, mc, mf, ml⟩ := hM.mx; obtain ⟨ia, ib, ic, jf, il⟩ := hI.mx; have e1 := hor.cell i HI1.out; rw [HV1.out] at e1; have e2 := hod.cell j HJ1.out; rw [HV2.out] at e2; have f1 := hor.frozen i; have hst := hor.set_ i (v - z * d))); ((try go_wp2_with fail)); (refine hK.out _ _ ?_ (fun hHeld => ?_)); ((focus ((try dsimp only); (go_keep)))); (clear hK K); ((try simp only [Act.put, p1_, p2_, p3_])); ((refine tk_ (i := 12) (v := ?_) (y := Or.inl ⟨by rfl, ?_⟩) (h := ?_); rotate_left; (focus (((intro w hSw; (try dsimp only at hSw); go_simp) <;> (try with_reducible rfl)); done)); (try simp only [Act.put, p1_, p2_, p3_]))); ((refine tk_ (i := 13) (v := ?_) (y := Or.inl ⟨by rfl, ?_⟩) (h := ?_); rotate_left; (focus (((intro w hSw; (try dsimp only at hSw); go_simp) <;> (try with_reducible rfl)); done)); (try simp only [Act.put, p1_, p2_, p3_]))); ((refine tk_ (i := 14) (v := ?_) (y := Or.inl ⟨by rfl, ?_⟩) (h := ?_); rotate_left; (focus (((intro w hSw; (try dsimp only at hSw); go_simp) <;> (try with_reducible rfl)); done)); (try simp only [Act.put, p1_, p2_, p3_]))); (refine wpAnyH_ready (rs := [15]) (by kernel_rfl) (by simp) ?_); (refine AllReadyH.cons (by simp only [e1_, e2_, e3_]; try rfl) ?_ ?_); ((focus ((intro K hK); (go_simp); ((try go_wp2_with fail)); (refine hK.out _ _ ?_ (fun hHeld => ?_)); ((focus ((try dsimp only); (go_keep)))); (clear hK K); ((try simp only [Act.put, p1_, p2_, p3_])); (refine wpAnyH_done (by kernel_rfl) ?_ _)))); (rotate_left 1); (exact AllReadyH.nil)))); (rotate_left 1); (exact AllReadyH.nil)))); (rotate_left 1); (refine AllReadyH.cons (by simp only [e1_, e2_, e3_]; try rfl) ?_ ?_); ((focus ((intro K hK); (go_simp); ((refine (impl_at R R i j A n cap xs _ (C := w.heap.size) (Kr H2.out) Ks i2 ⟨by omega, by omega⟩ i3).mono ?_; rw [HCL.out]; rintro e w3 ⟨rfl, hb3⟩; have hsz_0 := hb3.size; (try simp at hsz_0); have hgx_1 : gx < w3.heap.size := (by omega); have hM_1 : BM w3 w.heap.size R R A n cap := (Kb hM); have hI_1 : BM w3 bI R R A2 n2 c2 := (Kb hI); have hoi_1 : RI w3 lr A2 n2 (tb R R G) := (Kr hoi); have hor_1 : OR w3 lr (.slice (some ⟨gr, 0, none⟩) R cr) L1 := (Ko hor); have hox_1 : OR w3 gx (.slice (some ⟨gx, 0, none⟩) R R) xo := (Ko hox); have hod_1 : OR w3 ld (.slice (some ⟨gd, 0, none⟩) R cd) ds := (Ko hod); have hbw_1 : Below w.heap.size w w3 := Kw; clear ma mb mc mf ml ia ib ic jf il; clear hM hI hoi hor hox hod hbw e1 e2 f1 hgx hsz_0; have hgx := hgx_1; clear hgx_1; have hM := hM_1; have hI := hI_1; have hoi := hoi_1; have hor := hor_1; have hox := hox_1; have hod := hod_1; have hbw := hbw_1; clear hM_1 hI_1 hoi_1 hor_1 hox_1 hod_1 hbw_1; obtain ⟨ma, mb, mc, mf, ml⟩ := hM.mx; obtain ⟨ia, ib, ic, jf, il⟩ := hI.mx; have e1 := hor.cell i HI1.out; rw [HV1.out] at e1; have e2 := hod.cell j HJ1.out; rw [HV2.out] at e2; have f1 := hor.frozen i; have hst := hor.set_ i (v - z * d))); ((try go_wp2_with fail)); (refine hK.out _ _ ?_ (fun hHeld => ?_)); ((focus ((try dsimp only); (go_keep)))); (clear hK K); ((try simp only [Act.put, p1_, p2_, p3_])); ((refine tk_ (i := 12) (v := ?_) (y := Or.inl ⟨by rfl, ?_⟩) (h := ?_); rotate_left; (focus (((intro w hSw; (try dsimp only at hSw); go_simp) <;> (try with_reducible rfl)); done)); (try simp only [Act.put, p1_, p2_, p3_]))); (refine wpAnyH_ready (rs := [3]) (by kernel_rfl) (by simp) ?_); (refine AllReadyH.cons (by simp only [e1_, e2_, e3_]; try rfl) ?_ ?_); ((focus ((intro K hK); (go_simp); ((try go_wp2_with fail)); (refine hK.out _ _ ?_ (fun hHeld => ?_)); ((focus ((try dsimp only); (go_keep)))); (clear hK K); ((try simp only [Act.put, p1_, p2_, p3_])); ((refine tk_ (i := 13) (v := ?_) (y := Or.inl ⟨by rfl, ?_⟩) (h := ?_); rotate_left; (focus (((intro w hSw; (try dsimp only at hSw); go_simp) <;> (try with_reducible rfl)); done)); (try simp only [Act.put, p1_, p2_, p3_]))); ((refine tk_ (i := 14) (v := ?_) (y := Or.inl ⟨by rfl, ?_⟩) (h := ?_); rotate_left; (focus (((intro w hSw; (try dsimp only at hSw); go_simp) <;> (try with_reducible rfl)); done)); (try simp only [Act.put, p1_, p2_, p3_]))); (refine wpAnyH_ready (rs := [15]) (by kernel_rfl) (by simp) ?_); (refine AllReadyH.cons (by simp only [e1_, e2_, e3_]; try rfl) ?_ ?_); ((focus ((intro K hK); (go_simp); ((try go_wp2_with fail)); (refine hK.out _ _ ?_ (fun hHeld => ?_)); ((focus ((try dsimp only); (go_keep)))); (clear hK K); ((try simp only [Act.put, p1_, p2_, p3_])); (refine wpAnyH_done (by kernel_rfl) ?_ _)))); (rotate_left 1); (exact AllReadyH.nil)))); (rotate_left 1); (exact AllReadyH.nil)))); (rotate_left 1); (exact AllReadyH.nil))
                        all_goals
                          clear g1 g2
                          rw [HNX.out] at hst
                          go_wp2_with fail
                          go_roundw
                          case rel => exact ⟨j + 1, by go_num, by omega, ⟨Kb hM, Kb hI, Kr hoi, Ko hst, Ko hox, Ks, Kw⟩, Ko hod⟩
                          case measure => simp only [intOf]; omega
                      · obtain rfl : R = j := by omega
                        have hnx : ((mxT R nw os i).set i (os.getD i 0 - sumTo (fun q => f i q * ds.getD q 0) R)).set i ((os.getD i 0 - sumTo (fun q => f i q * ds.getD q 0) R).tdiv p) = mxT R nw os (i + 1) := by
                          rw [List.set_set]
                          exact mxT_set (by rw [← HNW.out]; exact tab_getD hiR)
                        obtain ⟨L1, hL1⟩ : ∃ L1, (mxT R nw os i).set i (os.getD i 0 - sumTo (fun q => f i q * ds.getD q 0) R) = L1 := ⟨_, rfl⟩
                        rw [hL1] at hor hv1 hnx HI1
                        clear hL1
                        generalize os.getD i 0 - sumTo (fun q => f i q * ds.getD q 0) R = v at *
                        have e1 := hor.cell i HI1.out
                        rw [hv1] at e1
                        have f1 := hor.frozen i
                        have hst := hor.set_ i (v.tdiv p)
                        rw [hnx] at hst
                        have hq := tdiv_abs v p
                        have g1 : IntKind.i64.wrap (v.tdiv p) = v.tdiv p := IntWalk.i64_in _ (by omega)
                        clear hv1 hnx hq
                        go_wp2_with fail
                        go_roundw
                        case rel => exact ⟨i + 1, by go_num, by omega, ⟨Kb hM, Kb hI, Kr hoi, hst, Ko hox, Ks, Kw⟩, Ko hod⟩
                        case measure => simp only [intOf]; omega
                  · obtain rfl : R = i := by omega
                    have hor2 := hor.as (mxT_end HLW.out)
                    obtain ⟨nx, hnx⟩ : ∃ nx, liX R xo ds pw = nx := ⟨_, rfl⟩
                    rw [hnx] at HNXT
                    have HXW := Lib.hid hnx
                    have HLZ : Hid (nx.length = R) := Lib.hid (by rw [← hnx]; exact liX_len _ _ _ _)
                    clear hor hnx
                    obtain ⟨ma, mb, mc, mf, ml⟩ := hM.mx; obtain ⟨ia, ib, ic, jf, il⟩ := hI.mx
                    go_wp2_with fail
                    go_loopw [96] (fun v wr => ∃ i : Nat, v = .int .i64 i ∧ i ≤ R ∧ (BM wr w.heap.size R R A n cap ∧ BM wr bI R R A2 n2 c2 ∧ RI wr lr A2 n2 (tb R R G) ∧ OR wr lr (.slice (some ⟨gr, 0, none⟩) R cr) (nw) ∧ OR wr gx (.slice (some ⟨gx, 0, none⟩) R R) ((mxT R nx xo i)) ∧ gx < wr.heap.size ∧ Below w.heap.size w wr) ∧ OR wr ld (.slice Ad R cd) ds) (fun v _ => R - (intOf v).toNat)
                    case atStart => exact ⟨0, rfl, Nat.zero_le _, ⟨hM, hI, hoi, hor2, by rw [mxT_zero HLX.out]; exact hox, hgx, hbw⟩, hod⟩
                    case round => as_aux_lemma =>
                      clear ma mb mc mf ml ia ib ic jf il
                      clear hM hI hoi hor2 hox hgx hbw hod
                      obtain ⟨i, rfl, hi, ⟨hM, hI, hoi, hor, hox, hgx, hbw⟩, hod⟩ := hrel
                      obtain ⟨ma, mb, mc, mf, ml⟩ := hM.mx; obtain ⟨ia, ib, ic, jf, il⟩ := hI.mx
                      by_cases hiR : i < R
                      · obtain ⟨gd, rfl, hgd1, hgd2⟩ := hod.begins (by rw [HLD.out]; omega)
                        have hnx : (mxT R nx xo i).set i (xo.getD i 0 + ds.getD i 0 * pw) = mxT R nx xo (i + 1) := mxT_set (by rw [← HXW.out]; exact tab_getD hiR)
                        have e1 := hox.cell i (by rw [mxT_len]; exact hiR)
                        rw [mxT_at hiR] at e1
                        have e2 := hod.cell i (by rw [HLD.out]; exact hiR)
                        have f1 := hox.frozen i
                        have hst := hox.set_ i (xo.getD i 0 + ds.getD i 0 * pw)
                        rw [hnx] at hst
                        have hxb := HBX.out i
                        have hdb := HDB.out i
                        generalize xo.getD i 0 = x at *
                        generalize ds.getD i 0 = d at *
                        obtain ⟨x1, x2⟩ := hxb
                        obtain ⟨d1, d2⟩ := hdb
                        have hm1 := mul_bd4 d pw 200 400000000 (by omega) (by omega) (by omega) (by omega)
                        have g1 : IntKind.i64.wrap (d * pw) = d * pw := IntWalk.i64_in _ (by omega)
                        have g2 : IntKind.i64.wrap (x + d * pw) = x + d * pw := IntWalk.i64_in _ (by omega)
                        have hor3 : OR (wr.setCell ⟨gx, i, none⟩ (.int .i64 (x + d * pw))) lr (.slice (some ⟨gr, 0, none⟩) R cr) nw := OR.farG hor (by simp only [ne_eq]; omega) _
                        have ne3 : ¬ gd = gx := by omega
                        have ne4 : ¬ gx = gd := by omega
                        clear hnx hm1
                        go_wp2_with fail
                        ((refine wp_region_held_drew (S := (fun w' => w'.cell? ⟨gd, i, none⟩ = some (.int .i64 d))) (by kernel_rfl) ?_ (fun hHeld => ?_)); ((focus ((try dsimp only); (go_keep)))); ((refine tk_ (i := 0) (v := ?_) (y := Or.inl ⟨by rfl, ?_⟩) (h := ?_); rotate_left; (focus (((intro w hSw; (try dsimp only at hSw); go_simp) <;> (try with_reducible rfl)); done)); (try simp only [Act.put, p1_, p2_, p3_]))); ((refine tk_ (i := 1) (v := ?_) (y := Or.inl ⟨by rfl, ?_⟩) (h := ?_); rotate_left; (focus (((intro w hSw; (try dsimp only at hSw); go_simp) <;> (try with_reducible rfl)); done)); (try simp only [Act.put, p1_, p2_, p3_]))); ((refine tk_ (i := 2) (v := ?_) (y := Or.inl ⟨by rfl, ?_⟩) (h := ?_); rotate_left; (focus (((intro w hSw; (try dsimp only at hSw); go_simp) <;> (try with_reducible rfl)); done)); (try simp only [Act.put, p1_, p2_, p3_]))); ((refine tk_ (i := 4) (v := ?_) (y := Or.inl ⟨by rfl, ?_⟩) (h := ?_); rotate_left; (focus (((intro w hSw; (try dsimp only at hSw); go_simp) <;> (try with_reducible rfl)); done)); (try simp only [Act.put, p1_, p2_, p3_]))); ((refine tk_ (i := 5) (v := ?_) (y := Or.inl ⟨by rfl, ?_⟩) (h := ?_); rotate_left; (focus (((intro w hSw; (try dsimp only at hSw); go_simp) <;> (try with_reducible rfl)); done)); (try simp only [Act.put, p1_, p2_, p3_]))); ((refine tk_ (i := 6) (v := ?_) (y := Or.inl ⟨by rfl, ?_⟩) (h := ?_); rotate_left; (focus (((intro w hSw; (try dsimp only at hSw); go_simp) <;> (try with_reducible rfl)); done)); (try simp only [Act.put, p1_, p2_, p3_]))); ((refine tk_ (i := 7) (v := ?_) (y := Or.inl ⟨by rfl, ?_⟩) (h := ?_); rotate_left; (focus (((intro w hSw; (try dsimp only at hSw); go_simp) <;> (try with_reducible rfl)); done)); (try simp only [Act.put, p1_, p2_, p3_]))); ((refine tk_ (i := 8) (v := ?_) (y := Or.inl ⟨by rfl, ?_⟩) (h := ?_); rotate_left; (focus (((intro w hSw; (try dsimp only at hSw); go_simp) <;> (try with_reducible rfl)); done)); (try simp only [Act.put, p1_, p2_, p3_]))); ((refine tk_ (i := 9) (v := ?_) (y := Or.inl ⟨by rfl, ?_⟩) (h := ?_); rotate_left; (focus (((intro w hSw; (try dsimp only at hSw); go_simp) <;> (try with_reducible rfl)); done)); (try simp only [Act.put, p1_, p2_, p3_]))); ((refine wpAnyH_ready (rs := [3]) (by kernel_rfl) (by simp) ?_; refine AllReadyH.cons (by simp only [e1_, e2_, e3_]; try rfl) (fun K hK => ?_) AllReadyH.nil; go_simp; (try go_wp2_with fail); refine hK.out _ _ ?_ (fun hHeld => ?_); (focus ((try dsimp only); (go_keep))); clear hK K; (try simp only [Act.put, p1_, p2_, p3_]))); ((refine tk_ (i := 10) (v := ?_) (y := Or.inl ⟨by rfl, ?_⟩) (h := ?_); rotate_left; (focus (((intro w hSw; (try dsimp only at hSw); go_simp) <;> (try with_reducible rfl)); done)); (try simp only [Act.put, p1_, p2_, p3_]))); ((refine tk_ (i := 11) (v := ?_) (y := Or.inl ⟨by rfl, ?_⟩) (h := ?_); rotate_left; (focus (((intro w hSw; (try dsimp only at hSw); go_simp) <;> (try with_reducible rfl)); done)); (try simp only [Act.put, p1_, p2_, p3_]))); ((refine wpAnyH_ready (rs := [12]) (by kernel_rfl) (by simp) ?_; refine AllReadyH.cons (by simp only [e1_, e2_, e3_]; try rfl) (fun K hK => ?_) AllReadyH.nil; go_simp; (try go_wp2_with fail); refine hK.out _ _ ?_ (fun hHeld => ?_); (focus ((try dsimp only); (go_keep))); clear hK K; (try simp only [Act.put, p1_, p2_, p3_]))); (refine wpAnyH_done (by kernel_rfl) ?_ _))
                        clear g1 g2
                        go_wp2_with fail
                        go_roundw
                        case rel => exact ⟨i + 1, by go_num, by omega, ⟨Kb hM, Kb hI, Kr hoi, Ko hor3, Ko hst, Ks, Kw⟩, Ko hod⟩
                        case measure => simp only [intOf]; omega
                      · obtain rfl : R = i := by omega
                        have hox2 := hox.as (mxT_end HLZ.out)
                        have HN1 : Hid (nw = (liS R f G p bs (k + 1)).1) := Lib.hid (by rw [HNXT.out])
                        have HN2 : Hid (nx = (liS R f G p bs (k + 1)).2) := Lib.hid (by rw [HNXT.out])
                        clear hox
                        go_wp2_with fail
                        go_roundg (go - 1)
                        case measure => have := HGK.out; omega
                        case rel => exact ⟨k + 1, pw * p, rfl, HPN, ⟨by omega, by omega⟩, by omega, HLG, by have := HGK.out; omega, hM, hI, hoi, by rw [← HN1.out]; exact hor, by rw [← HN2.out]; exact hox2, hgx, hbw⟩
      · have hX : X = none := HNO.out (by
          have := HLK.out
          rw [show 99 - k = 0 by omega] at this
          exact this.symm)
        subst hX
        have hk99 : k = 99 := by omega
        subst hk99
        go_wp2_with fail
        go_ret2; exact LSR.no (by simp) Kw Ks
end Go.Proofs.YtlggfmfelakadaaGreatDoor

/-
  DERIVED. choices of the program.
-/
import Derived.Test.YtpecjobpihinoaaCho
import Derived.Test.YtpecjobpihinoaaRIat
namespace Go.Proofs.Ytpecjobpihinoaa
open Go.RowKit
set_option linter.unusedVariables false
set_option linter.unusedSimpArgs false
theorem OR.shapeC {w : World} {B : Nat} {v : Value} {xs : List Int} (h : OR w B v xs) : ∃ A c, v = .slice A xs.length c := by
  rcases h.form with ⟨h1, h2⟩ | ⟨g, cap, h1, _⟩
  · subst h2; exact ⟨none, 0, h1⟩
  · exact ⟨_, _, h1⟩
theorem pow6 {k : Nat} (h : k ≤ 6) : 6 ^ k ≤ 46656 := by
  have := Nat.pow_le_pow_right (show 0 < 6 by omega) h
  exact Nat.le_trans this (by decide)
/-- A row that was read in one world is read in another that agrees on the blocks from lo on and below hi. -/
theorem RI.agree {w w' : World} {lo hi m : Nat} {A : Option Addr} {xs : List Int} (h : RI w hi A m xs) (hx : 0 < m → ∀ b o, A = some ⟨b, o, none⟩ → lo ≤ b) (ha : ∀ b, lo ≤ b → b < hi → w'.heap[b]? = w.heap[b]?) : RI w' hi A m xs :=
  ⟨h.1, fun hm => by
    obtain ⟨b, o, e, hb, hc⟩ := h.2 hm
    exact ⟨b, o, e, hb, fun k hk => (World.cell?_of_block (a := ⟨b, o + k, none⟩) (ha b (hx hm b o e) hb)).trans (hc k hk)⟩⟩
set_option maxRecDepth 100000 in
set_option maxHeartbeats 8000000 in
theorem impl_choices (n : Nat) (hn : n ≤ 6) : ∀ (k : Nat) (w : World), k ≤ 6 → Calls Try.prog 81 #[.int .i64 n, .int .i64 k] w (ChR (chL n k) w) := by
  intro k
  induction k with
  | zero =>
    intro w hk
    have hc : chL (n : Int) 0 = [] ++ [[]] := rfl
    rw [hc]
    go_enter Try.func81, Try.ntmps81
    go_wp2_with fail
    go_ret
    exact ⟨_, _, _, _, rfl, OT.one _ _ _ (by simp) (by simp), (Rwx.nil_ _ _ _).snoc (RI.nil_ _ _ _) (fun h => absurd h (by omega)), by (repeat (first | (with_reducible exact Below.refl _ _) | (with_reducible assumption) | (with_reducible refine below_drewN ?_ _) | (with_reducible refine Below.drew ?_) | (with_reducible refine Below.alloc ?_ ?_ _) | (with_reducible refine Below.setCell ?_ ?_ _) | (with_reducible refine below_into ?_ (by assumption) (by first | omega | (simp; done) | (simp; omega))) | go_size))⟩
  | succ k ih =>
    intro w hk
    obtain ⟨T, hT⟩ : ∃ T, T = chL (n : Int) (k + 1) := ⟨_, rfl⟩
    rw [← hT]
    have HIH : Hid (∀ w', Calls Try.prog 81 #[.int .i64 n, .int .i64 (((k + 1 : Nat) : Int) - 1)] w' (ChR (chL n k) w')) := Lib.hid (fun w' => by
      rw [show ((k + 1 : Nat) : Int) - 1 = (k : Int) by omega]
      exact ih w' (by omega))
    have HTL : Hid (T.length ≤ 46656) := Lib.hid (by rw [hT]; exact Nat.le_trans (chL_len hn (k + 1)) (pow6 hk))
    have HT0 : Hid ([] ++ ((chL (n : Int) k).drop 0).flatMap (fun c => extL n c (frm c)) = T) := Lib.hid (by rw [List.drop_zero, List.nil_append, hT]; rfl)
    have HMEM := Lib.hid (chL_mem (Int.natCast_nonneg n) k)
    obtain ⟨K, hK⟩ : ∃ K, K = k + 1 := ⟨_, rfl⟩
    have hkk : k ≤ 6 := by omega
    have hLL : (chL (n : Int) k).length ≤ 46656 := Nat.le_trans (chL_len hn k) (pow6 hkk)
    have hKz : ((K : Int) == 0) = false := by simp; omega
    rw [← hK] at HIH hk ⊢
    have HK := Lib.hid hK
    clear ih hT hK
    generalize chL (n : Int) k = L at *
    go_enter Try.func81, Try.ntmps81
    go_wp2_with fail
    refine (HIH.out _).mono ?_
    rintro e wS ⟨Ac, nc, capc, vsc, rfl, hOc, hRc, hbS⟩
    have hsS := hbS.size
    simp at hsS
    have hO0 : OT wS w.heap.size (.slice (some ⟨w.heap.size, 0, none⟩) 0 0) [] := (OT.empty w w.heap.size rfl (Nat.le_refl _)).below hbS (Nat.le_refl _)
    have hbw0 : Below w.heap.size w wS := Below.trans (show Below w.heap.size w (w.alloc (.cells #[] 22)) by (repeat (first | (with_reducible exact Below.refl _ _) | (with_reducible assumption) | (with_reducible refine below_drewN ?_ _) | (with_reducible refine Below.drew ?_) | (with_reducible refine Below.alloc ?_ ?_ _) | (with_reducible refine Below.setCell ?_ ?_ _) | (with_reducible refine below_into ?_ (by assumption) (by first | omega | (simp; done) | (simp; omega))) | go_size))) (hbS.mono (by simp))
    have hlc : vsc.length = L.length := hRc.1
    have hncl : nc = vsc.length := by
      rcases hOc.form with ⟨h1, h2⟩ | ⟨g, cap, h1, _⟩
      · injection h1 with e1 e2 e3; subst h2; exact e2
      · injection h1
    have hnl : nc ≤ L.length ∧ L.length ≤ nc := by omega
    have HOC := Lib.hid hOc
    have HRC0 := Lib.hid hRc
    obtain ⟨Bs, hBs⟩ : ∃ Bs, Hid (Bs = wS.heap.size) := ⟨_, Lib.hid rfl⟩
    have hBs1 : Bs ≤ wS.heap.size ∧ w.heap.size + 1 ≤ Bs := by have := hBs.out; omega
    clear hOc hRc hbS hlc hncl
    go_wp2_with fail
    go_loopg [5, 20] (nc + 1) (fun gn vo u wr => ∃ (q : Nat) (vs : List Value) (rs : List (List Int)), u = .int .i64 q ∧ q ≤ nc ∧ nc - q < gn ∧ OT wr w.heap.size vo vs ∧ Rwx wr w.heap.size vo vs rs ∧ Hid (rs ++ (L.drop q).flatMap (fun c => extL n c (frm c)) = T) ∧ Hid (∀ b, vo.ownBlock = some b → b < w.heap.size + 1 ∨ Bs ≤ b) ∧ Hid (∀ b, w.heap.size + 1 ≤ b → b < Bs → wr.heap[b]? = wS.heap[b]?) ∧ Bs ≤ wr.heap.size ∧ Below w.heap.size w wr)
    case atStart => exact ⟨0, [], [], rfl, Nat.zero_le _, by omega, hO0, Rwx.nil_ _ _ _, HT0, Lib.hid (fun b e => by cases e; exact .inl (Nat.lt_succ_self _)), Lib.hid (fun b _ _ => rfl), hBs1.1, hbw0⟩
    case round =>
      clear hO0 hbw0 HT0
      obtain ⟨q, vs, rs, rfl, hq, hgk, hO, hR, HT1, HOB, HAG, hBs2, hbw⟩ := hrel
      by_cases hlt : q < nc
      · have hqL : q < L.length := by omega
        obtain ⟨gC, rfl, hgC1, hgC2⟩ : ∃ gC, Ac = some ⟨gC, 0, none⟩ ∧ w.heap.size + 1 ≤ gC ∧ gC < Bs := by
          rcases HOC.out.form with ⟨h1, h2⟩ | ⟨g, cap, h1, h2, h3, _⟩
          · injection h1 with e1 e2 e3; omega
          · injection h1 with e1 e2 e3
            have := hBs.out
            simp at h2
            exact ⟨g, e1, h2, by omega⟩
        obtain ⟨A, m, c, e1, hri, hxx⟩ := HRC0.out.2 q hqL
        have hcc := HMEM.out (L.getD q []) (by simp [List.getD, hqL])
        have cl : wr.cell? ⟨gC, q, none⟩ = some (.slice A m c) := (World.cell?_of_block (a := ⟨gC, q, none⟩) (HAG.out gC hgC1 hgC2)).trans ((HOC.out.cell q (by have := HRC0.out.1; omega)).trans e1)
        have hml : m = (L.getD q []).length := hri.len.symm
        have HRC : Hid (RI wS Bs A m (L.getD q [])) := Lib.hid (by rw [hBs.out]; exact hri)
        have HXC : Hid (0 < m → ∀ b o, A = some ⟨b, o, none⟩ → w.heap.size + 1 ≤ b) := Lib.hid (fun h b o e => by have := (hxx h b o e).1; simp at this; exact this)
        have HT1' : Hid (rs ++ (extL n (L.getD q []) (frm (L.getD q [])) ++ (L.drop (q + 1)).flatMap (fun c => extL n c (frm c))) = T) := Lib.hid (by
          have := HT1.out
          rw [List.drop_eq_getElem_cons hqL, List.flatMap_cons] at this
          rw [← this]
          simp [List.getD, hqL])
        have hfb := frm_bd hcc.2 (Int.natCast_nonneg n)
        have hck := hcc.1
        have hfr0 : k = 0 → frm (L.getD q []) = 0 := fun h => by unfold frm; rw [if_pos (by omega)]
        have hfr1 : 0 < k → frm (L.getD q []) = (L.getD q []).getD (k - 1) 0 + 1 := fun h => by unfold frm; rw [if_neg (by omega), hck]
        have HF0 := Lib.hid hfr0
        have HF1 := Lib.hid hfr1
        clear HT1 e1 hri hxx hcc hfr0 hfr1
        have HT1 := HT1'
        clear HT1'
        obtain ⟨rest, HREST⟩ : ∃ r, Hid ((L.drop (q + 1)).flatMap (fun c => extL n c (frm c)) = r) := ⟨_, Lib.hid rfl⟩
        rw [HREST.out] at HT1
        obtain ⟨gO, rfl⟩ : ∃ gO : Nat, gO = gk := ⟨_, rfl⟩
        generalize L.getD q [] = cc at *
        obtain ⟨hf1, hf2⟩ := hfb
        have hccl : cc.length ≤ 6 ∧ m ≤ cc.length ∧ cc.length ≤ m := by omega
        obtain ⟨hcl, hcm1, hcm2⟩ := hccl
        have HCK := Lib.hid hck
        by_cases hk0 : k = 0
        · have hm0 : m = 0 := by omega
          clear hck hml
          subst hm0
          have HFZ := Lib.hid (HF0.out hk0)
          clear hk0
          have hf3 := hf1
          have hf4 := hf2
          rw [HFZ.out] at hf3 hf4 HT1
          clear hf1 hf2 HF0 HF1
          have hf1 := hf3
          have hf2 := hf4
          clear hf3 hf4
          go_wp2_with fail
          obtain ⟨wo2, rfl⟩ : ∃ wo : World, wo = wr := ⟨_, rfl⟩
          go_loopg [5, 9] (n + 2) (fun gn vo u wq => ∃ (i : Int) (vs : List Value) (rs : List (List Int)), u = .int .i64 i ∧ 0 ≤ i ∧ i ≤ n ∧ ((n : Int) - i).toNat < gn ∧ OT wq w.heap.size vo vs ∧ Rwx wq w.heap.size vo vs rs ∧ Hid (rs ++ (extL n cc i ++ rest) = T) ∧ Hid (∀ b, vo.ownBlock = some b → b < w.heap.size + 1 ∨ Bs ≤ b) ∧ Hid (∀ b, w.heap.size + 1 ≤ b → b < Bs → wq.heap[b]? = wS.heap[b]?) ∧ Bs ≤ wq.heap.size ∧ Below w.heap.size w wq)
          case atStart => exact ⟨0, vs, rs, rfl, hf1, hf2, by omega, by first | exact hO | exact hO.drewN _, by first | exact hR, HT1, HOB, by first | exact HAG, hBs2, by (repeat (first | (with_reducible exact Below.refl _ _) | (with_reducible assumption) | (with_reducible refine below_drewN ?_ _) | (with_reducible refine Below.drew ?_) | (with_reducible refine Below.alloc ?_ ?_ _) | (with_reducible refine Below.setCell ?_ ?_ _) | (with_reducible refine below_into ?_ (by assumption) (by first | omega | (simp; done) | (simp; omega))) | go_size))⟩
          case round =>
            clear hO hR HT1 HOB HAG hBs2 hbw
            obtain ⟨i, vs, rs, rfl, hi0, hin, hgi, hO, hR, HT2, HOB, HAG, hBs2, hbw⟩ := hrel
            by_cases hlt : i < n
            · have hric : RI wr Bs A 0 cc := RI.agree (lo := w.heap.size + 1) HRC.out HXC.out HAG.out
              have hsq := hbw.size
              have hvl : vs.length ≤ 1000000 := by
                have h1 := hR.1
                have h2 := congrArg List.length HT2.out
                rw [List.length_append] at h2
                have h3 := HTL.out
                omega
              have HT3 : Hid ((rs ++ [cc ++ [i]]) ++ (extL n cc (i + 1) ++ rest) = T) := Lib.hid (by
                have := HT2.out
                rw [extL_yes hlt] at this
                rw [← this]
                simp)
              have hRC := Lib.hid hric
              clear hric HT2
              have hob0 : OR (wr.alloc (.cells #[] 3)) wr.heap.size (.slice (some ⟨wr.heap.size, 0, none⟩) 0 0) [] := OR.empty' _ _ rfl (Nat.le_refl _)
              go_wp2_with (at_builtin; refine wpList_append_ints _ rfl (.tmp 41) (.tmp 42) rfl wr.heap.size _ [] rfl ?c1 Bs A 0 c cc rfl ?c2 ?c3 ?c4 ?_)
              case c1 => exact hob0
              case c2 => exact hRC.out.alloc hBs2 _
              case c3 => first | omega | (simp; omega) | (simp; done)
              case c4 => simp
              intro v1 w1 hown1 hgr1 hat1
              (try rw [List.nil_append] at hown1)
              have hb1 : Below wr.heap.size wr w1 := Below.trans (Below.alloc (Below.refl _ _) (Nat.le_refl _) _) (only_below hgr1 (by simp) (fun g e => by cases e; exact Nat.le_refl _))
              obtain ⟨A1, c1, rfl⟩ := hown1.shapeC
              clear hgr1 hat1 hob0
              go_wp2_with (at_builtin; refine wpList_append_one _ rfl (.tmp 43) (.tmp 45) rfl wr.heap.size _ cc rfl (hown1.alloc _) _ i rfl ?d1 ?d2 ?d3 ?_)
              case d1 => simp [go_sem]
              case d2 => omega
              case d3 => have := hb1.size; simp; omega
              intro v2 w2 hown2 hgr2 hat2
              have hb2 : Below wr.heap.size wr w2 := Below.trans (Below.alloc hb1 hb1.size _) ((hown1.alloc (.cells #[.int .i64 i] 3)).below_grown hgr2 (by have := hb1.size; simp; omega))
              obtain ⟨A2, c2, rfl⟩ := hown2.shapeC
              have hl1 : (cc ++ [i]).length = cc.length + 1 := by simp
              rw [hl1] at hown2 hat2 ⊢
              obtain ⟨gA, rfl, hgA1, hgA2⟩ := hown2.begins (by simp)
              have hO2 := (hO.below hb2 (Nat.le_refl _))
              have hR2 := (hR.below hb2 (Nat.le_refl _))
              have hs2 := hb2.size
              clear hgr2 hat2 hown1 hb1
              go_wp2_with (at_builtin; refine wpList_append_slT _ rfl (.tmp 40) (.tmp 47) rfl w.heap.size _ vs rfl (hO2.alloc _) _ (.slice (some ⟨gA, 0, none⟩) (cc.length + 1) c2) rfl rfl ?e1 ?e2 ?e3 ?_)
              case e1 => simp [go_sem]
              case e2 => omega
              case e3 => simp; omega
              intro v3 w3 hown3 hgr3 hat3
              have how3 := hown2.alloc (.cells #[.slice (some ⟨gA, 0, none⟩) (cc.length + 1) c2] 22)
              have how4 := how3.kept hgr3 (.inr (fun e => by have h2 := hO.own gA (by rw [← e]; rfl); omega))
              have hR3 := (hR2.below (w' := w2.alloc (.cells #[.slice (some ⟨gA, 0, none⟩) (cc.length + 1) c2] 22)) (D := w2.heap.size) (Below.alloc (Below.refl _ _) (Nat.le_refl _) _) (Nat.le_refl _)).grown (v' := v3) hgr3 (by simpa using hat3)
              have hsq2 := hbw.size
              have hR4 := hR3.snoc (c := c2) how4.reads (fun hm b o hA => by
                injection hA with hA
                injection hA with h1
                subst h1
                refine ⟨by omega, ?_⟩
                rcases hat3 with e | e
                · rw [e]; intro e2; have := (hO.own _ e2).2; omega
                · rw [e]; intro e2; injection e2 with e2; (try simp at e2); omega)
              have HOB3 : Hid (∀ b, v3.ownBlock = some b → b < w.heap.size + 1 ∨ Bs ≤ b) := Lib.hid (fun b e => by
                rcases hat3 with e2 | e2
                · rw [e2] at e; exact HOB.out b e
                · rw [e2] at e; injection e with e; (try simp at e); right; omega)
              have HAG3 : Hid (∀ b, w.heap.size + 1 ≤ b → b < Bs → w3.heap[b]? = wS.heap[b]?) := Lib.hid (fun b h1 h2 => by
                refine (hgr3.block b (by simp; omega) (fun e => ?_)).trans ((Below.heap_alloc w2 _ b (by omega)).trans ((hb2.block b (by omega)).trans (HAG.out b h1 h2)))
                rcases HOB.out b e.symm with h3 | h3 <;> omega)
              have hs3 := hgr3.size
              simp at hs3
              have hbw3 : Below w.heap.size w w3 := (hbw.trans (hb2.mono (by omega))).trans (Below.trans (Below.alloc (Below.refl _ _) (by omega) _) (only_below hgr3 (by simp; omega) (fun g e => (hO.own g e).1)))
              clear hgr3 hat3 hO hR hbw hown2 hO2 hR2 how3 how4 hR3 hb2 HOB HAG
              go_wp2_with fail
              go_roundg (gk - 1)
              case measure => omega
              case rel => exact ⟨i + 1, _, _, by go_num, by omega, by omega, by omega, hown3, hR4, HT3, HOB3, HAG3, by omega, hbw3⟩
            · have HT3 : Hid (rs ++ (L.drop (q + 1)).flatMap (fun c => extL n c (frm c)) = T) := Lib.hid (by
                have := HT2.out
                rw [extL_no hlt, List.nil_append] at this
                rw [HREST.out]
                exact this)
              clear HT2
              go_wp2_with fail
              go_roundg (gO - 1)
              case measure => omega
              case rel => exact ⟨q + 1, vs, rs, by go_num, by omega, by omega, hO, hR, HT3, HOB, HAG, hBs2, hbw⟩
        · have hkp : 0 < k := by omega
          have hric : RI wr Bs A m cc := RI.agree (lo := w.heap.size + 1) HRC.out HXC.out HAG.out
          obtain ⟨b, o, rfl, hbb, hcells⟩ := hric.2 (by omega)
          have cx := hcells (k - 1) (by omega)
          have HFX := Lib.hid (HF1.out hkp)
          have hx := HFX.out
          rw [hx] at hf1 hf2 HT1
          have e6 : k - 1 = m - 1 := by omega
          generalize hxx : cc.getD (k - 1) 0 = x at *
          rw [e6] at cx
          have hxx2 := Lib.hid hxx
          clear hxx
          have hm1 : IntKind.i64.wrap ((m : Int) - 1) = (m : Int) - 1 := IntWalk.i64_in _ (by omega)
          have hm2 : 0 ≤ (m : Int) - 1 ∧ (m : Int) - 1 < (m : Int) := by omega
          have hmz : decide (0 < m) = true := by simp; omega
          clear hx e6 hcells hric hck hml HF0 HF1
          clear hkp hk0
          go_wp2_with fail
          obtain ⟨wo2, rfl⟩ : ∃ wo : World, wo = wr := ⟨_, rfl⟩
          go_loopg [5, 9] (n + 2) (fun gn vo u wq => ∃ (i : Int) (vs : List Value) (rs : List (List Int)), u = .int .i64 i ∧ 0 ≤ i ∧ i ≤ n ∧ ((n : Int) - i).toNat < gn ∧ OT wq w.heap.size vo vs ∧ Rwx wq w.heap.size vo vs rs ∧ Hid (rs ++ (extL n cc i ++ rest) = T) ∧ Hid (∀ b, vo.ownBlock = some b → b < w.heap.size + 1 ∨ Bs ≤ b) ∧ Hid (∀ b, w.heap.size + 1 ≤ b → b < Bs → wq.heap[b]? = wS.heap[b]?) ∧ Bs ≤ wq.heap.size ∧ Below w.heap.size w wq)
          case atStart => exact ⟨x + 1, vs, rs, rfl, hf1, hf2, by omega, by first | exact hO | exact hO.drewN _, by first | exact hR, HT1, HOB, by first | exact HAG, hBs2, by (repeat (first | (with_reducible exact Below.refl _ _) | (with_reducible assumption) | (with_reducible refine below_drewN ?_ _) | (with_reducible refine Below.drew ?_) | (with_reducible refine Below.alloc ?_ ?_ _) | (with_reducible refine Below.setCell ?_ ?_ _) | (with_reducible refine below_into ?_ (by assumption) (by first | omega | (simp; done) | (simp; omega))) | go_size))⟩
          case round =>
            clear hO hR HT1 HOB HAG hBs2 hbw
            obtain ⟨i, vs, rs, rfl, hi0, hin, hgi, hO, hR, HT2, HOB, HAG, hBs2, hbw⟩ := hrel
            by_cases hlt : i < n
            · have hric : RI wr Bs (some ⟨b, o, none⟩) m cc := RI.agree (lo := w.heap.size + 1) HRC.out HXC.out HAG.out
              have hsq := hbw.size
              have hvl : vs.length ≤ 1000000 := by
                have h1 := hR.1
                have h2 := congrArg List.length HT2.out
                rw [List.length_append] at h2
                have h3 := HTL.out
                omega
              have HT3 : Hid ((rs ++ [cc ++ [i]]) ++ (extL n cc (i + 1) ++ rest) = T) := Lib.hid (by
                have := HT2.out
                rw [extL_yes hlt] at this
                rw [← this]
                simp)
              have hRC := Lib.hid hric
              clear hric HT2
              have hob0 : OR (wr.alloc (.cells #[] 3)) wr.heap.size (.slice (some ⟨wr.heap.size, 0, none⟩) 0 0) [] := OR.empty' _ _ rfl (Nat.le_refl _)
              go_wp2_with (at_builtin; refine wpList_append_ints _ rfl (.tmp 41) (.tmp 42) rfl wr.heap.size _ [] rfl ?c1 Bs (some ⟨b, o, none⟩) m c cc rfl ?c2 ?c3 ?c4 ?_)
              case c1 => exact hob0
              case c2 => exact hRC.out.alloc hBs2 _
              case c3 => first | omega | (simp; omega) | (simp; done)
              case c4 => simp
              intro v1 w1 hown1 hgr1 hat1
              (try rw [List.nil_append] at hown1)
              have hb1 : Below wr.heap.size wr w1 := Below.trans (Below.alloc (Below.refl _ _) (Nat.le_refl _) _) (only_below hgr1 (by simp) (fun g e => by cases e; exact Nat.le_refl _))
              obtain ⟨A1, c1, rfl⟩ := hown1.shapeC
              clear hgr1 hat1 hob0
              go_wp2_with (at_builtin; refine wpList_append_one _ rfl (.tmp 43) (.tmp 45) rfl wr.heap.size _ cc rfl (hown1.alloc _) _ i rfl ?d1 ?d2 ?d3 ?_)
              case d1 => simp [go_sem]
              case d2 => omega
              case d3 => have := hb1.size; simp; omega
              intro v2 w2 hown2 hgr2 hat2
              have hb2 : Below wr.heap.size wr w2 := Below.trans (Below.alloc hb1 hb1.size _) ((hown1.alloc (.cells #[.int .i64 i] 3)).below_grown hgr2 (by have := hb1.size; simp; omega))
              obtain ⟨A2, c2, rfl⟩ := hown2.shapeC
              have hl1 : (cc ++ [i]).length = cc.length + 1 := by simp
              rw [hl1] at hown2 hat2 ⊢
              obtain ⟨gA, rfl, hgA1, hgA2⟩ := hown2.begins (by simp)
              have hO2 := (hO.below hb2 (Nat.le_refl _))
              have hR2 := (hR.below hb2 (Nat.le_refl _))
              have hs2 := hb2.size
              clear hgr2 hat2 hown1 hb1
              go_wp2_with (at_builtin; refine wpList_append_slT _ rfl (.tmp 40) (.tmp 47) rfl w.heap.size _ vs rfl (hO2.alloc _) _ (.slice (some ⟨gA, 0, none⟩) (cc.length + 1) c2) rfl rfl ?e1 ?e2 ?e3 ?_)
              case e1 => simp [go_sem]
              case e2 => omega
              case e3 => simp; omega
              intro v3 w3 hown3 hgr3 hat3
              have how3 := hown2.alloc (.cells #[.slice (some ⟨gA, 0, none⟩) (cc.length + 1) c2] 22)
              have how4 := how3.kept hgr3 (.inr (fun e => by have h2 := hO.own gA (by rw [← e]; rfl); omega))
              have hR3 := (hR2.below (w' := w2.alloc (.cells #[.slice (some ⟨gA, 0, none⟩) (cc.length + 1) c2] 22)) (D := w2.heap.size) (Below.alloc (Below.refl _ _) (Nat.le_refl _) _) (Nat.le_refl _)).grown (v' := v3) hgr3 (by simpa using hat3)
              have hsq2 := hbw.size
              have hR4 := hR3.snoc (c := c2) how4.reads (fun hm b o hA => by
                injection hA with hA
                injection hA with h1
                subst h1
                refine ⟨by omega, ?_⟩
                rcases hat3 with e | e
                · rw [e]; intro e2; have := (hO.own _ e2).2; omega
                · rw [e]; intro e2; injection e2 with e2; (try simp at e2); omega)
              have HOB3 : Hid (∀ b, v3.ownBlock = some b → b < w.heap.size + 1 ∨ Bs ≤ b) := Lib.hid (fun b e => by
                rcases hat3 with e2 | e2
                · rw [e2] at e; exact HOB.out b e
                · rw [e2] at e; injection e with e; (try simp at e); right; omega)
              have HAG3 : Hid (∀ b, w.heap.size + 1 ≤ b → b < Bs → w3.heap[b]? = wS.heap[b]?) := Lib.hid (fun b h1 h2 => by
                refine (hgr3.block b (by simp; omega) (fun e => ?_)).trans ((Below.heap_alloc w2 _ b (by omega)).trans ((hb2.block b (by omega)).trans (HAG.out b h1 h2)))
                rcases HOB.out b e.symm with h3 | h3 <;> omega)
              have hs3 := hgr3.size
              simp at hs3
              have hbw3 : Below w.heap.size w w3 := (hbw.trans (hb2.mono (by omega))).trans (Below.trans (Below.alloc (Below.refl _ _) (by omega) _) (only_below hgr3 (by simp; omega) (fun g e => (hO.own g e).1)))
              clear hgr3 hat3 hO hR hbw hown2 hO2 hR2 how3 how4 hR3 hb2 HOB HAG
              go_wp2_with fail
              go_roundg (gk - 1)
              case measure => omega
              case rel => exact ⟨i + 1, _, _, by go_num, by omega, by omega, by omega, hown3, hR4, HT3, HOB3, HAG3, by omega, hbw3⟩
            · have HT3 : Hid (rs ++ (L.drop (q + 1)).flatMap (fun c => extL n c (frm c)) = T) := Lib.hid (by
                have := HT2.out
                rw [extL_no hlt, List.nil_append] at this
                rw [HREST.out]
                exact this)
              clear HT2
              go_wp2_with fail
              go_roundg (gO - 1)
              case measure => omega
              case rel => exact ⟨q + 1, vs, rs, by go_num, by omega, by omega, hO, hR, HT3, HOB, HAG, hBs2, hbw⟩
      · have HT2 : Hid (rs = T) := Lib.hid (by
          have := HT1.out
          rw [List.drop_of_length_le (by omega)] at this
          simpa using this)
        obtain ⟨A9, c9, rfl⟩ := hO.shape
        go_wp2_with fail
        go_ret
        rw [← HT2.out]
        exact ⟨_, _, _, vs, rfl, hO, hR, hbw⟩
end Go.Proofs.Ytpecjobpihinoaa

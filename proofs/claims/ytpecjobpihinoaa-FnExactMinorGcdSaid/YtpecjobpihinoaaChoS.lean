/-
  DERIVED. l13Subsets of the reference.
-/
import Derived.Test.YtpecjobpihinoaaChoI
namespace Go.Proofs.Ytpecjobpihinoaa
open Go.RowKit
set_option linter.unusedVariables false
set_option linter.unusedSimpArgs false
theorem Rwx.more {w : World} {B C : Nat} {v : Value} {vs : List Value} {rs : List (List Int)} (h : Rwx w C v vs rs) (hB : B ≤ C) : Rwx w B v vs rs :=
  ⟨h.1, fun k hk => by
    obtain ⟨A, m, c, e, hr, hx⟩ := h.2 k hk
    exact ⟨A, m, c, e, hr, fun hm b o hA => ⟨Nat.le_trans hB (hx hm b o hA).1, (hx hm b o hA).2⟩⟩⟩
theorem OT.more {w : World} {B C : Nat} {v : Value} {vs : List Value} (h : OT w C v vs) (hB : B ≤ C) : OT w B v vs := by
  refine ⟨h.1, h.2.imp id ?_⟩
  rintro ⟨g, cap, cur, h1, h2, h3⟩
  exact ⟨g, cap, cur, h1, Nat.le_trans hB h2, h3⟩
set_option maxRecDepth 100000 in
set_option maxHeartbeats 8000000 in
theorem spec_l13Subsets (n : Nat) (hn : n ≤ 6) (k : Nat) (hk : k ≤ 6) (w : World) : Calls Try.prog 77 #[.int .i64 n, .int .i64 k] w (ChR (chL n k) w) := by
  obtain ⟨LL, hLLd⟩ : ∃ f : Nat → List (List Int), f = chL (n : Int) := ⟨_, rfl⟩
  have HL0 : Hid (LL 0 = [] ++ [[]]) := Lib.hid (by rw [hLLd]; rfl)
  have HLS : Hid (∀ p, LL (p + 1) = (LL p).flatMap (fun c => extL n c (frm c))) := Lib.hid (by rw [hLLd]; intro p; rfl)
  have HLL : Hid (∀ p, p ≤ 6 → (LL p).length ≤ 46656) := Lib.hid (by rw [hLLd]; exact fun p hp => Nat.le_trans (chL_len hn p) (pow6 hp))
  have HMEM : Hid (∀ p, ∀ c ∈ LL p, c.length = p ∧ ∀ x ∈ c, 0 ≤ x ∧ x < (n : Int)) := Lib.hid (by rw [hLLd]; exact chL_mem (Int.natCast_nonneg n))
  rw [← hLLd]
  clear hLLd
  go_enter Try.func77, Try.ntmps77
  go_wp2_with fail
  go_loopg [5, 6] (k + 2) (fun gn vo u wr => ∃ (p : Nat) (vs : List Value), u = .int .i64 p ∧ p ≤ k ∧ k - p < gn ∧ OT wr w.heap.size vo vs ∧ Rwx wr w.heap.size vo vs (LL p) ∧ Below w.heap.size w wr)
  case atStart =>
    refine ⟨0, _, rfl, Nat.zero_le _, by omega, OT.one _ _ _ (by simp) (by simp), ?_, by (repeat (first | (with_reducible exact Below.refl _ _) | (with_reducible assumption) | (with_reducible refine below_drewN ?_ _) | (with_reducible refine Below.drew ?_) | (with_reducible refine Below.alloc ?_ ?_ _) | (with_reducible refine Below.setCell ?_ ?_ _) | (with_reducible refine below_into ?_ (by assumption) (by first | omega | (simp; done) | (simp; omega))) | go_size))⟩
    rw [HL0.out]
    exact (Rwx.nil_ _ _ _).snoc (RI.nil_ _ _ _) (fun h => absurd h (by omega))
  case round =>
    obtain ⟨p, vsc, rfl, hp, hgp, hOc, hRc, hbS⟩ := hrel
    obtain ⟨Ac, capc, rfl⟩ := hOc.shape
    by_cases hlp : p < k
    · obtain ⟨L, hL⟩ : ∃ L, L = LL p := ⟨_, rfl⟩
      obtain ⟨T, hT⟩ : ∃ T, T = LL (p + 1) := ⟨_, rfl⟩
      have HTL : Hid (T.length ≤ 46656) := Lib.hid (by rw [hT]; exact HLL.out _ (by omega))
      have HT0 : Hid ([] ++ (L.drop 0).flatMap (fun c => extL n c (frm c)) = T) := Lib.hid (by rw [List.drop_zero, List.nil_append, hT, hL]; exact (HLS.out p).symm)
      have hLL : L.length ≤ 46656 := by rw [hL]; exact HLL.out _ (by omega)
      have HM : Hid (∀ c ∈ L, c.length = p ∧ ∀ x ∈ c, 0 ≤ x ∧ x < (n : Int)) := Lib.hid (by rw [hL]; exact HMEM.out p)
      rw [← hL] at hRc
      have HTD := Lib.hid hT
      have HOC := Lib.hid hOc
      have HRC0 := Lib.hid hRc
      have hsS := hbS.size
      obtain ⟨nc, hnc⟩ : ∃ m, m = vsc.length := ⟨_, rfl⟩
      have hncl : nc ≤ vsc.length ∧ vsc.length ≤ nc := by omega
      have hnl : nc ≤ L.length ∧ L.length ≤ nc := by have := hRc.1; omega
      rw [← hnc] at HOC HRC0 ⊢
      clear hL hT hOc hRc hnc
      obtain ⟨wB, hwB⟩ : ∃ wo : World, wo = wr := ⟨_, rfl⟩
      rw [← hwB] at hbS hsS HOC HRC0
      have hbq : Below wB.heap.size wB wr := by rw [hwB]; exact Below.refl _ _
      have hO0 : OT (wr.alloc (.cells #[] 22)) wB.heap.size (.slice (some ⟨wr.heap.size, 0, none⟩) 0 0) [] := OT.empty wr wr.heap.size rfl (by rw [hwB]; exact Nat.le_refl _)
      have hsB := hbq.size
      clear hwB
      obtain ⟨gP, rfl⟩ : ∃ gO : Nat, gO = gk := ⟨_, rfl⟩
      go_wp2_with fail
      go_loopg [7, 8] (nc + 1) (fun gn vo u wr => ∃ (q : Nat) (vs : List Value) (rs : List (List Int)), u = .int .i64 q ∧ q ≤ nc ∧ nc - q < gn ∧ OT wr wB.heap.size vo vs ∧ Rwx wr wB.heap.size vo vs rs ∧ Hid (rs ++ (L.drop q).flatMap (fun c => extL n c (frm c)) = T) ∧ Below wB.heap.size wB wr)
      case atStart => exact ⟨0, [], [], rfl, Nat.zero_le _, by omega, hO0, Rwx.nil_ _ _ _, HT0, by (repeat (first | (with_reducible exact Below.refl _ _) | (with_reducible assumption) | (with_reducible refine below_drewN ?_ _) | (with_reducible refine Below.drew ?_) | (with_reducible refine Below.alloc ?_ ?_ _) | (with_reducible refine Below.setCell ?_ ?_ _) | (with_reducible refine below_into ?_ (by assumption) (by first | omega | (simp; done) | (simp; omega))) | go_size))⟩
      case round =>
        clear hO0 hbq HT0
        obtain ⟨q, vs, rs, rfl, hq, hgk, hO, hR, HT1, hbq⟩ := hrel
        by_cases hlt : q < nc
        · have hqL : q < L.length := by omega
          obtain ⟨gC, rfl, HGC⟩ : ∃ gC, Ac = some ⟨gC, 0, none⟩ ∧ Hid (w.heap.size ≤ gC ∧ gC < wB.heap.size) := by
            rcases HOC.out.form with ⟨h1, h2⟩ | ⟨g, cap, h1, h2, h3, _⟩
            · injection h1 with e1 e2 e3; omega
            · injection h1 with e1 e2 e3
              exact ⟨g, e1, Lib.hid ⟨h2, h3⟩⟩
          obtain ⟨A, m, c, e1, hri, hxx⟩ := HRC0.out.2 q hqL
          have hcc := HM.out (L.getD q []) (by simp [List.getD, hqL])
          have HCL : Hid (wB.cell? ⟨gC, q, none⟩ = some (.slice A m c)) := Lib.hid ((HOC.out.cell q (by omega)).trans e1)
          have cl : wr.cell? ⟨gC, q, none⟩ = some (.slice A m c) := (World.cell?_of_block (a := ⟨gC, q, none⟩) (hbq.block gC HGC.out.2)).trans HCL.out
          have hml : m = (L.getD q []).length := hri.len.symm
          have HRC : Hid (RI wB wB.heap.size A m (L.getD q [])) := Lib.hid hri
          have HT1' : Hid (rs ++ (extL n (L.getD q []) (frm (L.getD q [])) ++ (L.drop (q + 1)).flatMap (fun c => extL n c (frm c))) = T) := Lib.hid (by
            have := HT1.out
            rw [List.drop_eq_getElem_cons hqL, List.flatMap_cons] at this
            rw [← this]
            simp [List.getD, hqL])
          have hfb := frm_bd hcc.2 (Int.natCast_nonneg n)
          have hck := hcc.1
          have hfr0 : p = 0 → frm (L.getD q []) = 0 := fun h => by unfold frm; rw [if_pos (by omega)]
          have hfr1 : 0 < p → frm (L.getD q []) = (L.getD q []).getD (p - 1) 0 + 1 := fun h => by unfold frm; rw [if_neg (by omega), hck]
          have HF0 := Lib.hid hfr0
          have HF1 := Lib.hid hfr1
          clear HT1 e1 hri hxx hcc hfr0 hfr1
          have HT1 := HT1'
          clear HT1'
          obtain ⟨rest, HREST⟩ : ∃ r, Hid ((L.drop (q + 1)).flatMap (fun c => extL n c (frm c)) = r) := ⟨_, Lib.hid rfl⟩
          rw [HREST.out] at HT1
          obtain ⟨gO, rfl⟩ : ∃ gO : Nat, gO = gk := ⟨_, rfl⟩
          generalize L.getD q [] = cc at *
          obtain ⟨hf1, hf2⟩ := hfb
          have hccl : cc.length ≤ 6 ∧ m ≤ cc.length ∧ cc.length ≤ m := by omega
          obtain ⟨hcl, hcm1, hcm2⟩ := hccl
          have HCK := Lib.hid hck
          by_cases hk0 : p = 0
          · have hm0 : m = 0 := by omega
            have HFZ := Lib.hid (HF0.out hk0)
            clear hck hml
            subst hm0
            have hf3 := hf1
            have hf4 := hf2
            rw [HFZ.out] at hf3 hf4 HT1
            clear hf1 hf2 HF0 HF1
            have hf1 := hf3
            have hf2 := hf4
            have hp0 : decide (0 < p) = false := by simp; omega
            have hp2 : decide (0 < (p : Int)) = false := by simp; omega
            clear hf3 hf4 hk0
            go_wp2_with fail
            obtain ⟨wo2, rfl⟩ : ∃ wo : World, wo = wr := ⟨_, rfl⟩
            go_loopg [7, 10] (n + 2) (fun gn vo u wq => ∃ (i : Int) (vs : List Value) (rs : List (List Int)), u = .int .i64 i ∧ 0 ≤ i ∧ i ≤ n ∧ ((n : Int) - i).toNat < gn ∧ OT wq wB.heap.size vo vs ∧ Rwx wq wB.heap.size vo vs rs ∧ Hid (rs ++ (extL n cc i ++ rest) = T) ∧ Below wB.heap.size wB wq)
            case atStart => exact ⟨0, vs, rs, rfl, hf1, hf2, by omega, by first | exact hO | exact hO.drewN _, by first | exact hR, HT1, by (repeat (first | (with_reducible exact Below.refl _ _) | (with_reducible assumption) | (with_reducible refine below_drewN ?_ _) | (with_reducible refine Below.drew ?_) | (with_reducible refine Below.alloc ?_ ?_ _) | (with_reducible refine Below.setCell ?_ ?_ _) | (with_reducible refine below_into ?_ (by assumption) (by first | omega | (simp; done) | (simp; omega))) | go_size))⟩
            case round =>
              clear hO hR HT1 hbq
              obtain ⟨i, vs, rs, rfl, hi0, hin, hgi, hO, hR, HT2, hbq⟩ := hrel
              by_cases hlt : i < n
              · have hric : RI wr wB.heap.size A 0 cc := HRC.out.below hbq (Nat.le_refl _)
                have hsq := hbq.size
                have cl : wr.cell? ⟨gC, q, none⟩ = some (.slice A 0 c) := (World.cell?_of_block (a := ⟨gC, q, none⟩) (hbq.block gC (by have := HGC.out.2; omega))).trans HCL.out
                have hvl : vs.length ≤ 1000000 := by
                  have h1 := hR.1
                  have h2 := congrArg List.length HT2.out
                  rw [List.length_append] at h2
                  have h3 := HTL.out
                  omega
                have HT3 : Hid ((rs ++ [cc ++ [i]]) ++ (extL n cc (i + 1) ++ rest) = T) := Lib.hid (by
                  have := HT2.out
                  rw [extL_yes hlt] at this
                  rw [← this]
                  simp)
                have hRC := Lib.hid hric
                clear hric HT2
                have hgCs : gC < wr.heap.size := by have := HGC.out.2; omega
                have hob0 : OR (wr.alloc (.cells #[] 3)) wr.heap.size (.slice (some ⟨wr.heap.size, 0, none⟩) 0 0) [] := OR.empty' _ _ rfl (Nat.le_refl _)
                go_wp2_with (at_builtin; refine wpList_append_ints _ rfl (.tmp 43) (.tmp 47) rfl wr.heap.size _ [] rfl ?c1 wB.heap.size A 0 c cc rfl ?c2 ?c3 ?c4 ?_)
                case c1 => exact hob0
                case c2 => exact hRC.out.alloc hsq _
                case c3 => first | omega | (simp; omega) | (simp; done)
                case c4 => simp
                intro v1 w1 hown1 hgr1 hat1
                (try rw [List.nil_append] at hown1)
                have hb1 : Below wr.heap.size wr w1 := Below.trans (Below.alloc (Below.refl _ _) (Nat.le_refl _) _) (only_below hgr1 (by simp) (fun g e => by cases e; exact Nat.le_refl _))
                obtain ⟨A1, c1, rfl⟩ := hown1.shapeC
                clear hgr1 hat1 hob0
                go_wp2_with (at_builtin; refine wpList_append_one _ rfl (.tmp 48) (.tmp 50) rfl wr.heap.size _ cc rfl (hown1.alloc _) _ i rfl ?d1 ?d2 ?d3 ?_)
                case d1 => simp [go_sem]
                case d2 => omega
                case d3 => have := hb1.size; simp; omega
                intro v2 w2 hown2 hgr2 hat2
                have hb2 : Below wr.heap.size wr w2 := Below.trans (Below.alloc hb1 hb1.size _) ((hown1.alloc (.cells #[.int .i64 i] 3)).below_grown hgr2 (by have := hb1.size; simp; omega))
                obtain ⟨A2, c2, rfl⟩ := hown2.shapeC
                have hl1 : (cc ++ [i]).length = cc.length + 1 := by simp
                rw [hl1] at hown2 hat2 ⊢
                obtain ⟨gA, rfl, hgA1, hgA2⟩ := hown2.begins (by simp)
                have hO2 := (hO.below hb2 (Nat.le_refl _))
                have hR2 := (hR.below hb2 (Nat.le_refl _))
                have hs2 := hb2.size
                clear hgr2 hat2 hown1 hb1
                go_wp2_with (at_builtin; refine wpList_append_slT _ rfl (.tmp 42) (.tmp 52) rfl wB.heap.size _ vs rfl (hO2.alloc _) _ (.slice (some ⟨gA, 0, none⟩) (cc.length + 1) c2) rfl rfl ?e1 ?e2 ?e3 ?_)
                case e1 => simp [go_sem]
                case e2 => omega
                case e3 => simp; omega
                intro v3 w3 hown3 hgr3 hat3
                have how3 := hown2.alloc (.cells #[.slice (some ⟨gA, 0, none⟩) (cc.length + 1) c2] 22)
                have how4 := how3.kept hgr3 (.inr (fun e => by have h2 := hO.own gA (by rw [← e]; rfl); omega))
                have hR3 := (hR2.below (w' := w2.alloc (.cells #[.slice (some ⟨gA, 0, none⟩) (cc.length + 1) c2] 22)) (D := w2.heap.size) (Below.alloc (Below.refl _ _) (Nat.le_refl _) _) (Nat.le_refl _)).grown (v' := v3) hgr3 (by simpa using hat3)
                have hR4 := hR3.snoc (c := c2) how4.reads (fun hm b o hA => by
                  injection hA with hA
                  injection hA with h1
                  subst h1
                  refine ⟨by omega, ?_⟩
                  rcases hat3 with e | e
                  · rw [e]; intro e2; have := (hO.own _ e2).2; omega
                  · rw [e]; intro e2; injection e2 with e2; (try simp at e2); omega)
                have hbw3 : Below wB.heap.size wB w3 := (hbq.trans (hb2.mono (by omega))).trans (Below.trans (Below.alloc (Below.refl _ _) (by omega) _) (only_below hgr3 (by simp; omega) (fun g e => (hO.own g e).1)))
                clear hgr3 hat3 hO hR hbq hown2 hO2 hR2 how3 how4 hR3 hb2
                go_wp2_with fail
                go_roundg (gk - 1)
                case measure => omega
                case rel => exact ⟨i + 1, _, _, by go_num, by omega, by omega, by omega, hown3, hR4, HT3, hbw3⟩
              · have HT3 : Hid (rs ++ (L.drop (q + 1)).flatMap (fun c => extL n c (frm c)) = T) := Lib.hid (by
                  have := HT2.out
                  rw [extL_no hlt, List.nil_append] at this
                  rw [HREST.out]
                  exact this)
                clear HT2
                go_wp2_with fail
                go_roundg (gO - 1)
                case measure => omega
                case rel => exact ⟨q + 1, vs, rs, by go_num, by omega, by omega, hO, hR, HT3, hbq⟩
          · have hkp : 0 < p := by omega
            have hric : RI wr wB.heap.size A m cc := HRC.out.below hbq (Nat.le_refl _)
            obtain ⟨b, o, rfl, hbb, hcells⟩ := hric.2 (by omega)
            have cx := hcells (p - 1) (by omega)
            have HFX := Lib.hid (HF1.out hkp)
            have hx := HFX.out
            rw [hx] at hf1 hf2 HT1
            generalize hxx : cc.getD (p - 1) 0 = x at *
            have hxx2 := Lib.hid hxx
            clear hxx
            have hm1 : IntKind.i64.wrap ((p : Int) - 1) = (p : Int) - 1 := IntWalk.i64_in _ (by omega)
            have hm2 : 0 ≤ (p : Int) - 1 ∧ (p : Int) - 1 < (m : Int) := by omega
            have hp0 : decide (0 < p) = true := by simp; omega
            clear hx hcells hric hck hml HF0 HF1 hkp hk0
            go_wp2_with fail
            obtain ⟨wo2, rfl⟩ : ∃ wo : World, wo = wr := ⟨_, rfl⟩
            go_loopg [7, 10] (n + 2) (fun gn vo u wq => ∃ (i : Int) (vs : List Value) (rs : List (List Int)), u = .int .i64 i ∧ 0 ≤ i ∧ i ≤ n ∧ ((n : Int) - i).toNat < gn ∧ OT wq wB.heap.size vo vs ∧ Rwx wq wB.heap.size vo vs rs ∧ Hid (rs ++ (extL n cc i ++ rest) = T) ∧ Below wB.heap.size wB wq)
            case atStart => exact ⟨x + 1, vs, rs, rfl, hf1, hf2, by omega, by first | exact hO | exact hO.drewN _, by first | exact hR, HT1, by (repeat (first | (with_reducible exact Below.refl _ _) | (with_reducible assumption) | (with_reducible refine below_drewN ?_ _) | (with_reducible refine Below.drew ?_) | (with_reducible refine Below.alloc ?_ ?_ _) | (with_reducible refine Below.setCell ?_ ?_ _) | (with_reducible refine below_into ?_ (by assumption) (by first | omega | (simp; done) | (simp; omega))) | go_size))⟩
            case round =>
              clear hO hR HT1 hbq
              obtain ⟨i, vs, rs, rfl, hi0, hin, hgi, hO, hR, HT2, hbq⟩ := hrel
              by_cases hlt : i < n
              · have hric : RI wr wB.heap.size (some ⟨b, o, none⟩) m cc := HRC.out.below hbq (Nat.le_refl _)
                have hsq := hbq.size
                have cl : wr.cell? ⟨gC, q, none⟩ = some (.slice (some ⟨b, o, none⟩) m c) := (World.cell?_of_block (a := ⟨gC, q, none⟩) (hbq.block gC (by have := HGC.out.2; omega))).trans HCL.out
                have hvl : vs.length ≤ 1000000 := by
                  have h1 := hR.1
                  have h2 := congrArg List.length HT2.out
                  rw [List.length_append] at h2
                  have h3 := HTL.out
                  omega
                have HT3 : Hid ((rs ++ [cc ++ [i]]) ++ (extL n cc (i + 1) ++ rest) = T) := Lib.hid (by
                  have := HT2.out
                  rw [extL_yes hlt] at this
                  rw [← this]
                  simp)
                have hRC := Lib.hid hric
                clear hric HT2
                have hgCs : gC < wr.heap.size := by have := HGC.out.2; omega
                have hob0 : OR (wr.alloc (.cells #[] 3)) wr.heap.size (.slice (some ⟨wr.heap.size, 0, none⟩) 0 0) [] := OR.empty' _ _ rfl (Nat.le_refl _)
                go_wp2_with (at_builtin; refine wpList_append_ints _ rfl (.tmp 43) (.tmp 47) rfl wr.heap.size _ [] rfl ?c1 wB.heap.size (some ⟨b, o, none⟩) m c cc rfl ?c2 ?c3 ?c4 ?_)
                case c1 => exact hob0
                case c2 => exact hRC.out.alloc hsq _
                case c3 => first | omega | (simp; omega) | (simp; done)
                case c4 => simp
                intro v1 w1 hown1 hgr1 hat1
                (try rw [List.nil_append] at hown1)
                have hb1 : Below wr.heap.size wr w1 := Below.trans (Below.alloc (Below.refl _ _) (Nat.le_refl _) _) (only_below hgr1 (by simp) (fun g e => by cases e; exact Nat.le_refl _))
                obtain ⟨A1, c1, rfl⟩ := hown1.shapeC
                clear hgr1 hat1 hob0
                go_wp2_with (at_builtin; refine wpList_append_one _ rfl (.tmp 48) (.tmp 50) rfl wr.heap.size _ cc rfl (hown1.alloc _) _ i rfl ?d1 ?d2 ?d3 ?_)
                case d1 => simp [go_sem]
                case d2 => omega
                case d3 => have := hb1.size; simp; omega
                intro v2 w2 hown2 hgr2 hat2
                have hb2 : Below wr.heap.size wr w2 := Below.trans (Below.alloc hb1 hb1.size _) ((hown1.alloc (.cells #[.int .i64 i] 3)).below_grown hgr2 (by have := hb1.size; simp; omega))
                obtain ⟨A2, c2, rfl⟩ := hown2.shapeC
                have hl1 : (cc ++ [i]).length = cc.length + 1 := by simp
                rw [hl1] at hown2 hat2 ⊢
                obtain ⟨gA, rfl, hgA1, hgA2⟩ := hown2.begins (by simp)
                have hO2 := (hO.below hb2 (Nat.le_refl _))
                have hR2 := (hR.below hb2 (Nat.le_refl _))
                have hs2 := hb2.size
                clear hgr2 hat2 hown1 hb1
                go_wp2_with (at_builtin; refine wpList_append_slT _ rfl (.tmp 42) (.tmp 52) rfl wB.heap.size _ vs rfl (hO2.alloc _) _ (.slice (some ⟨gA, 0, none⟩) (cc.length + 1) c2) rfl rfl ?e1 ?e2 ?e3 ?_)
                case e1 => simp [go_sem]
                case e2 => omega
                case e3 => simp; omega
                intro v3 w3 hown3 hgr3 hat3
                have how3 := hown2.alloc (.cells #[.slice (some ⟨gA, 0, none⟩) (cc.length + 1) c2] 22)
                have how4 := how3.kept hgr3 (.inr (fun e => by have h2 := hO.own gA (by rw [← e]; rfl); omega))
                have hR3 := (hR2.below (w' := w2.alloc (.cells #[.slice (some ⟨gA, 0, none⟩) (cc.length + 1) c2] 22)) (D := w2.heap.size) (Below.alloc (Below.refl _ _) (Nat.le_refl _) _) (Nat.le_refl _)).grown (v' := v3) hgr3 (by simpa using hat3)
                have hR4 := hR3.snoc (c := c2) how4.reads (fun hm b o hA => by
                  injection hA with hA
                  injection hA with h1
                  subst h1
                  refine ⟨by omega, ?_⟩
                  rcases hat3 with e | e
                  · rw [e]; intro e2; have := (hO.own _ e2).2; omega
                  · rw [e]; intro e2; injection e2 with e2; (try simp at e2); omega)
                have hbw3 : Below wB.heap.size wB w3 := (hbq.trans (hb2.mono (by omega))).trans (Below.trans (Below.alloc (Below.refl _ _) (by omega) _) (only_below hgr3 (by simp; omega) (fun g e => (hO.own g e).1)))
                clear hgr3 hat3 hO hR hbq hown2 hO2 hR2 how3 how4 hR3 hb2
                go_wp2_with fail
                go_roundg (gk - 1)
                case measure => omega
                case rel => exact ⟨i + 1, _, _, by go_num, by omega, by omega, by omega, hown3, hR4, HT3, hbw3⟩
              · have HT3 : Hid (rs ++ (L.drop (q + 1)).flatMap (fun c => extL n c (frm c)) = T) := Lib.hid (by
                  have := HT2.out
                  rw [extL_no hlt, List.nil_append] at this
                  rw [HREST.out]
                  exact this)
                clear HT2
                go_wp2_with fail
                go_roundg (gO - 1)
                case measure => omega
                case rel => exact ⟨q + 1, vs, rs, by go_num, by omega, by omega, hO, hR, HT3, hbq⟩
        · have HT2 : Hid (rs = T) := Lib.hid (by
            have := HT1.out
            rw [List.drop_of_length_le (by omega)] at this
            simpa using this)
          have hbb := hbS.trans (hbq.mono hsS)
          go_wp2_with fail
          go_roundg (gP - 1)
          case measure => omega
          case rel =>
            refine ⟨p + 1, vs, by go_num, by omega, by omega, hO.more hsS, ?_, hbb⟩
            rw [← HTD.out, ← HT2.out]
            exact hR.more hsS
    · obtain rfl : p = k := by omega
      go_wp2_with fail
      go_ret
      exact ⟨_, _, _, vsc, rfl, hOc, hRc, hbS⟩
end Go.Proofs.Ytpecjobpihinoaa

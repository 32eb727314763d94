/-
  DERIVED. The law FnRowOps: operations on rows are undone from the last to the first, and are what a product with a unimodular matrix does.
-/
import Derived.Test.YtlggfmfelakadaaDrRox
import Derived.Test.YtlggfmfelakadaaX1
import Derived.Test.YtlggfmfelakadaaIrtx
import Derived.Test.YtlggfmfelakadaaSmsx
import Derived.Test.YtlggfmfelakadaaMulx
import Derived.Test.YtlggfmfelakadaaX5
namespace Go.Proofs.Ytlggfmfelakadaa
open Go.RowKit
set_option linter.unusedVariables false
set_option linter.unusedSimpArgs false
theorem dtO_Dtr {r c x : Int} {ys : List Int} (h : dtO r c ys = some x) : ∃ R : Nat, r = R ∧ c = R ∧ x = Dt R (fun i j => cel ys R i j) := by
  unfold dtO at h
  split at h
  · rename_i hs
    obtain ⟨hm, he, -⟩ := isSq_iff.1 hs
    subst he
    obtain ⟨R, rfl⟩ := nat_of hm.r0
    simp only [Int.toNat_natCast] at h
    have hl := hm.len
    rw [← Int.natCast_mul] at hl
    exact ⟨R, rfl, rfl, detL_Dt R ys x (by omega) h⟩
  · cases h
theorem ops_unit {R : Nat} {l : List Rop} {u : Fn2} (h : doXs R R idF l = some u) : ∀ d, dtO R R (tb R R u) = some d → d = 1 ∨ d = -1 := fun d hd => by
  obtain ⟨R', hR, -, rfl⟩ := dtO_Dtr hd
  obtain rfl : R = R' := by omega
  have := Dt_ops l h (.inl (Dt_id R))
  rwa [← Dt_congr R (f := fun i j => cel (tb R R u) R i j) (g := u) fun i j hi hj => cel_tb hi hj] at this
theorem ops_valid {R C : Nat} : ∀ (l : List Rop) {f g : Fn2}, doXs R C f l = some g → ∀ x ∈ l, ropB R x = true
  | [], f, g, h, x, hx => by cases hx
  | y :: l, f, g, h, x, hx => by
    rw [doXs_cons] at h
    rcases h1 : doX R C f y with _ | g1
    · rw [h1] at h; cases h
    · rw [h1] at h
      rcases List.mem_cons.1 hx with rfl | hx
      · exact (doX_some h1).1
      · exact ops_valid l h x hx
theorem rop_t {R : Int} {x : Rop} (h : ropB R x = true) : -4000000000 ≤ x.t ∧ x.t ≤ 4000000000 := by
  obtain ⟨k, i, j, t⟩ := x
  have := ((ropB_iff R k i j t).1 h).1
  show -4000000000 ≤ t ∧ t ≤ 4000000000
  omega
theorem ops_step {R : Nat} {x : Rop} {l : List Rop} {f u : Fn2} (h : doXs R R f (x :: l) = some u) : ∃ g, doX R R f x = some g ∧ doXs R R g l = some u := by
  rw [doXs_cons] at h
  rcases h1 : doX R R f x with _ | g1
  · rw [h1] at h; cases h
  · rw [h1] at h; exact ⟨g1, rfl, h⟩
theorem sameB_refl (r c : Int) (xs : List Int) : sameB r c xs r c xs = true := by simp [sameB, eqB]
/-- What the product answers, where it fits. -/
theorem mul_fits {R C : Nat} {f u g : Fn2} {l : List Rop} (h1 : doXs R R idF l = some u) (h2 : doXs R C f l = some g) : mulB R R (tb R R u) R C (tb R C f) = false ∨ mulM R R (tb R R u) R C (tb R C f) = ⟨R, C, tb R C g⟩ := by
  rcases hb : mulB R R (tb R R u) R C (tb R C f) with _ | _
  · exact .inl rfl
  · refine .inr ?_
    unfold mulM
    rw [hb, if_pos rfl]
    simp only [Int.toNat_natCast]
    rw [mul_all h1 h2]
theorem mulM_lenR (r c : Int) (xs : List Int) (r2 c2 : Int) (ys : List Int) : (mulM r c xs r2 c2 ys).xs.length ≤ 1048576 := by
  unfold mulM
  split
  · rename_i h
    unfold mulB at h
    rw [Bool.and_eq_true] at h
    have M := isMat_iff.1 h.2
    have h1 := M.r1; have h2 := M.c1; have h3 := M.r0; have h4 := M.c0
    obtain ⟨R, rfl⟩ := nat_of h3
    obtain ⟨C, rfl⟩ := nat_of h4
    show (mulL xs (R : Int).toNat c.toNat ys (C : Int).toNat).length ≤ _
    rw [mulL_len]
    simp only [Int.toNat_natCast]
    have := Nat.mul_le_mul (show R ≤ 24 by omega) (show C ≤ 24 by omega)
    omega
  · exact Nat.zero_le _
set_option maxRecDepth 100000 in
set_option maxHeartbeats 16000000 in
theorem law_FnRowOps (w : World) (A : Option Addr) (n cap : Nat) (xs : List Int) (hnc : n ≤ cap) (hcm : cap ≤ maxLen) (hby : RB w w.heap.size A n xs) :
    Calls Try.prog 3 #[.slice A n cap] w fun e w' => e = .returned (.bool true) ∧ Below w.heap.size w w' := by
  by_cases hn : 1048576 < n
  · go_enter Try.func3, Try.ntmps3
    go_wp2_with (go_at_call 7; refine (laws_big A n cap _).mono ?_; rintro e w1 ⟨rfl, rfl⟩)
    go_ret
    exact ⟨rfl, Below.refl _ _⟩
  · go_enter Try.func3, Try.ntmps3
    go_wp2_with (go_at_call 7; refine (laws_big A n cap _).mono ?_; rintro e w1 ⟨rfl, rfl⟩)
    refine (spec_DrawDoRowOps n cap A xs _ hby (by omega)).mono ?_
    rintro e w1 ⟨r, c, A1, n1, c1, ys, Al, cl, l, rfl, ho1, hol, hl1, hl2, hr1, hbw0⟩
    have hsz := hbw0.size
    have e1 := ho1.lenEq
    have n1x : n1 ≤ 17 := by omega
    have H1 : Hid (RI (w1.alloc (.cells #[.int .i64 r, .int .i64 c, .slice A1 n1 c1] 26)) (w1.alloc (.cells #[.int .i64 r, .int .i64 c, .slice A1 n1 c1] 26)).heap.size A1 n1 ys) := Lib.hid ((ho1.alloc _).reads)
    have HL : Hid (RL (w1.alloc (.cells #[.int .i64 r, .int .i64 c, .slice A1 n1 c1] 26)) (w1.alloc (.cells #[.int .i64 r, .int .i64 c, .slice A1 n1 c1] 26)).heap.size Al l.length l) := Lib.hid ((hol.alloc _).rl)
    have hM : BM (w1.alloc (.cells #[.int .i64 r, .int .i64 c, .slice A1 n1 c1] 26)) w1.heap.size r c A1 n1 c1 := Ka
    have HB0 : Hid (Below w.heap.size w (w1.alloc (.cells #[.int .i64 r, .int .i64 c, .slice A1 n1 c1] 26))) := Lib.hid (hbw0.alloc hsz _)
    obtain ⟨nl, hnl⟩ : ∃ q, l.length = q := ⟨_, rfl⟩
    rw [hnl] at HL hl2 ⊢
    have HNL := Lib.hid hnl
    clear hbw0 ho1 hol hby e1 hnl
    obtain ⟨ma, mb, mc, mf, ml⟩ := hM.mx
    go_wp2_with fail
    generalize (w1.alloc (.cells #[.int .i64 r, .int .i64 c, .slice A1 n1 c1] 26)) = w0 at *
    generalize w1.heap.size = bM at *
    have hbw : Below w0.heap.size w0 w0 := Below.refl _ _
    have hs0 : w.heap.size ≤ w0.heap.size := by have := HB0.out.size; omega
    have hlM := hM.lt
    clear hsz
    rcases hm : isMat r c ys with _ | _
    · refine (impl_DoRowOps_no r c A1 Al n1 c1 nl cl ys _ H1.out (Nat.le_refl _) (by omega) hm).mono ?_
      rw [show (Mx.none) = ⟨0, 0, []⟩ from rfl]
      clear hm
      rintro e w2 ⟨A2, n2, c2, rfl, ho2, hb2⟩
      have hn2 := ho2.lenEq
      have hsz2 := hb2.size
      (try simp at hsz2)
      have hbw2 : Below w0.heap.size w0 w2 := Kw
      have hri2 : RI (w2.alloc (.cells #[.int .i64 0, .int .i64 0, .slice A2 n2 c2] 26)) (w2.alloc (.cells #[.int .i64 0, .int .i64 0, .slice A2 n2 c2] 26)).heap.size A2 n2 [] := OR.reads (OR.alloc (xs := []) ho2 _)
      have hn3 : n2 ≤ 1048576 := by rw [hn2]; exact Nat.zero_le _
      have hsame := sameB_refl 0 0 []
      have HSM := Lib.hid hsame
      clear hn2 hsame ho2 hb2
      go_wp2_with fail
      refine (impl_SameMatrix 0 0 0 0 A2 none n2 c2 0 0 [] [] _ hri2 (RI.nil_ _ _ _) (Nat.le_refl _) (Nat.le_refl _) hn3 (by omega)).mono ?_
      rw [HSM.out]
      rintro e w3 ⟨rfl, hb3⟩
      have hsz3 := hb3.size
      (try simp at hsz3)
      have hbw3 : Below w0.heap.size w0 w3 := Kw
      go_wp2_with fail
      go_ret
      exact ⟨rfl, HB0.out.trans (Below.mono (B := w0.heap.size) Kw hs0)⟩
    · have M := isMat_iff.1 hm
      obtain ⟨R, rfl⟩ := nat_of M.r0
      obtain ⟨C, rfl⟩ := nat_of M.c0
      have hR24 : R ≤ 24 := by have := M.r1; omega
      have hC24 : C ≤ 24 := by have := M.c1; omega
      have hlen := M.len
      rw [← Int.natCast_mul] at hlen
      have htb : ys = tb R C (fun i j => cel ys C i j) := tb_of (by omega)
      have hok : OKF R C (fun i j => cel ys C i j) := fun i j _ _ => M.cel_bd i j
      obtain ⟨f, hf⟩ : ∃ f : Fn2, (fun i j => cel ys (C : Int) (i : Nat) (j : Nat)) = f := ⟨_, rfl⟩
      rw [hf] at htb hok
      rw [htb] at H1
      have HOK := Lib.hid hok
      clear hf htb hok M hm hl1 hlen
      rcases hX : doXs R C f l with _ | g
      · refine (impl_DoRowOps R C A1 Al n1 c1 nl cl f l _ H1.out HL.out (Nat.le_refl _) (Nat.le_refl _) HOK.out hR24 hC24 (by omega)).mono ?_
        rw [hX, show doM R C none = ⟨0, 0, []⟩ from rfl]
        clear hX
        rintro e w2 ⟨A2, n2, c2, rfl, ho2, hb2⟩
        have hn2 := ho2.lenEq
        have hsz2 := hb2.size
        (try simp at hsz2)
        have hbw2 : Below w0.heap.size w0 w2 := Kw
        have hri2 : RI (w2.alloc (.cells #[.int .i64 0, .int .i64 0, .slice A2 n2 c2] 26)) (w2.alloc (.cells #[.int .i64 0, .int .i64 0, .slice A2 n2 c2] 26)).heap.size A2 n2 [] := OR.reads (OR.alloc (xs := []) ho2 _)
        have hn3 : n2 ≤ 1048576 := by rw [hn2]; exact Nat.zero_le _
        have hsame := sameB_refl 0 0 []
        have HSM := Lib.hid hsame
        clear hn2 hsame ho2 hb2
        go_wp2_with fail
        refine (impl_SameMatrix 0 0 0 0 A2 none n2 c2 0 0 [] [] _ hri2 (RI.nil_ _ _ _) (Nat.le_refl _) (Nat.le_refl _) hn3 (by omega)).mono ?_
        rw [HSM.out]
        rintro e w3 ⟨rfl, hb3⟩
        have hsz3 := hb3.size
        (try simp at hsz3)
        have hbw3 : Below w0.heap.size w0 w3 := Kw
        go_wp2_with fail
        go_ret
        exact ⟨rfl, HB0.out.trans (Below.mono (B := w0.heap.size) Kw hs0)⟩
      · have HXG := Lib.hid hX
        refine (impl_DoRowOps R C A1 Al n1 c1 nl cl f l _ H1.out HL.out (Nat.le_refl _) (Nat.le_refl _) HOK.out hR24 hC24 (by omega)).mono ?_
        rw [hX, show doM R C (some g) = ⟨R, C, tb R C g⟩ from rfl]
        clear hX
        have hRC : R * C ≤ 24 * 24 := Nat.mul_le_mul hR24 hC24
        have hRR : R * R ≤ 24 * 24 := Nat.mul_le_mul hR24 hR24
        rintro e w2 ⟨A2, n2, c2, rfl, ho2, hb2⟩
        have hz_ := hb2.size
        (try simp at hz_)
        have hzq : w0.heap.size ≤ w2.heap.size := by omega
        have hn_ := OR.lenEq (xs := tb R C g) ho2
        rw [tb_len] at hn_
        have n2x : n2 ≤ 1048576 := by omega
        have hN : BM (w2.alloc (.cells #[.int .i64 R, .int .i64 C, .slice A2 n2 c2] 26)) w2.heap.size R C A2 n2 c2 := Ka
        have HN : Hid (RI (w2.alloc (.cells #[.int .i64 R, .int .i64 C, .slice A2 n2 c2] 26)) (w2.alloc (.cells #[.int .i64 R, .int .i64 C, .slice A2 n2 c2] 26)).heap.size A2 n2 (tb R C g)) := Lib.hid (OR.reads (OR.alloc (xs := tb R C g) ho2 _))
        have hbW : Below w0.heap.size w0 (w2.alloc (.cells #[.int .i64 R, .int .i64 C, .slice A2 n2 c2] 26)) := Kw
        have hzW : w2.heap.size < (w2.alloc (.cells #[.int .i64 R, .int .i64 C, .slice A2 n2 c2] 26)).heap.size := by simp
        clear ho2 hb2 hn_
        have hM_1 := BX.below hM hbW (by omega); have H1_1 := Lib.hid (RI.below H1.out hbW (by omega)); have HL_1 := Lib.hid (RL.below HL.out hbW (by omega)); (try have hX_1 := BX.below hX hbW (by omega)); (try have HX_1 := Lib.hid (RI.below HX.out hbW (by omega))); (try have hK_1 := BX.below hK hbW (by omega)); (try have HK_1 := Lib.hid (RI.below HK.out hbW (by omega))); (try have hU_1 := BX.below hU hbW (by omega)); (try have HU_1 := Lib.hid (RI.below HU.out hbW (by omega))); (try have hY_1 := BX.below hY hbW (by omega)); (try have HY_1 := Lib.hid (RI.below HY.out hbW (by omega))); clear hM H1 HL; (try clear hX); (try clear HX); (try clear hK); (try clear HK); (try clear hU); (try clear HU); (try clear hY); (try clear HY); (try clear ma mb mc mf ml); (try clear xa xb xc xf xl); (try clear ka kb kc kf kl); (try clear ua ub uc uf ul); (try clear ya yb yc yf yl); have hM := hM_1; have H1 := H1_1; have HL := HL_1; (try have hX := hX_1); (try have HX := HX_1); (try have hK := hK_1); (try have HK := HK_1); (try have hU := hU_1); (try have HU := HU_1); (try have hY := hY_1); (try have HY := HY_1); clear hM_1 H1_1 HL_1; (try clear hX_1); (try clear HX_1); (try clear hK_1); (try clear HK_1); (try clear hU_1); (try clear HU_1); (try clear hY_1); (try clear HY_1); obtain ⟨ma, mb, mc, mf, ml⟩ := hM.mx; (try obtain ⟨xa, xb, xc, xf, xl⟩ := hX.mx); (try obtain ⟨ka, kb, kc, kf, kl⟩ := hK.mx); (try obtain ⟨ua, ub, uc, uf, ul⟩ := hU.mx); (try obtain ⟨ya, yb, yc, yf, yl⟩ := hY.mx)
        have hbw_1 : Below w0.heap.size w0 _ := hbw.trans (Below.mono hbW (by omega))
        clear hbw hbW
        have hbw := hbw_1
        clear hbw_1
        have hX := hN
        have HX := HN
        clear hN HN
        obtain ⟨xa, xb, xc, xf, xl⟩ := hX.mx
        go_upto_region 7 with fail
        generalize (w2.alloc (.cells #[.int .i64 R, .int .i64 C, .slice A2 n2 c2] 26)) = v2 at *
        generalize w2.heap.size = bX at *
        have HT : Hid (∀ x ∈ l, -4000000000 ≤ x.t ∧ x.t ≤ 4000000000) := Lib.hid (fun x hx => rop_t (ops_valid l HXG.out x hx))
        have HUN : Hid (doXs R C g (undos l) = some f) := Lib.hid (doXs_undo l HOK.out HXG.out)
        have HOG : Hid (OKF R C g) := Lib.hid (OKF.ops l HOK.out HXG.out)
        have hlX := hX.lt
        go_cut [7, 8] from 38 (fun vp vb wc => ∃ (bK : Nat) (A3 : Option Addr) (n3 c3 : Nat), vp = .pointer (some ⟨bK, 0, none⟩) ∧ vb = .bool true ∧ n3 ≤ 1048576 ∧ BM wc bK R C A3 n3 c3 ∧ RI wc wc.heap.size A3 n3 (tb R C f) ∧ Below v2.heap.size v2 wc ∧ v2.heap.size ≤ bK ∧ bK < wc.heap.size)
        case first =>
          have hX0 := hX
          have ne1 : ¬ bX = v2.heap.size := by omega
          have ne2 : ¬ v2.heap.size = bX := by omega
          ((refine wp_region_held_drew (S := (fun w' => w'.cell? ⟨bX, 0, none⟩ = some (.int .i64 R) ∧ w'.cell? ⟨bX, 1, none⟩ = some (.int .i64 C) ∧ w'.cell? ⟨bX, 2, none⟩ = some (.slice A2 n2 c2))) (by kernel_rfl) ?_ (fun hHeld => ?_)); ((focus ((try dsimp only); ((first | (go_keep; done) | exact ⟨xa, xb, xc⟩))))); ((refine tk_ (i := 0) (v := ?_) (y := Or.inl ⟨by rfl, ?_⟩) (h := ?_); rotate_left; (focus (((intro w hSw; (try dsimp only at hSw); go_simp) <;> (try with_reducible rfl)); done)); (try simp only [Act.put, p1_, p2_, p3_]))); ((refine tk_ (i := 1) (v := ?_) (y := Or.inl ⟨by rfl, ?_⟩) (h := ?_); rotate_left; (focus (((intro w hSw; (try dsimp only at hSw); go_simp) <;> (try with_reducible rfl)); done)); (try simp only [Act.put, p1_, p2_, p3_]))); (refine wpAnyH_ready (rs := [2, 7]) (by kernel_rfl) (by simp) ?_); (refine AllReadyH.cons (by simp only [e1_, e2_, e3_]; try rfl) ?_ ?_); ((focus ((intro K hK); (go_simp); ((go_at_call 11; refine (impl_UndoRowOps Al nl cl l _ (B := w0.heap.size) (RL.below (C := v2.heap.size) HL.out Kw (by omega)) Ks (by omega) HT.out).mono ?_; rintro e w7 ⟨A7, m7, c7, rfl, ho7, hb7⟩; have hm7 : m7 ≤ 40 := (by have q := ho7.lenEq; rw [undos_len, HNL.out] at q; omega); have HR7 : Hid (RL w7 w7.heap.size A7 m7 (undos l)) := Lib.hid ho7.rl; have hx7 := hb7.size; (try simp at hx7); have hcur : Below v2.heap.size v2 w7 := Kw; clear ho7; clear hb7; (have hX_1 := BX.below hX0 hcur (by omega)); clear hX xa xb xc xf xl; (have hX := hX_1); clear hX_1; obtain ⟨xa, xb, xc, xf, xl⟩ := hX.mx)); ((try go_wp2_with fail)); (refine hK.out _ _ ?_ (fun hHeld => ?_)); ((focus ((try dsimp only); ((first | (go_keep; done) | exact ⟨xa, xb, xc⟩))))); (clear hK K); ((try simp only [Act.put, p1_, p2_, p3_])); (refine wpAnyH_ready (rs := [3, 7]) (by kernel_rfl) (by simp) ?_); (refine AllReadyH.cons (by simp only [e1_, e2_, e3_]; try rfl) ?_ ?_); ((focus ((intro K hK); (go_simp); ((go_at_call 9; refine (impl_DoRowOps R C A2 A7 n2 c2 m7 c7 g (undos l) _ (B := v2.heap.size) (B' := w7.heap.size) (RI.below (C := v2.heap.size) HX.out Kw (Nat.le_refl _)) (RL.below (C := w7.heap.size) HR7.out Kw (Nat.le_refl _)) Ks Ks HOG.out hR24 hC24 hm7).mono ?_; rw [HUN.out, show doM R C (some f) = ⟨R, C, tb R C f⟩ from rfl]; rintro e w8 ⟨A8, n8, c8, rfl, ho8, hb8⟩; have hx8 := hb8.size; (try simp at hx8); have hn8 := OR.lenEq (xs := tb R C f) ho8; rw [tb_len] at hn8; have hn8x : n8 ≤ 1048576 := (by omega); have kO := OR.own (xs := tb R C f) ho8; (try simp at kO); have ho8_ : OR w8 0 (.slice A8 n8 c8) (tb R C f) := OR.mono (xs := tb R C f) ho8 (Nat.zero_le _); have hcur8 : Below v2.heap.size v2 w8 := Kw; clear ho8 hn8; have nx1 : ¬ bX = w8.heap.size := (by omega); have nx2 : ¬ w8.heap.size = bX := (by omega); have k9 : ¬ Value.ownBlock (.slice A8 n8 c8) = some w8.heap.size := (fun e => by have := kO _ e; omega); clear kO; clear hb8; (have hX_1 := BX.below hX0 hcur8 (by omega)); clear hX xa xb xc xf xl hcur; (have hX := hX_1); clear hX_1; (have hcur := hcur8); clear hcur8; obtain ⟨xa, xb, xc, xf, xl⟩ := hX.mx)); ((try go_wp2_with fail)); (refine hK.out _ _ ?_ (fun hHeld => ?_)); ((focus ((try dsimp only); ((first | (go_keep; done) | exact ⟨xa, xb, xc⟩))))); (clear hK K); ((try simp only [Act.put, p1_, p2_, p3_])); ((refine tk_ (i := 4) (v := ?_) (y := Or.inl ⟨by rfl, ?_⟩) (h := ?_); rotate_left; (focus (((intro w hSw; (try dsimp only at hSw); go_simp) <;> (try with_reducible rfl)); done)); (try simp only [Act.put, p1_, p2_, p3_]))); ((refine tk_ (i := 5) (v := ?_) (y := Or.inl ⟨by rfl, ?_⟩) (h := ?_); rotate_left; (focus (((intro w hSw; (try dsimp only at hSw); go_simp) <;> (try with_reducible rfl)); done)); (try simp only [Act.put, p1_, p2_, p3_]))); ((refine tk_ (i := 6) (v := ?_) (y := Or.inl ⟨by rfl, ?_⟩) (h := ?_); rotate_left; (focus (((intro w hSw; (try dsimp only at hSw); go_simp) <;> (try with_reducible rfl)); done)); (try simp only [Act.put, p1_, p2_, p3_]))); (refine wpAnyH_ready (rs := [7]) (by kernel_rfl) (by simp) ?_); (refine AllReadyH.cons (by simp only [e1_, e2_, e3_]; try rfl) ?_ ?_); ((focus ((intro K hK); (go_simp); ((try go_wp2_with fail)); (refine hK.out _ _ ?_ (fun hHeld => ?_)); ((focus ((try dsimp only); ((first | (go_keep; done) | exact ⟨xa, xb, xc⟩))))); (clear hK K); ((try simp only [Act.put, p1_, p2_, p3_])); (refine wpAnyH_ready (rs := [8]) (by kernel_rfl) (by simp) ?_); (refine AllReadyH.cons (by simp only [e1_, e2_, e3_]; try rfl) ?_ ?_); ((focus ((intro K hK); (go_simp); ((try go_wp2_with fail)); (refine hK.out _ _ ?_ (fun hHeld => ?_)); ((focus ((try dsimp only); ((first | (go_keep; done) | exact ⟨xa, xb, xc⟩))))); (clear hK K); ((try simp only [Act.put, p1_, p2_, p3_])); ((refine tk_ (i := 9) (v := ?_) (y := Or.inl ⟨by rfl, ?_⟩) (h := ?_); rotate_left; (focus (((intro w hSw; (try dsimp only at hSw); go_simp) <;> (try with_reducible rfl)); done)); (try simp only [Act.put, p1_, p2_, p3_]))); (refine wpAnyH_done (by kernel_rfl) ?_ _)))); (rotate_left 1); (exact AllReadyH.nil)))); (rotate_left 1); (exact AllReadyH.nil)))); (rotate_left 1); (refine AllReadyH.cons (by simp only [e1_, e2_, e3_]; try rfl) ?_ ?_); ((focus ((intro K hK); (go_simp); ((try go_wp2_with fail)); (refine hK.out _ _ ?_ (fun hHeld => ?_)); ((focus ((try dsimp only); ((first | (go_keep; done) | exact ⟨xa, xb, xc⟩))))); (clear hK K); ((try simp only [Act.put, p1_, p2_, p3_])); (refine wpAnyH_ready (rs := [3]) (by kernel_rfl) (by simp) ?_); (refine AllReadyH.cons (by simp only [e1_, e2_, e3_]; try rfl) ?_ ?_); ((focus ((intro K hK); (go_simp); ((go_at_call 9; refine (impl_DoRowOps R C A2 A7 n2 c2 m7 c7 g (undos l) _ (B := v2.heap.size) (B' := w7.heap.size) (RI.below (C := v2.heap.size) HX.out Kw (Nat.le_refl _)) (RL.below (C := w7.heap.size) HR7.out Kw (Nat.le_refl _)) Ks Ks HOG.out hR24 hC24 hm7).mono ?_; rw [HUN.out, show doM R C (some f) = ⟨R, C, tb R C f⟩ from rfl]; rintro e w8 ⟨A8, n8, c8, rfl, ho8, hb8⟩; have hx8 := hb8.size; (try simp at hx8); have hn8 := OR.lenEq (xs := tb R C f) ho8; rw [tb_len] at hn8; have hn8x : n8 ≤ 1048576 := (by omega); have kO := OR.own (xs := tb R C f) ho8; (try simp at kO); have ho8_ : OR w8 0 (.slice A8 n8 c8) (tb R C f) := OR.mono (xs := tb R C f) ho8 (Nat.zero_le _); have hcur8 : Below v2.heap.size v2 w8 := Kw; clear ho8 hn8; have h8 : B3 26 w8 w7.heap.size := (by refine B3.below ?_ hb8 Ks; (with_reducible (repeat (first | refine B3.n_ | exact B3.new _ _ _ _ _ _ rfl | refine B3.drew ?_ | refine B3.drewN ?_ _ | refine B3.alloc ?_ _)))); have nx1 : ¬ bX = w7.heap.size := (by omega); have nx2 : ¬ w7.heap.size = bX := (by omega); have k9 : ¬ Value.ownBlock (.slice A8 n8 c8) = some w7.heap.size := (fun e => by have := kO _ e; omega); clear kO; obtain ⟨y0, y1, y2, hy⟩ := id h8; have z0 := hy.cell 0; have z1 := hy.cell 1; have z2 := hy.cell 2; have zf := hy.frozen; have zl := hy.lt; simp at z0 z1 z2; clear hb8; (have hX_1 := BX.below hX0 hcur8 (by omega)); clear hX xa xb xc xf xl hcur; (have hX := hX_1); clear hX_1; (have hcur := hcur8); clear hcur8; obtain ⟨xa, xb, xc, xf, xl⟩ := hX.mx)); ((try go_wp2_with fail)); (refine hK.out _ _ ?_ (fun hHeld => ?_)); ((focus ((try dsimp only); ((first | (go_keep; done) | exact ⟨xa, xb, xc⟩))))); (clear hK K); ((try simp only [Act.put, p1_, p2_, p3_])); ((refine tk_ (i := 4) (v := ?_) (y := Or.inl ⟨by rfl, ?_⟩) (h := ?_); rotate_left; (focus (((intro w hSw; (try dsimp only at hSw); go_simp) <;> (try with_reducible rfl)); done)); (try simp only [Act.put, p1_, p2_, p3_]))); ((refine tk_ (i := 5) (v := ?_) (y := Or.inl ⟨by rfl, ?_⟩) (h := ?_); rotate_left; (focus (((intro w hSw; (try dsimp only at hSw); go_simp) <;> (try with_reducible rfl)); done)); (try simp only [Act.put, p1_, p2_, p3_]))); ((refine tk_ (i := 6) (v := ?_) (y := Or.inl ⟨by rfl, ?_⟩) (h := ?_); rotate_left; (focus (((intro w hSw; (try dsimp only at hSw); go_simp) <;> (try with_reducible rfl)); done)); (try simp only [Act.put, p1_, p2_, p3_]))); (refine wpAnyH_ready (rs := [8]) (by kernel_rfl) (by simp) ?_); (refine AllReadyH.cons (by simp only [e1_, e2_, e3_]; try rfl) ?_ ?_); ((focus ((intro K hK); (go_simp); ((try go_wp2_with fail)); (refine hK.out _ _ ?_ (fun hHeld => ?_)); ((focus ((try dsimp only); ((first | (go_keep; done) | exact ⟨xa, xb, xc⟩))))); (clear hK K); ((try simp only [Act.put, p1_, p2_, p3_])); ((refine tk_ (i := 9) (v := ?_) (y := Or.inl ⟨by rfl, ?_⟩) (h := ?_); rotate_left; (focus (((intro w hSw; (try dsimp only at hSw); go_simp) <;> (try with_reducible rfl)); done)); (try simp only [Act.put, p1_, p2_, p3_]))); (refine wpAnyH_done (by kernel_rfl) ?_ _)))); (rotate_left 1); (exact AllReadyH.nil)))); (rotate_left 1); (exact AllReadyH.nil)))); (rotate_left 1); (exact AllReadyH.nil)))); (rotate_left 2); (refine AllReadyH.cons (by simp only [e1_, e2_, e3_]; try rfl) ?_ ?_); ((focus ((intro K hK); (go_simp); ((try go_wp2_with fail)); (refine hK.out _ _ ?_ (fun hHeld => ?_)); ((focus ((try dsimp only); ((first | (go_keep; done) | exact ⟨xa, xb, xc⟩))))); (clear hK K); ((try simp only [Act.put, p1_, p2_, p3_])); (refine wpAnyH_ready (rs := [2]) (by kernel_rfl) (by simp) ?_); (refine AllReadyH.cons (by simp only [e1_, e2_, e3_]; try rfl) ?_ ?_); ((focus ((intro K hK); (go_simp); ((go_at_call 11; refine (impl_UndoRowOps Al nl cl l _ (B := w0.heap.size) (RL.below (C := v2.heap.size) HL.out Kw (by omega)) Ks (by omega) HT.out).mono ?_; rintro e w7 ⟨A7, m7, c7, rfl, ho7, hb7⟩; have hm7 : m7 ≤ 40 := (by have q := ho7.lenEq; rw [undos_len, HNL.out] at q; omega); have HR7 : Hid (RL w7 w7.heap.size A7 m7 (undos l)) := Lib.hid ho7.rl; have hx7 := hb7.size; (try simp at hx7); have hcur : Below v2.heap.size v2 w7 := Kw; clear ho7; have h7 : B3 26 w7 v2.heap.size := (by refine B3.below ?_ hb7 Ks; (with_reducible (repeat (first | refine B3.n_ | exact B3.new _ _ _ _ _ _ rfl | refine B3.drew ?_ | refine B3.drewN ?_ _ | refine B3.alloc ?_ _)))); clear hb7; (have hX_1 := BX.below hX0 hcur (by omega)); clear hX xa xb xc xf xl; (have hX := hX_1); clear hX_1; obtain ⟨xa, xb, xc, xf, xl⟩ := hX.mx)); ((try go_wp2_with fail)); (refine hK.out _ _ ?_ (fun hHeld => ?_)); ((focus ((try dsimp only); ((first | (go_keep; done) | exact ⟨xa, xb, xc⟩))))); (clear hK K); ((try simp only [Act.put, p1_, p2_, p3_])); (refine wpAnyH_ready (rs := [3]) (by kernel_rfl) (by simp) ?_); (refine AllReadyH.cons (by simp only [e1_, e2_, e3_]; try rfl) ?_ ?_); ((focus ((intro K hK); (go_simp); ((go_at_call 9; refine (impl_DoRowOps R C A2 A7 n2 c2 m7 c7 g (undos l) _ (B := v2.heap.size) (B' := w7.heap.size) (RI.below (C := v2.heap.size) HX.out Kw (Nat.le_refl _)) (RL.below (C := w7.heap.size) HR7.out Kw (Nat.le_refl _)) Ks Ks HOG.out hR24 hC24 hm7).mono ?_; rw [HUN.out, show doM R C (some f) = ⟨R, C, tb R C f⟩ from rfl]; rintro e w8 ⟨A8, n8, c8, rfl, ho8, hb8⟩; have hx8 := hb8.size; (try simp at hx8); have hn8 := OR.lenEq (xs := tb R C f) ho8; rw [tb_len] at hn8; have hn8x : n8 ≤ 1048576 := (by omega); have kO := OR.own (xs := tb R C f) ho8; (try simp at kO); have ho8_ : OR w8 0 (.slice A8 n8 c8) (tb R C f) := OR.mono (xs := tb R C f) ho8 (Nat.zero_le _); have hcur8 : Below v2.heap.size v2 w8 := Kw; clear ho8 hn8; have h8 : B3 26 w8 v2.heap.size := (by refine B3.below ?_ hb8 Ks; exact h7); have k9 : ¬ Value.ownBlock (.slice A8 n8 c8) = some v2.heap.size := (fun e => by have := kO _ e; omega); clear kO; obtain ⟨y0, y1, y2, hy⟩ := id h8; have z0 := hy.cell 0; have z1 := hy.cell 1; have z2 := hy.cell 2; have zf := hy.frozen; have zl := hy.lt; simp at z0 z1 z2; clear hb8; (have hX_1 := BX.below hX0 hcur8 (by omega)); clear hX xa xb xc xf xl hcur; (have hX := hX_1); clear hX_1; (have hcur := hcur8); clear hcur8; obtain ⟨xa, xb, xc, xf, xl⟩ := hX.mx)); ((try go_wp2_with fail)); (refine hK.out _ _ ?_ (fun hHeld => ?_)); ((focus ((try dsimp only); ((first | (go_keep; done) | exact ⟨xa, xb, xc⟩))))); (clear hK K); ((try simp only [Act.put, p1_, p2_, p3_])); ((refine tk_ (i := 4) (v := ?_) (y := Or.inl ⟨by rfl, ?_⟩) (h := ?_); rotate_left; (focus (((intro w hSw; (try dsimp only at hSw); go_simp) <;> (try with_reducible rfl)); done)); (try simp only [Act.put, p1_, p2_, p3_]))); ((refine tk_ (i := 5) (v := ?_) (y := Or.inl ⟨by rfl, ?_⟩) (h := ?_); rotate_left; (focus (((intro w hSw; (try dsimp only at hSw); go_simp) <;> (try with_reducible rfl)); done)); (try simp only [Act.put, p1_, p2_, p3_]))); ((refine tk_ (i := 6) (v := ?_) (y := Or.inl ⟨by rfl, ?_⟩) (h := ?_); rotate_left; (focus (((intro w hSw; (try dsimp only at hSw); go_simp) <;> (try with_reducible rfl)); done)); (try simp only [Act.put, p1_, p2_, p3_]))); (refine wpAnyH_ready (rs := [8]) (by kernel_rfl) (by simp) ?_); (refine AllReadyH.cons (by simp only [e1_, e2_, e3_]; try rfl) ?_ ?_); ((focus ((intro K hK); (go_simp); ((try go_wp2_with fail)); (refine hK.out _ _ ?_ (fun hHeld => ?_)); ((focus ((try dsimp only); ((first | (go_keep; done) | exact ⟨xa, xb, xc⟩))))); (clear hK K); ((try simp only [Act.put, p1_, p2_, p3_])); ((refine tk_ (i := 9) (v := ?_) (y := Or.inl ⟨by rfl, ?_⟩) (h := ?_); rotate_left; (focus (((intro w hSw; (try dsimp only at hSw); go_simp) <;> (try with_reducible rfl)); done)); (try simp only [Act.put, p1_, p2_, p3_]))); (refine wpAnyH_done (by kernel_rfl) ?_ _)))); (rotate_left 1); (exact AllReadyH.nil)))); (rotate_left 1); (exact AllReadyH.nil)))); (rotate_left 1); (exact AllReadyH.nil)))); (rotate_left 1); (exact AllReadyH.nil))
          all_goals
            go_wp2_with fail
            go_meet
            case rel => exact ⟨_, A8, n8, c8, rfl, rfl, hn8x, (by first | exact BX.put h8 | (with_reducible (repeat (first | assumption | refine BX.n_ | refine BX.b_ ?_ | apply BX.drew | apply BX.drewN | refine BX.put ?_ | refine BX.put2 ?_ | refine BX.f_ ?_ | apply BX.alloc | refine B3.n_ | refine B3.of (by assumption) | refine B3.b_ ?_ | apply B3.drew | apply B3.drewN | refine B3.f_ ?_ | apply B3.alloc)))), OR.reads (B := 0) (cap := c8) (xs := tb R C f) (by (repeat (first | (with_reducible exact ho8_) | (with_reducible refine OR.drew ?_) | (with_reducible refine OR.drewN ?_ _) | (with_reducible refine OR.alloc ?_ _) | (refine OR.far ?_ k9 _)))), Kw, Ks, Ks⟩
        case rest => as_aux_lemma =>
          obtain ⟨bK, A3, n3, c3, rfl, rfl, n3x, hK0, hrk, hcv, hbK1, hbK2⟩ := hcut
          have hM_1 := BX.below hM hcv (by omega); have H1_1 := Lib.hid (RI.below H1.out hcv (by omega)); have HL_1 := Lib.hid (RL.below HL.out hcv (by omega)); (try have hX_1 := BX.below hX hcv (by omega)); (try have HX_1 := Lib.hid (RI.below HX.out hcv (by omega))); (try have hK_1 := BX.below hK hcv (by omega)); (try have HK_1 := Lib.hid (RI.below HK.out hcv (by omega))); (try have hU_1 := BX.below hU hcv (by omega)); (try have HU_1 := Lib.hid (RI.below HU.out hcv (by omega))); (try have hY_1 := BX.below hY hcv (by omega)); (try have HY_1 := Lib.hid (RI.below HY.out hcv (by omega))); clear hM H1 HL; (try clear hX); (try clear HX); (try clear hK); (try clear HK); (try clear hU); (try clear HU); (try clear hY); (try clear HY); (try clear ma mb mc mf ml); (try clear xa xb xc xf xl); (try clear ka kb kc kf kl); (try clear ua ub uc uf ul); (try clear ya yb yc yf yl); have hM := hM_1; have H1 := H1_1; have HL := HL_1; (try have hX := hX_1); (try have HX := HX_1); (try have hK := hK_1); (try have HK := HK_1); (try have hU := hU_1); (try have HU := HU_1); (try have hY := hY_1); (try have HY := HY_1); clear hM_1 H1_1 HL_1; (try clear hX_1); (try clear HX_1); (try clear hK_1); (try clear HK_1); (try clear hU_1); (try clear HU_1); (try clear hY_1); (try clear HY_1); obtain ⟨ma, mb, mc, mf, ml⟩ := hM.mx; (try obtain ⟨xa, xb, xc, xf, xl⟩ := hX.mx); (try obtain ⟨ka, kb, kc, kf, kl⟩ := hK.mx); (try obtain ⟨ua, ub, uc, uf, ul⟩ := hU.mx); (try obtain ⟨ya, yb, yc, yf, yl⟩ := hY.mx)
          have hbw_1 : Below w0.heap.size w0 wc := hbw.trans (Below.mono hcv (by omega))
          clear hbw hcv
          have hbw := hbw_1
          clear hbw_1
          have hK := hK0
          have HK := Lib.hid hrk
          clear hK0 hrk
          obtain ⟨ka, kb, kc, kf, kl⟩ := hK.mx
          go_wp2_with fail
          refine (laws_unit R _ hR24).mono ?_
          rintro e w4 ⟨A4, n4, c4, rfl, ho4, hb4⟩
          have hcur : Below wc.heap.size wc w4 := Kw
          have hs4 := hcur.size
          have HR4 : Hid (RI w4 w4.heap.size A4 n4 (tb R R idF)) := Lib.hid (OR.reads (xs := tb R R idF) ho4)
          clear ho4 hb4
          go_wp2_with fail
          refine (impl_DoRowOps R R A4 Al n4 c4 nl cl idF l _ HR4.out (RL.below HL.out hcur (by omega)) (Nat.le_refl _) (by omega) (OKF.id R) hR24 hR24 (by omega)).mono ?_
          rcases hu : doXs R R idF l with _ | u
          · rw [show doM R R none = ⟨0, 0, []⟩ from rfl]
            clear hu
            rintro e w5 ⟨A5, n5, c5, rfl, ho5, hb5⟩
            have hbq : Below wc.heap.size wc w5 := hcur.trans (Below.mono hb5 (by omega))
            have hzq5 := hbq.size
            clear hb5
            have hbW : Below wc.heap.size wc (w5.alloc (.cells #[.int .i64 0, .int .i64 0, .slice A5 n5 c5] 26)) := hbq.alloc hzq5 _
            have hzW := hbW.size
            clear ho5 hcur
            have hM_1 := BX.below hM hbW (by omega); have H1_1 := Lib.hid (RI.below H1.out hbW (by omega)); have HL_1 := Lib.hid (RL.below HL.out hbW (by omega)); (try have hX_1 := BX.below hX hbW (by omega)); (try have HX_1 := Lib.hid (RI.below HX.out hbW (by omega))); (try have hK_1 := BX.below hK hbW (by omega)); (try have HK_1 := Lib.hid (RI.below HK.out hbW (by omega))); (try have hU_1 := BX.below hU hbW (by omega)); (try have HU_1 := Lib.hid (RI.below HU.out hbW (by omega))); (try have hY_1 := BX.below hY hbW (by omega)); (try have HY_1 := Lib.hid (RI.below HY.out hbW (by omega))); clear hM H1 HL; (try clear hX); (try clear HX); (try clear hK); (try clear HK); (try clear hU); (try clear HU); (try clear hY); (try clear HY); (try clear ma mb mc mf ml); (try clear xa xb xc xf xl); (try clear ka kb kc kf kl); (try clear ua ub uc uf ul); (try clear ya yb yc yf yl); have hM := hM_1; have H1 := H1_1; have HL := HL_1; (try have hX := hX_1); (try have HX := HX_1); (try have hK := hK_1); (try have HK := HK_1); (try have hU := hU_1); (try have HU := HU_1); (try have hY := hY_1); (try have HY := HY_1); clear hM_1 H1_1 HL_1; (try clear hX_1); (try clear HX_1); (try clear hK_1); (try clear HK_1); (try clear hU_1); (try clear HU_1); (try clear hY_1); (try clear HY_1); obtain ⟨ma, mb, mc, mf, ml⟩ := hM.mx; (try obtain ⟨xa, xb, xc, xf, xl⟩ := hX.mx); (try obtain ⟨ka, kb, kc, kf, kl⟩ := hK.mx); (try obtain ⟨ua, ub, uc, uf, ul⟩ := hU.mx); (try obtain ⟨ya, yb, yc, yf, yl⟩ := hY.mx)
            go_wp2_with fail
            refine (impl_SameMatrix R C R C A3 A1 n3 c3 n1 c1 (tb R C f) (tb R C f) _ HK.out H1.out hzW (by omega) n3x (by omega)).mono ?_
            rw [sameB_refl]
            rintro e w6 ⟨rfl, hb6⟩
            have hbw6 : Below w0.heap.size w0 w6 := hbw.trans ((Below.mono hbW (by omega)).trans (Below.mono hb6 (by omega)))
            go_wp2_with fail
            go_ret
            exact ⟨rfl, HB0.out.trans (Below.mono (B := w0.heap.size) Kw hs0)⟩
          · have HUU := Lib.hid hu
            rw [show doM R R (some u) = ⟨R, R, tb R R u⟩ from rfl]
            clear hu
            rintro e w5 ⟨A5, n5, c5, rfl, ho5, hb5⟩
            have hbq : Below wc.heap.size wc w5 := hcur.trans (Below.mono hb5 (by omega))
            have hzq5 := hbq.size
            clear hcur
            have hz_ := hb5.size
            (try simp at hz_)
            have hzq : wc.heap.size ≤ w5.heap.size := by omega
            have hn_ := OR.lenEq (xs := tb R R u) ho5
            rw [tb_len] at hn_
            have n5x : n5 ≤ 1048576 := by omega
            have hN : BM (w5.alloc (.cells #[.int .i64 R, .int .i64 R, .slice A5 n5 c5] 26)) w5.heap.size R R A5 n5 c5 := Ka
            have HN : Hid (RI (w5.alloc (.cells #[.int .i64 R, .int .i64 R, .slice A5 n5 c5] 26)) (w5.alloc (.cells #[.int .i64 R, .int .i64 R, .slice A5 n5 c5] 26)).heap.size A5 n5 (tb R R u)) := Lib.hid (OR.reads (OR.alloc (xs := tb R R u) ho5 _))
            have hbW : Below wc.heap.size wc (w5.alloc (.cells #[.int .i64 R, .int .i64 R, .slice A5 n5 c5] 26)) := Kw
            have hzW : w5.heap.size < (w5.alloc (.cells #[.int .i64 R, .int .i64 R, .slice A5 n5 c5] 26)).heap.size := by simp
            clear ho5 hb5 hn_
            have hM_1 := BX.below hM hbW (by omega); have H1_1 := Lib.hid (RI.below H1.out hbW (by omega)); have HL_1 := Lib.hid (RL.below HL.out hbW (by omega)); (try have hX_1 := BX.below hX hbW (by omega)); (try have HX_1 := Lib.hid (RI.below HX.out hbW (by omega))); (try have hK_1 := BX.below hK hbW (by omega)); (try have HK_1 := Lib.hid (RI.below HK.out hbW (by omega))); (try have hU_1 := BX.below hU hbW (by omega)); (try have HU_1 := Lib.hid (RI.below HU.out hbW (by omega))); (try have hY_1 := BX.below hY hbW (by omega)); (try have HY_1 := Lib.hid (RI.below HY.out hbW (by omega))); clear hM H1 HL; (try clear hX); (try clear HX); (try clear hK); (try clear HK); (try clear hU); (try clear HU); (try clear hY); (try clear HY); (try clear ma mb mc mf ml); (try clear xa xb xc xf xl); (try clear ka kb kc kf kl); (try clear ua ub uc uf ul); (try clear ya yb yc yf yl); have hM := hM_1; have H1 := H1_1; have HL := HL_1; (try have hX := hX_1); (try have HX := HX_1); (try have hK := hK_1); (try have HK := HK_1); (try have hU := hU_1); (try have HU := HU_1); (try have hY := hY_1); (try have HY := HY_1); clear hM_1 H1_1 HL_1; (try clear hX_1); (try clear HX_1); (try clear hK_1); (try clear HK_1); (try clear hU_1); (try clear HU_1); (try clear hY_1); (try clear HY_1); obtain ⟨ma, mb, mc, mf, ml⟩ := hM.mx; (try obtain ⟨xa, xb, xc, xf, xl⟩ := hX.mx); (try obtain ⟨ka, kb, kc, kf, kl⟩ := hK.mx); (try obtain ⟨ua, ub, uc, uf, ul⟩ := hU.mx); (try obtain ⟨ya, yb, yc, yf, yl⟩ := hY.mx)
            have hbw_1 : Below w0.heap.size w0 _ := hbw.trans (Below.mono hbW (by omega))
            clear hbw hbW
            have hbw := hbw_1
            clear hbw_1
            have hU := hN
            have HU := HN
            clear hN HN
            obtain ⟨ua, ub, uc, uf, ul⟩ := hU.mx
            clear hbq
            go_wp2_with fail
            generalize (w5.alloc (.cells #[.int .i64 R, .int .i64 R, .slice A5 n5 c5] 26)) = v5 at *
            generalize w5.heap.size = bU at *
            obtain ⟨mx_, hmx⟩ : ∃ q, mulM R R (tb R R u) R C (tb R C f) = q := ⟨_, rfl⟩
            obtain ⟨fits, hfits⟩ : ∃ q, mulB R R (tb R R u) R C (tb R C f) = q := ⟨_, rfl⟩
            have hft := mul_fits HUU.out HXG.out
            rw [hmx, hfits] at hft
            have HFT := Lib.hid hft
            have hml := mulM_lenR R R (tb R R u) R C (tb R C f)
            refine (impl_MultiplyMatrices R R R C A5 A1 n5 c5 n1 c1 (tb R R u) (tb R C f) _ HU.out H1.out (Nat.le_refl _) (by omega) n5x (by omega)).mono ?_
            rw [hmx, hfits]
            rw [hmx] at hml
            clear hmx hfits hft
            rintro e w6 ⟨A6, n6, c6, rfl, ho6, hb6⟩
            have hn6 := OR.lenEq (xs := mx_.xs) ho6
            have hn6x : n6 ≤ 1048576 := by omega
            clear hn6 hml
            have hz_ := hb6.size
            (try simp at hz_)
            have hzq : v5.heap.size ≤ w6.heap.size := by omega
            have hN : BM (w6.alloc (.cells #[.int .i64 mx_.r, .int .i64 mx_.c, .slice A6 n6 c6] 26)) w6.heap.size mx_.r mx_.c A6 n6 c6 := Ka
            have HN : Hid (RI (w6.alloc (.cells #[.int .i64 mx_.r, .int .i64 mx_.c, .slice A6 n6 c6] 26)) (w6.alloc (.cells #[.int .i64 mx_.r, .int .i64 mx_.c, .slice A6 n6 c6] 26)).heap.size A6 n6 (mx_.xs)) := Lib.hid (OR.reads (OR.alloc (xs := mx_.xs) ho6 _))
            have hbW : Below v5.heap.size v5 (w6.alloc (.cells #[.int .i64 mx_.r, .int .i64 mx_.c, .slice A6 n6 c6] 26)) := Kw
            have hzW : w6.heap.size < (w6.alloc (.cells #[.int .i64 mx_.r, .int .i64 mx_.c, .slice A6 n6 c6] 26)).heap.size := by simp
            clear ho6 hb6
            have hM_1 := BX.below hM hbW (by omega); have H1_1 := Lib.hid (RI.below H1.out hbW (by omega)); have HL_1 := Lib.hid (RL.below HL.out hbW (by omega)); (try have hX_1 := BX.below hX hbW (by omega)); (try have HX_1 := Lib.hid (RI.below HX.out hbW (by omega))); (try have hK_1 := BX.below hK hbW (by omega)); (try have HK_1 := Lib.hid (RI.below HK.out hbW (by omega))); (try have hU_1 := BX.below hU hbW (by omega)); (try have HU_1 := Lib.hid (RI.below HU.out hbW (by omega))); (try have hY_1 := BX.below hY hbW (by omega)); (try have HY_1 := Lib.hid (RI.below HY.out hbW (by omega))); clear hM H1 HL; (try clear hX); (try clear HX); (try clear hK); (try clear HK); (try clear hU); (try clear HU); (try clear hY); (try clear HY); (try clear ma mb mc mf ml); (try clear xa xb xc xf xl); (try clear ka kb kc kf kl); (try clear ua ub uc uf ul); (try clear ya yb yc yf yl); have hM := hM_1; have H1 := H1_1; have HL := HL_1; (try have hX := hX_1); (try have HX := HX_1); (try have hK := hK_1); (try have HK := HK_1); (try have hU := hU_1); (try have HU := HU_1); (try have hY := hY_1); (try have HY := HY_1); clear hM_1 H1_1 HL_1; (try clear hX_1); (try clear HX_1); (try clear hK_1); (try clear HK_1); (try clear hU_1); (try clear HU_1); (try clear hY_1); (try clear HY_1); obtain ⟨ma, mb, mc, mf, ml⟩ := hM.mx; (try obtain ⟨xa, xb, xc, xf, xl⟩ := hX.mx); (try obtain ⟨ka, kb, kc, kf, kl⟩ := hK.mx); (try obtain ⟨ua, ub, uc, uf, ul⟩ := hU.mx); (try obtain ⟨ya, yb, yc, yf, yl⟩ := hY.mx)
            have hbw_1 : Below w0.heap.size w0 _ := hbw.trans (Below.mono hbW (by omega))
            clear hbw hbW
            have hbw := hbw_1
            clear hbw_1
            have hY := hN
            have HY := HN
            clear hN HN
            obtain ⟨ya, yb, yc, yf, yl⟩ := hY.mx
            go_wp2_with fail
            generalize (w6.alloc (.cells #[.int .i64 mx_.r, .int .i64 mx_.c, .slice A6 n6 c6] 26)) = v6 at *
            generalize w6.heap.size = bY at *
            refine (laws_unit R _ hR24).mono ?_
            rintro e w7 ⟨A7, n7, c7, rfl, ho7, hb7⟩
            have hz_ := hb7.size
            (try simp at hz_)
            have hzq : v6.heap.size ≤ w7.heap.size := by omega
            have hn_ := OR.lenEq (xs := tb R R idF) ho7
            rw [tb_len] at hn_
            have n7x : n7 ≤ 1048576 := by omega
            have hN : BM (w7.alloc (.cells #[.int .i64 R, .int .i64 R, .slice A7 n7 c7] 26)) w7.heap.size R R A7 n7 c7 := Ka
            have HN : Hid (RI (w7.alloc (.cells #[.int .i64 R, .int .i64 R, .slice A7 n7 c7] 26)) (w7.alloc (.cells #[.int .i64 R, .int .i64 R, .slice A7 n7 c7] 26)).heap.size A7 n7 (tb R R idF)) := Lib.hid (OR.reads (OR.alloc (xs := tb R R idF) ho7 _))
            have hbW : Below v6.heap.size v6 (w7.alloc (.cells #[.int .i64 R, .int .i64 R, .slice A7 n7 c7] 26)) := Kw
            have hzW : w7.heap.size < (w7.alloc (.cells #[.int .i64 R, .int .i64 R, .slice A7 n7 c7] 26)).heap.size := by simp
            clear ho7 hb7 hn_
            have hM_1 := BX.below hM hbW (by omega); have H1_1 := Lib.hid (RI.below H1.out hbW (by omega)); have HL_1 := Lib.hid (RL.below HL.out hbW (by omega)); (try have hX_1 := BX.below hX hbW (by omega)); (try have HX_1 := Lib.hid (RI.below HX.out hbW (by omega))); (try have hK_1 := BX.below hK hbW (by omega)); (try have HK_1 := Lib.hid (RI.below HK.out hbW (by omega))); (try have hU_1 := BX.below hU hbW (by omega)); (try have HU_1 := Lib.hid (RI.below HU.out hbW (by omega))); (try have hY_1 := BX.below hY hbW (by omega)); (try have HY_1 := Lib.hid (RI.below HY.out hbW (by omega))); clear hM H1 HL; (try clear hX); (try clear HX); (try clear hK); (try clear HK); (try clear hU); (try clear HU); (try clear hY); (try clear HY); (try clear ma mb mc mf ml); (try clear xa xb xc xf xl); (try clear ka kb kc kf kl); (try clear ua ub uc uf ul); (try clear ya yb yc yf yl); have hM := hM_1; have H1 := H1_1; have HL := HL_1; (try have hX := hX_1); (try have HX := HX_1); (try have hK := hK_1); (try have HK := HK_1); (try have hU := hU_1); (try have HU := HU_1); (try have hY := hY_1); (try have HY := HY_1); clear hM_1 H1_1 HL_1; (try clear hX_1); (try clear HX_1); (try clear hK_1); (try clear HK_1); (try clear hU_1); (try clear HU_1); (try clear hY_1); (try clear HY_1); obtain ⟨ma, mb, mc, mf, ml⟩ := hM.mx; (try obtain ⟨xa, xb, xc, xf, xl⟩ := hX.mx); (try obtain ⟨ka, kb, kc, kf, kl⟩ := hK.mx); (try obtain ⟨ua, ub, uc, uf, ul⟩ := hU.mx); (try obtain ⟨ya, yb, yc, yf, yl⟩ := hY.mx)
            have hbw_1 : Below w0.heap.size w0 _ := hbw.trans (Below.mono hbW (by omega))
            clear hbw hbW
            have hbw := hbw_1
            clear hbw_1
            have hE := hN
            have HE := HN
            clear hN HN
            obtain ⟨ea, eb, ec, ef, el⟩ := hE.mx
            go_wp2_with fail
            generalize (w7.alloc (.cells #[.int .i64 R, .int .i64 R, .slice A7 n7 c7] 26)) = v7 at *
            generalize w7.heap.size = bE at *
            have HU0 : Hid (doXs R R idF (l.drop 0) = some u) := Lib.hid (by rw [List.drop_zero]; exact HUU.out)
            go_loopg [14] (nl + 1) (fun gn v wr => ∃ (k : Nat) (h : Fn2) (Ae : Option Addr) (ne ce : Nat), v = .int .i64 k ∧ k ≤ nl ∧ nl - k < gn ∧ Hid (doXs R R h (l.drop k) = some u) ∧ Hid (OKF R R h) ∧ ne ≤ 1048576 ∧ BM wr bE R R Ae ne ce ∧ RI wr wr.heap.size Ae ne (tb R R h) ∧ Below bE v7 wr ∧ bE < wr.heap.size)
            case atStart => exact ⟨0, idF, A7, n7, c7, rfl, Nat.zero_le _, by omega, HU0, Lib.hid (OKF.id R), n7x, hE, HE.out, Below.refl _ _, hE.lt⟩
            case round => as_aux_lemma =>
              clear hE HE HU0 ea eb ec ef el
              obtain ⟨k, h, Ae, ne, ce, rfl, hk, hgk, HUK, HOH, hnx, hE, hre, hbE, hlE⟩ := hrel
              have hszr := hbE.size
              have hM_1 := BX.below hM hbE (by omega); have H1_1 := Lib.hid (RI.below H1.out hbE (by omega)); have HL_1 := Lib.hid (RL.below HL.out hbE (by omega)); (try have hX_1 := BX.below hX hbE (by omega)); (try have HX_1 := Lib.hid (RI.below HX.out hbE (by omega))); (try have hK_1 := BX.below hK hbE (by omega)); (try have HK_1 := Lib.hid (RI.below HK.out hbE (by omega))); (try have hU_1 := BX.below hU hbE (by omega)); (try have HU_1 := Lib.hid (RI.below HU.out hbE (by omega))); (try have hY_1 := BX.below hY hbE (by omega)); (try have HY_1 := Lib.hid (RI.below HY.out hbE (by omega))); clear hM H1 HL; (try clear hX); (try clear HX); (try clear hK); (try clear HK); (try clear hU); (try clear HU); (try clear hY); (try clear HY); (try clear ma mb mc mf ml); (try clear xa xb xc xf xl); (try clear ka kb kc kf kl); (try clear ua ub uc uf ul); (try clear ya yb yc yf yl); have hM := hM_1; have H1 := H1_1; have HL := HL_1; (try have hX := hX_1); (try have HX := HX_1); (try have hK := hK_1); (try have HK := HK_1); (try have hU := hU_1); (try have HU := HU_1); (try have hY := hY_1); (try have HY := HY_1); clear hM_1 H1_1 HL_1; (try clear hX_1); (try clear HX_1); (try clear hK_1); (try clear HK_1); (try clear hU_1); (try clear HU_1); (try clear hY_1); (try clear HY_1); obtain ⟨ma, mb, mc, mf, ml⟩ := hM.mx; (try obtain ⟨xa, xb, xc, xf, xl⟩ := hX.mx); (try obtain ⟨ka, kb, kc, kf, kl⟩ := hK.mx); (try obtain ⟨ua, ub, uc, uf, ul⟩ := hU.mx); (try obtain ⟨ya, yb, yc, yf, yl⟩ := hY.mx)
              obtain ⟨ea, eb, ec, ef, el⟩ := hE.mx
              have hbw_1 : Below w0.heap.size w0 wr := hbw.trans (Below.mono hbE (by omega))
              clear hbw
              have hbw := hbw_1
              clear hbw_1
              by_cases hkn : k < nl
              · obtain ⟨x, hx1, hx2, hx3⟩ := drop_at (l := l) (k := k) (by rw [HNL.out]; exact hkn)
                obtain ⟨h2, hd, hdn⟩ := ops_step (show doXs R R h (x :: l.drop (k + 1)) = some u by have := HUK.out; rw [hx3] at this; exact this)
                have HXV := Lib.hid (doX_some hd).1
                have HMS := Lib.hid (mul_step hR24 HOH.out hd)
                have HO2 := Lib.hid (HOH.out.op hd)
                have HDN := Lib.hid hdn
                obtain ⟨bb, oo, rfl, hbb, hcells⟩ := (HL.out.1).2 (by omega)
                obtain ⟨q0, q1, q2, q3⟩ := flat4_at l k x hx1
                have d0 : wr.cell? ⟨bb, oo + k * 4, none⟩ = some (.int .i64 x.k) := by have := hcells (k * 4) (by omega); rwa [q0] at this
                have d1 : wr.cell? ⟨bb, oo + k * 4 + 1, none⟩ = some (.int .i64 x.i) := by have := hcells (k * 4 + 1) (by omega); rwa [q1, ← Nat.add_assoc] at this
                have d2 : wr.cell? ⟨bb, oo + k * 4 + 2, none⟩ = some (.int .i64 x.j) := by have := hcells (k * 4 + 2) (by omega); rwa [q2, ← Nat.add_assoc] at this
                have d3 : wr.cell? ⟨bb, oo + k * 4 + 3, none⟩ = some (.int .i64 x.t) := by have := hcells (k * 4 + 3) (by omega); rwa [q3, ← Nat.add_assoc] at this
                have HDC : Hid (∀ w', Below wr.heap.size wr w' → w'.cell? ⟨bM, 0, none⟩ = some (.int .i64 R) ∧ w'.cell? ⟨bb, oo + k * 4, none⟩ = some (.int .i64 x.k) ∧ w'.cell? ⟨bb, oo + k * 4 + 1, none⟩ = some (.int .i64 x.i) ∧ w'.cell? ⟨bb, oo + k * 4 + 2, none⟩ = some (.int .i64 x.j) ∧ w'.cell? ⟨bb, oo + k * 4 + 3, none⟩ = some (.int .i64 x.t)) := Lib.hid (fun w' hb =>
                  ⟨(hb.cell (p := ⟨bM, 0, none⟩) (show bM < wr.heap.size by omega)).trans ma, (hb.cell (p := ⟨bb, oo + k * 4, none⟩) (show bb < wr.heap.size by omega)).trans d0, (hb.cell (p := ⟨bb, oo + k * 4 + 1, none⟩) (show bb < wr.heap.size by omega)).trans d1, (hb.cell (p := ⟨bb, oo + k * 4 + 2, none⟩) (show bb < wr.heap.size by omega)).trans d2, (hb.cell (p := ⟨bb, oo + k * 4 + 3, none⟩) (show bb < wr.heap.size by omega)).trans d3⟩)
                clear hx1 hx2 hx3 hcells q0 q1 q2 q3 hd hdn HUK
                go_upto_region 16 with fail
                go_cut [15, 16] from 69 to 97 (fun vp vb wc => ∃ (bO : Nat) (A8 : Option Addr) (n8 c8 : Nat), vp = .pointer (some ⟨bO, 0, none⟩) ∧ vb = .bool true ∧ n8 ≤ 1048576 ∧ BM wc bO R R A8 n8 c8 ∧ RI wc wc.heap.size A8 n8 (tb R R (opF idF x)) ∧ Below wr.heap.size wr wc ∧ wr.heap.size ≤ bO ∧ bO < wc.heap.size)
                case first =>
                  have ne1 : ¬ bM = wr.heap.size := by omega
                  have ne2 : ¬ wr.heap.size = bM := by omega
                  have ne3 : ¬ bb = wr.heap.size := by omega
                  have ne4 : ¬ wr.heap.size = bb := by omega
                  ((refine wp_region_held_drew (S := (fun w' => w'.cell? ⟨bM, 0, none⟩ = some (.int .i64 R) ∧ w'.cell? ⟨bb, oo + k * 4, none⟩ = some (.int .i64 x.k) ∧ w'.cell? ⟨bb, oo + k * 4 + 1, none⟩ = some (.int .i64 x.i) ∧ w'.cell? ⟨bb, oo + k * 4 + 2, none⟩ = some (.int .i64 x.j) ∧ w'.cell? ⟨bb, oo + k * 4 + 3, none⟩ = some (.int .i64 x.t))) (by kernel_rfl) ?_ (fun hHeld => ?_)); ((focus ((try dsimp only); ((first | (go_keep; done) | exact ⟨ma, d0, d1, d2, d3⟩))))); ((refine tk_ (i := 0) (v := ?_) (y := Or.inl ⟨by rfl, ?_⟩) (h := ?_); rotate_left; (focus (((intro w hSw; (try dsimp only at hSw); go_simp) <;> (try with_reducible rfl)); done)); (try simp only [Act.put, p1_, p2_, p3_]))); ((refine tk_ (i := 1) (v := ?_) (y := Or.inl ⟨by rfl, ?_⟩) (h := ?_); rotate_left; (focus (((intro w hSw; (try dsimp only at hSw); go_simp) <;> (try with_reducible rfl)); done)); (try simp only [Act.put, p1_, p2_, p3_]))); ((refine tk_ (i := 2) (v := ?_) (y := Or.inl ⟨by rfl, ?_⟩) (h := ?_); rotate_left; (focus (((intro w hSw; (try dsimp only at hSw); go_simp) <;> (try with_reducible rfl)); done)); (try simp only [Act.put, p1_, p2_, p3_]))); ((refine tk_ (i := 3) (v := ?_) (y := Or.inl ⟨by rfl, ?_⟩) (h := ?_); rotate_left; (focus (((intro w hSw; (try dsimp only at hSw); go_simp) <;> (try with_reducible rfl)); done)); (try simp only [Act.put, p1_, p2_, p3_]))); ((refine tk_ (i := 4) (v := ?_) (y := Or.inl ⟨by rfl, ?_⟩) (h := ?_); rotate_left; (focus (((intro w hSw; (try dsimp only at hSw); go_simp) <;> (try with_reducible rfl)); done)); (try simp only [Act.put, p1_, p2_, p3_]))); ((refine tk_ (i := 5) (v := ?_) (y := Or.inl ⟨by rfl, ?_⟩) (h := ?_); rotate_left; (focus (((intro w hSw; (try dsimp only at hSw); go_simp) <;> (try with_reducible rfl)); done)); (try simp only [Act.put, p1_, p2_, p3_]))); (refine wpAnyH_ready (rs := [6, 10]) (by kernel_rfl) (by simp) ?_); (refine AllReadyH.cons (by simp only [e1_, e2_, e3_]; try rfl) ?_ ?_); ((focus ((intro K hK); (go_simp); ((go_at_call 14; refine (impl_OpMatrix R x _ HXV.out hR24).mono ?_; rintro e w8 ⟨A8, n8, c8, rfl, ho8, hb8⟩; have hx8 := hb8.size; (try simp at hx8); have hn8 := OR.lenEq (xs := tb R R (opF idF x)) ho8; rw [tb_len] at hn8; have hn8x : n8 ≤ 1048576 := (by omega); have kO := OR.own (xs := tb R R (opF idF x)) ho8; (try simp at kO); have ho8_ : OR w8 0 (.slice A8 n8 c8) (tb R R (opF idF x)) := OR.mono (xs := tb R R (opF idF x)) ho8 (Nat.zero_le _); have hcur8 : Below wr.heap.size wr w8 := Kw; clear ho8 hn8; have nx1 : ¬ bM = w8.heap.size := (by omega); have nx2 : ¬ w8.heap.size = bM := (by omega); have nx3 : ¬ bb = w8.heap.size := (by omega); have nx4 : ¬ w8.heap.size = bb := (by omega); have k9 : ¬ Value.ownBlock (.slice A8 n8 c8) = some w8.heap.size := (fun e => by have := kO _ e; omega); clear kO hb8 ma d0 d1 d2 d3; obtain ⟨ma, d0, d1, d2, d3⟩ := HDC.out w8 hcur8)); ((try go_wp2_with fail)); (refine hK.out _ _ ?_ (fun hHeld => ?_)); ((focus ((try dsimp only); ((first | (go_keep; done) | exact ⟨ma, d0, d1, d2, d3⟩))))); (clear hK K); ((try simp only [Act.put, p1_, p2_, p3_])); ((refine tk_ (i := 7) (v := ?_) (y := Or.inl ⟨by rfl, ?_⟩) (h := ?_); rotate_left; (focus (((intro w hSw; (try dsimp only at hSw); go_simp) <;> (try with_reducible rfl)); done)); (try simp only [Act.put, p1_, p2_, p3_]))); ((refine tk_ (i := 8) (v := ?_) (y := Or.inl ⟨by rfl, ?_⟩) (h := ?_); rotate_left; (focus (((intro w hSw; (try dsimp only at hSw); go_simp) <;> (try with_reducible rfl)); done)); (try simp only [Act.put, p1_, p2_, p3_]))); ((refine tk_ (i := 9) (v := ?_) (y := Or.inl ⟨by rfl, ?_⟩) (h := ?_); rotate_left; (focus (((intro w hSw; (try dsimp only at hSw); go_simp) <;> (try with_reducible rfl)); done)); (try simp only [Act.put, p1_, p2_, p3_]))); (refine wpAnyH_ready (rs := [10]) (by kernel_rfl) (by simp) ?_); (refine AllReadyH.cons (by simp only [e1_, e2_, e3_]; try rfl) ?_ ?_); ((focus ((intro K hK); (go_simp); ((try go_wp2_with fail)); (refine hK.out _ _ ?_ (fun hHeld => ?_)); ((focus ((try dsimp only); ((first | (go_keep; done) | exact ⟨ma, d0, d1, d2, d3⟩))))); (clear hK K); ((try simp only [Act.put, p1_, p2_, p3_])); (refine wpAnyH_ready (rs := [11]) (by kernel_rfl) (by simp) ?_); (refine AllReadyH.cons (by simp only [e1_, e2_, e3_]; try rfl) ?_ ?_); ((focus ((intro K hK); (go_simp); ((try go_wp2_with fail)); (refine hK.out _ _ ?_ (fun hHeld => ?_)); ((focus ((try dsimp only); ((first | (go_keep; done) | exact ⟨ma, d0, d1, d2, d3⟩))))); (clear hK K); ((try simp only [Act.put, p1_, p2_, p3_])); ((refine tk_ (i := 12) (v := ?_) (y := Or.inl ⟨by rfl, ?_⟩) (h := ?_); rotate_left; (focus (((intro w hSw; (try dsimp only at hSw); go_simp) <;> (try with_reducible rfl)); done)); (try simp only [Act.put, p1_, p2_, p3_]))); (refine wpAnyH_done (by kernel_rfl) ?_ _)))); (rotate_left 1); (exact AllReadyH.nil)))); (rotate_left 1); (exact AllReadyH.nil)))); (rotate_left 1); (refine AllReadyH.cons (by simp only [e1_, e2_, e3_]; try rfl) ?_ ?_); ((focus ((intro K hK); (go_simp); ((try go_wp2_with fail)); (refine hK.out _ _ ?_ (fun hHeld => ?_)); ((focus ((try dsimp only); ((first | (go_keep; done) | exact ⟨ma, d0, d1, d2, d3⟩))))); (clear hK K); ((try simp only [Act.put, p1_, p2_, p3_])); (refine wpAnyH_ready (rs := [6]) (by kernel_rfl) (by simp) ?_); (refine AllReadyH.cons (by simp only [e1_, e2_, e3_]; try rfl) ?_ ?_); ((focus ((intro K hK); (go_simp); ((go_at_call 14; refine (impl_OpMatrix R x _ HXV.out hR24).mono ?_; rintro e w8 ⟨A8, n8, c8, rfl, ho8, hb8⟩; have hx8 := hb8.size; (try simp at hx8); have hn8 := OR.lenEq (xs := tb R R (opF idF x)) ho8; rw [tb_len] at hn8; have hn8x : n8 ≤ 1048576 := (by omega); have kO := OR.own (xs := tb R R (opF idF x)) ho8; (try simp at kO); have ho8_ : OR w8 0 (.slice A8 n8 c8) (tb R R (opF idF x)) := OR.mono (xs := tb R R (opF idF x)) ho8 (Nat.zero_le _); have hcur8 : Below wr.heap.size wr w8 := Kw; clear ho8 hn8; have h8 : B3 26 w8 wr.heap.size := (by refine B3.below ?_ hb8 Ks; (with_reducible (repeat (first | refine B3.n_ | exact B3.new _ _ _ _ _ _ rfl | refine B3.drew ?_ | refine B3.drewN ?_ _ | refine B3.alloc ?_ _)))); have k9 : ¬ Value.ownBlock (.slice A8 n8 c8) = some wr.heap.size := (fun e => by have := kO _ e; omega); obtain ⟨y0, y1, y2, hy⟩ := id h8; have z0 := hy.cell 0; have z1 := hy.cell 1; have z2 := hy.cell 2; have zf := hy.frozen; have zl := hy.lt; simp at z0 z1 z2; clear kO hb8 ma d0 d1 d2 d3; obtain ⟨ma, d0, d1, d2, d3⟩ := HDC.out w8 hcur8)); ((try go_wp2_with fail)); (refine hK.out _ _ ?_ (fun hHeld => ?_)); ((focus ((try dsimp only); ((first | (go_keep; done) | exact ⟨ma, d0, d1, d2, d3⟩))))); (clear hK K); ((try simp only [Act.put, p1_, p2_, p3_])); ((refine tk_ (i := 7) (v := ?_) (y := Or.inl ⟨by rfl, ?_⟩) (h := ?_); rotate_left; (focus (((intro w hSw; (try dsimp only at hSw); go_simp) <;> (try with_reducible rfl)); done)); (try simp only [Act.put, p1_, p2_, p3_]))); ((refine tk_ (i := 8) (v := ?_) (y := Or.inl ⟨by rfl, ?_⟩) (h := ?_); rotate_left; (focus (((intro w hSw; (try dsimp only at hSw); go_simp) <;> (try with_reducible rfl)); done)); (try simp only [Act.put, p1_, p2_, p3_]))); ((refine tk_ (i := 9) (v := ?_) (y := Or.inl ⟨by rfl, ?_⟩) (h := ?_); rotate_left; (focus (((intro w hSw; (try dsimp only at hSw); go_simp) <;> (try with_reducible rfl)); done)); (try simp only [Act.put, p1_, p2_, p3_]))); (refine wpAnyH_ready (rs := [11]) (by kernel_rfl) (by simp) ?_); (refine AllReadyH.cons (by simp only [e1_, e2_, e3_]; try rfl) ?_ ?_); ((focus ((intro K hK); (go_simp); ((try go_wp2_with fail)); (refine hK.out _ _ ?_ (fun hHeld => ?_)); ((focus ((try dsimp only); ((first | (go_keep; done) | exact ⟨ma, d0, d1, d2, d3⟩))))); (clear hK K); ((try simp only [Act.put, p1_, p2_, p3_])); ((refine tk_ (i := 12) (v := ?_) (y := Or.inl ⟨by rfl, ?_⟩) (h := ?_); rotate_left; (focus (((intro w hSw; (try dsimp only at hSw); go_simp) <;> (try with_reducible rfl)); done)); (try simp only [Act.put, p1_, p2_, p3_]))); (refine wpAnyH_done (by kernel_rfl) ?_ _)))); (rotate_left 1); (exact AllReadyH.nil)))); (rotate_left 1); (exact AllReadyH.nil)))); (rotate_left 1); (exact AllReadyH.nil))
                  all_goals
                    go_wp2_with fail
                    go_meet
                    case rel => exact ⟨_, A8, n8, c8, rfl, rfl, hn8x, (by first | exact BX.put h8 | (with_reducible (repeat (first | assumption | refine BX.n_ | refine BX.b_ ?_ | apply BX.drew | apply BX.drewN | refine BX.put ?_ | refine BX.put2 ?_ | refine BX.f_ ?_ | apply BX.alloc | refine B3.n_ | refine B3.of (by assumption) | refine B3.b_ ?_ | apply B3.drew | apply B3.drewN | refine B3.f_ ?_ | apply B3.alloc)))), OR.reads (B := 0) (cap := c8) (xs := tb R R (opF idF x)) (by (repeat (first | (with_reducible exact ho8_) | (with_reducible refine OR.drew ?_) | (with_reducible refine OR.drewN ?_ _) | (with_reducible refine OR.alloc ?_ _) | (refine OR.far ?_ k9 _)))), Kw, Ks, Ks⟩
                case rest => as_aux_lemma =>
                  obtain ⟨bO, A8, n8, c8, rfl, rfl, n8x, hO, hro, hcv, hbO1, hbO2⟩ := hcut
                  have hszc := hcv.size
                  have hE2 := BX.below hE hcv (by omega)
                  have hre2 := RI.below hre hcv (Nat.le_refl _)
                  have hvE := B3.of hE2
                  clear hE hre ea eb ec ef el d0 d1 d2 d3
                  obtain ⟨ea, eb, ec, ef, el⟩ := hE2.mx
                  obtain ⟨oa, ob, oc, of, ol⟩ := hO.mx
                  go_wp2_with fail
                  refine (impl_MultiplyMatrices R R R R A8 Ae n8 c8 ne ce (tb R R (opF idF x)) (tb R R h) _ hro hre2 (Nat.le_refl _) (by omega) n8x hnx).mono ?_
                  rw [HMS.out.1, HMS.out.2]
                  rintro e w9 ⟨A9, n9, c9, rfl, ho9, hb9⟩
                  have hs9 := hb9.size
                  have hn9 := OR.lenEq (xs := tb R R h2) ho9
                  rw [tb_len] at hn9
                  have hn9x : n9 ≤ 1048576 := by omega
                  have hcur : Below wr.heap.size wr w9 := hcv.trans (Below.mono hb9 (by omega))
                  have hE9 : BM w9 bE R R Ae ne ce := BX.below hE2 hb9 (by omega)
                  have ho9_ : OR w9 (bE + 1) (.slice A9 n9 c9) (tb R R h2) := OR.mono (xs := tb R R h2) ho9 (by omega)
                  have hv9 := B3.of hE9
                  have hb7 : Below bE v7 w9 := hbE.trans (Below.mono hcur (by omega))
                  clear hE2 hre2 hvE hO hro ho9 hn9 ea eb ec ef el oa ob oc of ol hb9 hcv
                  obtain ⟨ea, eb, ec, ef, el⟩ := hE9.mx
                  go_wp2_with fail
                  go_roundg (gk - 1)
                  case measure => omega
                  case rel => exact ⟨k + 1, h2, A9, n9, c9, by go_num, by omega, by omega, HDN, HO2, hn9x, Kb hv9, OR.reads (B := bE + 1) (cap := c9) (xs := tb R R h2) (Ko ho9_), Kw, Ks⟩
              · obtain rfl : k = nl := by omega
                have hhu : h = u := by
                  have := HUK.out
                  rw [List.drop_of_length_le (by rw [HNL.out]; exact Nat.le_refl _)] at this
                  injection this
                rw [hhu] at hre
                have hcur : Below wr.heap.size wr wr := Below.refl _ _
                have HDU := Lib.hid (ops_unit HUU.out)
                have hszl := hM.lt
                have lK := hK.lt
                have lU := hU.lt
                have lY := hY.lt
                have lX := hX.lt
                have HE := Lib.hid hre
                clear hhu HUK hre
                go_wp2_with fail
                refine (impl_SameMatrix R C R C A3 A1 n3 c3 n1 c1 (tb R C f) (tb R C f) _ (RI.below HK.out hcur (by omega)) (RI.below H1.out hcur (by omega)) (by omega) (by omega) n3x (by omega)).mono ?_
                rw [sameB_refl]
                rintro e w11 ⟨rfl, hb11⟩
                have hcur_1 : Below wr.heap.size wr w11 := hcur.trans (Below.mono hb11 (by omega)); clear hcur hb11; have hcur := hcur_1; clear hcur_1; have hsz_w11 := hcur.size; (try clear ma mb mc mf ml); (try clear xa xb xc xf xl); (try clear ka kb kc kf kl); (try clear ua ub uc uf ul); (try clear ya yb yc yf yl); clear ea eb ec ef el; obtain ⟨ma, mb, mc, mf, ml⟩ := (BX.below hM hcur (by omega)).mx; obtain ⟨xa, xb, xc, xf, xl⟩ := (BX.below hX hcur (by omega)).mx; obtain ⟨ua, ub, uc, uf, ul⟩ := (BX.below hU hcur (by omega)).mx; obtain ⟨ya, yb, yc, yf, yl⟩ := (BX.below hY hcur (by omega)).mx; obtain ⟨ea, eb, ec, ef, el⟩ := (BX.below hE hcur (by omega)).mx
                go_wp2_with fail
                refine (laws_unimodular R R A5 n5 c5 _ _ (RI.below HU.out hcur (by omega)) (by omega) n5x HDU.out).mono ?_
                rintro e w12 ⟨rfl, hb12⟩
                have hcur_1 : Below wr.heap.size wr w12 := hcur.trans (Below.mono hb12 (by omega)); clear hcur hb12; have hcur := hcur_1; clear hcur_1; have hsz_w12 := hcur.size; (try clear ma mb mc mf ml); (try clear xa xb xc xf xl); (try clear ka kb kc kf kl); (try clear ua ub uc uf ul); (try clear ya yb yc yf yl); clear ea eb ec ef el; obtain ⟨ma, mb, mc, mf, ml⟩ := (BX.below hM hcur (by omega)).mx; obtain ⟨xa, xb, xc, xf, xl⟩ := (BX.below hX hcur (by omega)).mx; obtain ⟨ua, ub, uc, uf, ul⟩ := (BX.below hU hcur (by omega)).mx; obtain ⟨ya, yb, yc, yf, yl⟩ := (BX.below hY hcur (by omega)).mx; obtain ⟨ea, eb, ec, ef, el⟩ := (BX.below hE hcur (by omega)).mx
                rcases fits with _ | _
                · go_wp2_with fail
                  refine (impl_SameMatrix R R R R Ae A5 ne ce n5 c5 _ _ _ (RI.below HE.out hcur (by omega)) (RI.below HU.out hcur (by omega)) (by omega) (by omega) hnx n5x).mono ?_
                  rw [sameB_refl]
                  rintro e w15 ⟨rfl, hb15⟩
                  have hbz : Below w0.heap.size w0 w15 := hbw.trans ((Below.mono hcur (by omega)).trans (Below.mono hb15 (by omega)))
                  go_wp2_with fail
                  go_ret
                  exact ⟨rfl, HB0.out.trans (Below.mono (B := w0.heap.size) Kw hs0)⟩
                · have HSB : Hid (sameB mx_.r mx_.c mx_.xs R C (tb R C g) = true) := Lib.hid (by
                    rcases HFT.out with h0 | h0
                    · cases h0
                    · rw [h0]; exact sameB_refl _ _ _)
                  go_wp2_with fail
                  refine (spec_SameMatrix mx_.r mx_.c R C A6 A2 n6 c6 n2 c2 mx_.xs (tb R C g) _ (RI.below HY.out hcur (by omega)) (RI.below HX.out hcur (by omega)) (by omega) (by omega) hn6x n2x).mono ?_
                  rw [HSB.out]
                  rintro e w13 ⟨rfl, hb13⟩
                  have hcur_1 : Below wr.heap.size wr w13 := hcur.trans (Below.mono hb13 (by omega)); clear hcur hb13; have hcur := hcur_1; clear hcur_1; have hsz_w13 := hcur.size; (try clear ma mb mc mf ml); (try clear xa xb xc xf xl); (try clear ka kb kc kf kl); (try clear ua ub uc uf ul); (try clear ya yb yc yf yl); clear ea eb ec ef el; obtain ⟨ma, mb, mc, mf, ml⟩ := (BX.below hM hcur (by omega)).mx; obtain ⟨xa, xb, xc, xf, xl⟩ := (BX.below hX hcur (by omega)).mx; obtain ⟨ua, ub, uc, uf, ul⟩ := (BX.below hU hcur (by omega)).mx; obtain ⟨ya, yb, yc, yf, yl⟩ := (BX.below hY hcur (by omega)).mx; obtain ⟨ea, eb, ec, ef, el⟩ := (BX.below hE hcur (by omega)).mx
                  go_wp2_with fail
                  refine (impl_SameMatrix R R R R Ae A5 ne ce n5 c5 _ _ _ (RI.below HE.out hcur (by omega)) (RI.below HU.out hcur (by omega)) (by omega) (by omega) hnx n5x).mono ?_
                  rw [sameB_refl]
                  rintro e w15 ⟨rfl, hb15⟩
                  have hbz : Below w0.heap.size w0 w15 := hbw.trans ((Below.mono hcur (by omega)).trans (Below.mono hb15 (by omega)))
                  go_wp2_with fail
                  go_ret
                  exact ⟨rfl, HB0.out.trans (Below.mono (B := w0.heap.size) Kw hs0)⟩
end Go.Proofs.Ytlggfmfelakadaa

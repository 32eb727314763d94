/-
  DERIVED. Several small texts in one: SolM, DrP.
-/
import Derived.Test.YtacjonkehcamgaaZS
import Derived.Test.YtacjonkehcamgaaTimMq
import Derived.Test.YtacjonkehcamgaaDrQq
/-
  DERIVED. SolveMod of the program.
-/
namespace Go.Proofs.Ytacjonkehcamgaa
open Go.RowKit
set_option linter.unusedVariables false
set_option linter.unusedSimpArgs false
theorem OR.empty2 (w : World) (g : Nat) (hg : g = w.heap.size) {B : Nat} (hB : B ≤ w.heap.size) : OR (w.alloc (.cells #[] 3)) B (.slice (some ⟨g, 0, none⟩) 0 0) [] := OR.empty' w g hg hB
set_option maxRecDepth 100000 in
set_option maxHeartbeats 8000000 in
theorem impl_SolveMod (r c p : Int) (A Ab : Option Addr) (n cap nb capb : Nat) (xs bs : List Int) (w : World) {B B' : Nat} (h : RI w B A n xs) (hb : RI w B' Ab nb bs) (hB : B ≤ w.heap.size) (hB' : B' ≤ w.heap.size) (hn : n ≤ 1048576) (hnb : nb ≤ 1048576) :
    Calls Try.prog 38 #[.agg #[.int .i64 r, .int .i64 c, .slice A n cap], .slice Ab nb capb, .int .i64 p] w (IBR (smV r c xs bs p) (smB r c xs bs p) w) := by
  have hlb := hb.len
  have H2 := Lib.hid (h.more hB)
  have H3 := Lib.hid (hb.more hB')
  clear h hb
  rcases sm_cases r c xs bs p with ⟨hi, hs⟩ | ⟨hi, hl, hs⟩ | ⟨hi, hl, ha, hs⟩ | ⟨hi, hl, ha, hs⟩
  · rw [smV_no hs, hs]
    have HB := Lib.hid hi
    have HX := Lib.hid (imM_no hi)
    clear hi hs hlb
    go_enter Try.func38, Try.ntmps38
    go_wp2_with fail
    refine (impl_InverseMod r c p A n cap xs _ (B := w.heap.size) (Kr H2.out) Ks hn).mono ?_; rw [HB.out, HX.out]; rintro e w1 ⟨Ai, ni, capi, rfl, ho1, hb1⟩; have hsz1 := hb1.size; simp at hsz1; have hM1 : BM w1 w.heap.size r c A n cap := Ka; have hbw1 : Below w.heap.size w w1 := Kw; obtain ⟨ma, mb, mc, mf, ml⟩ := hM1.mx
    go_wp2_with fail
    go_ret2
    exact ⟨_, _, _, rfl, OR.empty2 _ (w1.heap.size + 1) (by simp) (by simp; omega), Kw⟩
  · rw [smV_no hs, hs]
    have K := imOk_of hi
    have HB := Lib.hid hi
    have HX := Lib.hid (imM_yes hi)
    rw [hlb] at hl
    generalize (imS r c xs p).f = F at *
    clear hi hs K hlb
    go_enter Try.func38, Try.ntmps38
    go_wp2_with fail
    refine (impl_InverseMod r c p A n cap xs _ (B := w.heap.size) (Kr H2.out) Ks hn).mono ?_; rw [HB.out, HX.out]; rintro e w1 ⟨Ai, ni, capi, rfl, ho1, hb1⟩; have hsz1 := hb1.size; simp at hsz1; have hM1 : BM w1 w.heap.size r c A n cap := Ka; have hbw1 : Below w.heap.size w w1 := Kw; obtain ⟨ma, mb, mc, mf, ml⟩ := hM1.mx
    clear ho1
    go_wp2_with fail
    go_ret2
    exact ⟨_, _, _, rfl, OR.empty2 _ (w1.heap.size + 1) (by simp) (by simp; omega), Kw⟩
  · rw [smV_no hs, hs]
    have K := imOk_of hi
    have HB := Lib.hid hi
    have HX := Lib.hid (imM_yes hi)
    have HA := Lib.hid ha
    rw [hlb] at hl
    generalize (imS r c xs p).f = F at *
    clear hi hs K hlb ha
    go_enter Try.func38, Try.ntmps38
    go_wp2_with fail
    refine (impl_InverseMod r c p A n cap xs _ (B := w.heap.size) (Kr H2.out) Ks hn).mono ?_; rw [HB.out, HX.out]; rintro e w1 ⟨Ai, ni, capi, rfl, ho1, hb1⟩; have hsz1 := hb1.size; simp at hsz1; have hM1 : BM w1 w.heap.size r c A n cap := Ka; have hbw1 : Below w.heap.size w w1 := Kw; obtain ⟨ma, mb, mc, mf, ml⟩ := hM1.mx
    clear ho1
    go_wp2_with fail
    go_at_call 131; refine (impl_areNumbers Ab nb capb bs _ (C := w.heap.size) (Kr H3.out) hnb).mono ?_; rw [HA.out]; rintro e w' ⟨rfl, rfl⟩
    go_wp2_with fail
    go_ret2
    exact ⟨_, _, _, rfl, OR.empty2 _ (w1.heap.size + 1) (by simp) (by simp; omega), Kw⟩
  · rw [smV_yes hs, hs]
    have K := imOk_of hi
    have HB := Lib.hid hi
    have HX := Lib.hid (imM_yes hi)
    have HA := Lib.hid ha
    have HF := Lib.hid K.f0
    have hp1 := K.p1
    have hp2 := K.p2
    have hr1 := K.r1
    obtain ⟨R, rfl⟩ := nat_of K.r0
    have hbd : ∀ k, -9223372036854775808 ≤ bs.getD k 0 ∧ bs.getD k 0 ≤ 9223372036854775807 := fun k => by
      by_cases hk : k < bs.length
      · have := (isNum_iff _).1 (List.all_eq_true.1 ha _ (mem_getD hk))
        omega
      · simp [List.getD, List.getElem?_eq_none (show bs.length ≤ k by omega)]
    have HBD := Lib.hid hbd
    rw [hlb] at hl
    have hnR : nb = R := by have := (bne_eq_false_iff_eq).1 hl; omega
    have HNR := Lib.hid hnR
    have hnR2 : nb ≤ R ∧ R ≤ nb := by omega
    simp only [Int.toNat_natCast] at HX ⊢
    generalize (imS (R : Int) c xs p).f = F at *
    clear hi hs K hlb ha hbd hnR
    go_enter Try.func38, Try.ntmps38
    go_wp2_with fail
    refine (impl_InverseMod R c p A n cap xs _ (B := w.heap.size) (Kr H2.out) Ks hn).mono ?_
    rw [HB.out, HX.out]
    rintro e w1 ⟨Ai, ni, capi, rfl, ho1, hb1⟩
    have hsz1 := hb1.size
    simp at hsz1
    have hM1 : BM w1 w.heap.size R c A n cap := Ka
    have hbw1 : Below w.heap.size w w1 := Kw
    obtain ⟨ma, mb, mc, mf, ml⟩ := hM1.mx
    have hni := ho1.lenEq
    simp only [tb_len] at hni
    have hRR : R * R ≤ 12 * 12 := Nat.mul_le_mul (by omega) (by omega)
    have hni2 : ni ≤ 1048576 := by omega
    have ho1' : OR w1 (w.heap.size + 1) (.slice Ai ni capi) (tb R R (fun i j => F i (R + j))) := OR.mono ho1 (by simp)
    have HNI := Lib.hid hni
    clear ho1 hni
    go_wp2_with fail
    go_at_call 131; refine (impl_areNumbers Ab nb capb bs _ (C := w.heap.size) (Kr H3.out) hnb).mono ?_; rw [HA.out]; rintro e w' ⟨rfl, rfl⟩
    go_wp2_with fail
    refine (impl_timesMod R R p Ai Ab ni capi nb capb (fun i j => F i (R + j)) bs _ (B' := w.heap.size) (OR.reads (B := w.heap.size + 1) (cap := capi) (Ko ho1')) (Kr H3.out) (Nat.le_refl _) Ks hni2 (by omega) (by omega) HNR.out ⟨hp1, hp2⟩ (fun i j => HF.out i (R + j)) HBD.out).mono ?_
    rintro e w2 ⟨At, nt, capt, rfl, ho2, hb2⟩
    have hsz2 := hb2.size
    simp at hsz2
    have hbw2 : Below w.heap.size w w2 := Kw
    go_wp2_with fail
    go_ret2
    exact ⟨_, _, _, rfl, OR.mono ho2 (by simp; omega), Kw⟩
end Go.Proofs.Ytacjonkehcamgaa

/-
  DERIVED. What is drawn for solutions modulo a prime: DrawSolveMod.
-/
namespace Go.Proofs.Ytacjonkehcamgaa
open Go.RowKit
set_option linter.unusedVariables false
set_option linter.unusedSimpArgs false
/-- The call drew a matrix, a list and a number. -/
def DSM (wo : World) (e : Ending) (w' : World) : Prop := ∃ (r c : Int) (Am : Option Addr) (nm cm : Nat) (ys : List Int) (Ab : Option Addr) (nb cb : Nat) (bs : List Int) (p : Int), e = .returned (.tuple #[.agg #[.int .i64 r, .int .i64 c, .slice Am nm cm], .slice Ab nb cb, .int .i64 p]) ∧ OR w' wo.heap.size (.slice Am nm cm) ys ∧ OR w' wo.heap.size (.slice Ab nb cb) bs ∧ ys.length ≤ 17 ∧ bs.length ≤ 1001 ∧ (-1 ≤ p ∧ p ≤ 20000) ∧ (-1 ≤ r ∧ r ≤ 12) ∧ Below wo.heap.size wo w'
theorem ret_MT {fn : Func} {R : Ending → World → Prop} {a : Act} {w : World} {t s s2 : Tmp} {b n cap : Nat} {r c : Int} {A : Option Addr} (hr : fn.results = #[.cell t 26, .tmp s, .tmp s2])
    (ht : a.tmps.getD t undef = .pointer (some ⟨b, 0, none⟩)) (h : BM w b r c A n cap) (hd : a.defers = []) (hR : R (.returned (.tuple #[.agg #[.int .i64 r, .int .i64 c, .slice A n cap], a.tmps.getD s undef, a.tmps.getD s2 undef])) w) : bodyPost Try.prog fn R .ret a w :=
  bodyPost_ret (v := .tuple #[.agg #[.int .i64 r, .int .i64 c, .slice A n cap], a.tmps.getD s undef, a.tmps.getD s2 undef]) (by
    obtain ⟨r0, r1, r2, rf, rl⟩ := h.mx
    have ht' := ht
    simp only [Array.getD_eq_getD_getElem?] at ht'
    simp [results, hr, ht', go_sem, r0, r1, r2]) hd hR
set_option maxRecDepth 100000 in
set_option maxHeartbeats 8000000 in
theorem spec_DrawSolveMod (n cap : Nat) (A : Option Addr) (xs : List Int) (wo : World) (hby : RB wo wo.heap.size A n xs) (hn : n ≤ 2000000) :
    Calls Try.prog 34 #[.slice A n cap] wo (DSM wo) := by
  have HBY := Lib.hid hby
  clear hby
  go_enter Try.func34, Try.ntmps34
  go_wp2_with fail
  refine (spec_l1New n cap A xs _ (B := wo.heap.size) (by (with_reducible (repeat (first | exact HBY.out | refine RB.drew ?_ | refine RB.drewN ?_ _ | refine RB.alloc ?_ Ks _ | refine RB.setCell ?_ Ks _ | refine RB.below ?_ (by assumption) Ks)))) hn).mono ?_
  rintro e w ⟨b, rfl, hcu, hbs, hb2⟩
  have hsz2 := hb2.size
  simp at hsz2 hbs
  have hct : CT w w wo.heap.size b n cap A xs := CT.new hcu (by (with_reducible (repeat (first | exact HBY.out | refine RB.drew ?_ | refine RB.drewN ?_ _ | refine RB.alloc ?_ Ks _ | refine RB.setCell ?_ Ks _ | refine RB.below ?_ (by assumption) Ks)))) (by omega) hn
  have HB0 : Hid (Below wo.heap.size wo w) := Lib.hid Kw
  have hR0 : BM w wo.heap.size 0 0 none 0 0 := Ka
  have hb := hct.hb
  clear hb2 hcu
  go_wp2_with fail
  refine (spec_l3Square b n cap A xs _ (CT.self (w0 := w) (B := wo.heap.size) (by (with_reducible (repeat (first | exact hct | refine CT.drew ?_ | refine CT.drewN ?_ _ | refine CT.alloc ?_ _ | refine CT.far ?_ Ks _ | refine CT.below ?_ (by assumption) Ks)))))).mono ?_
  rintro e w1 ⟨v, rfl, ⟨r, c, Am, nm, cm, ys, rfl, ho1, hl1, hr1, hc1⟩, hct1⟩
  have hsz1 := hct1.size
  have hR1 : BM w1 wo.heap.size 0 0 none 0 0 := hR0.grown hct1.gr (by simp; omega)
  have hR : BM (w1.alloc (.cells #[.int .i64 r, .int .i64 c, .slice Am nm cm] 26)) wo.heap.size 0 0 none 0 0 := Kb hR1
  have hM : BM (w1.alloc (.cells #[.int .i64 r, .int .i64 c, .slice Am nm cm] 26)) w1.heap.size r c Am nm cm := Ka
  have ho : OR (w1.alloc (.cells #[.int .i64 r, .int .i64 c, .slice Am nm cm] 26)) w.heap.size (.slice Am nm cm) ys := ho1.alloc _
  have hct2 : CT w (w1.alloc (.cells #[.int .i64 r, .int .i64 c, .slice Am nm cm] 26)) wo.heap.size b n cap A xs := hct1.alloc _
  have hln := ho1.lenEq
  have hln2 : nm ≤ 17 ∧ nm ≤ ys.length ∧ ys.length ≤ nm := by omega
  have hs5 : w1.heap.size < (w1.alloc (.cells #[.int .i64 r, .int .i64 c, .slice Am nm cm] 26)).heap.size := by simp
  clear hct hct1 hR0 hR1 ho1 hln
  have hct := hct2
  clear hct2
  obtain ⟨oa, ob, oc, of, ol⟩ := hM.mx; obtain ⟨ra, rb, rc, rf, rl⟩ := hR.mx
  go_upto_region 3 with fail
  generalize (w1.alloc (.cells #[.int .i64 r, .int .i64 c, .slice Am nm cm] 26)) = w2 at *
  generalize hbm : w1.heap.size = bM at *
  have hwM : w.heap.size ≤ bM := by omega
  have ne1 : ¬ bM = wo.heap.size := by omega
  have ne2 : ¬ wo.heap.size = bM := by omega
  clear hbm
  ((refine wp_region_held_drew (S := (fun w' => w'.cell? ⟨bM, 0, none⟩ = some (.int .i64 r) ∧ w'.cell? ⟨bM, 1, none⟩ = some (.int .i64 c) ∧ w'.cell? ⟨bM, 2, none⟩ = some (.slice Am nm cm))) (by kernel_rfl) ?_ (fun hHeld => ?_)); ((focus ((try dsimp only); ((first | (go_keep; done) | exact ⟨oa, ob, oc⟩))))); ((refine tk_ (i := 0) (v := ?_) (y := Or.inl ⟨by rfl, ?_⟩) (h := ?_); rotate_left; (focus (((intro w hSw; (try dsimp only at hSw); go_simp) <;> (try with_reducible rfl)); done)); (try simp only [Act.put, p1_, p2_, p3_]))); ((refine tk_ (i := 1) (v := ?_) (y := Or.inl ⟨by rfl, ?_⟩) (h := ?_); rotate_left; (focus (((intro w hSw; (try dsimp only at hSw); go_simp) <;> (try with_reducible rfl)); done)); (try simp only [Act.put, p1_, p2_, p3_]))); ((refine tk_ (i := 2) (v := ?_) (y := Or.inl ⟨by rfl, ?_⟩) (h := ?_); rotate_left; (focus (((intro w hSw; (try dsimp only at hSw); go_simp) <;> (try with_reducible rfl)); done)); (try simp only [Act.put, p1_, p2_, p3_]))); ((refine tk_ (i := 3) (v := ?_) (y := Or.inl ⟨by rfl, ?_⟩) (h := ?_); rotate_left; (focus (((intro w hSw; (try dsimp only at hSw); go_simp) <;> (try with_reducible rfl)); done)); (try simp only [Act.put, p1_, p2_, p3_]))); ((refine tk_ (i := 5) (v := ?_) (y := Or.inl ⟨by rfl, ?_⟩) (h := ?_); rotate_left; (focus (((intro w hSw; (try dsimp only at hSw); go_simp) <;> (try with_reducible rfl)); done)); (try simp only [Act.put, p1_, p2_, p3_]))); (refine wpAnyH_ready (rs := [4]) (by kernel_rfl) (by simp) ?_); (refine AllReadyH.cons (by simp only [e1_, e2_, e3_]; try rfl) ?_ ?_); ((focus ((intro K hK); (go_simp); ((go_at_call 122; refine (spec_l8Right b n cap A xs r _ (CT.self (w0 := w) (B := wo.heap.size) (by (with_reducible (repeat (first | exact hct | refine CT.drew ?_ | refine CT.drewN ?_ _ | refine CT.alloc ?_ _ | refine CT.far ?_ Ks _ | refine CT.below ?_ (by assumption) Ks))))) (by omega)).mono ?_; rintro e w7 ⟨v, rfl, ⟨Ab, nb, cb, bs, rfl, hob, hlb⟩, hc1⟩; have hob2 : OR w7 w.heap.size (.slice Ab nb cb) bs := OR.mono hob Ks; clear hob; have hct_1 : CT w w7 wo.heap.size b n cap A xs := CT.trans (by (with_reducible (repeat (first | exact hct | refine CT.drew ?_ | refine CT.drewN ?_ _ | refine CT.alloc ?_ _ | refine CT.far ?_ Ks _ | refine CT.below ?_ (by assumption) Ks)))) hc1; have hR_1 : BM w7 wo.heap.size 0 0 none 0 0 := BX.grown (Kb hR) hc1.gr (fun e => by injection e; omega); have hM_1 : BM w7 bM (r) (c) Am nm cm := BX.grown (Kb hM) hc1.gr (fun e => by injection e; omega); have ho_1 : OR w7 w.heap.size (.slice Am nm cm) ys := OR.turned (Ko ho) hc1 (by omega); clear oa ob oc of ol ra rb rc rf rl; clear hct hM hR ho; have hct := hct_1; have hM := hM_1; have hR := hR_1; have ho := ho_1; clear hct_1 hM_1 hR_1 ho_1; have hszw7 := hc1.size; (try simp at hszw7); clear hc1; obtain ⟨oa, ob, oc, of, ol⟩ := hM.mx; obtain ⟨ra, rb, rc, rf, rl⟩ := hR.mx)); ((try go_wp2_with fail)); (refine hK.out _ _ ?_ (fun hHeld => ?_)); ((focus ((try dsimp only); ((first | (go_keep; done) | exact ⟨oa, ob, oc⟩))))); (clear hK K); ((try simp only [Act.put, p1_, p2_, p3_])); (refine wpAnyH_ready (rs := [6]) (by kernel_rfl) (by simp) ?_); (refine AllReadyH.cons (by simp only [e1_, e2_, e3_]; try rfl) ?_ ?_); ((focus ((intro K hK); (go_simp); ((go_at_call 123; refine (spec_l8Prime b n cap A xs _ (CT.self (w0 := w) (B := wo.heap.size) (by (with_reducible (repeat (first | exact hct | refine CT.drew ?_ | refine CT.drewN ?_ _ | refine CT.alloc ?_ _ | refine CT.far ?_ Ks _ | refine CT.below ?_ (by assumption) Ks)))))).mono ?_; rintro e w8 ⟨v, rfl, ⟨p, rfl, hp1, hp2⟩, hc1⟩; have hob3 : OR w8 w.heap.size (.slice Ab nb cb) bs := OR.turned (Ko hob2) hc1 (by omega); have hct_1 : CT w w8 wo.heap.size b n cap A xs := CT.trans (by (with_reducible (repeat (first | exact hct | refine CT.drew ?_ | refine CT.drewN ?_ _ | refine CT.alloc ?_ _ | refine CT.far ?_ Ks _ | refine CT.below ?_ (by assumption) Ks)))) hc1; have hR_1 : BM w8 wo.heap.size 0 0 none 0 0 := BX.grown (Kb hR) hc1.gr (fun e => by injection e; omega); have hM_1 : BM w8 bM (r) (c) Am nm cm := BX.grown (Kb hM) hc1.gr (fun e => by injection e; omega); have ho_1 : OR w8 w.heap.size (.slice Am nm cm) ys := OR.turned (Ko ho) hc1 (by omega); clear oa ob oc of ol ra rb rc rf rl; clear hct hM hR ho; have hct := hct_1; have hM := hM_1; have hR := hR_1; have ho := ho_1; clear hct_1 hM_1 hR_1 ho_1; have hszw8 := hc1.size; (try simp at hszw8); clear hc1; obtain ⟨oa, ob, oc, of, ol⟩ := hM.mx; obtain ⟨ra, rb, rc, rf, rl⟩ := hR.mx)); ((try go_wp2_with fail)); (refine hK.out _ _ ?_ (fun hHeld => ?_)); ((focus ((try dsimp only); ((first | (go_keep; done) | exact ⟨oa, ob, oc⟩))))); (clear hK K); ((try simp only [Act.put, p1_, p2_, p3_])); (refine wpAnyH_ready (rs := [7]) (by kernel_rfl) (by simp) ?_); (refine AllReadyH.cons (by simp only [e1_, e2_, e3_]; try rfl) ?_ ?_); ((focus ((intro K hK); (go_simp); ((try go_wp2_with fail)); (refine hK.out _ _ ?_ (fun hHeld => ?_)); ((focus ((try dsimp only); ((first | (go_keep; done) | exact ⟨oa, ob, oc⟩))))); (clear hK K); ((try simp only [Act.put, p1_, p2_, p3_])); ((refine tk_ (i := 8) (v := ?_) (y := Or.inl ⟨by rfl, ?_⟩) (h := ?_); rotate_left; (focus (((intro w hSw; (try dsimp only at hSw); go_simp) <;> (try with_reducible rfl)); done)); (try simp only [Act.put, p1_, p2_, p3_]))); ((refine tk_ (i := 9) (v := ?_) (y := Or.inl ⟨by rfl, ?_⟩) (h := ?_); rotate_left; (focus (((intro w hSw; (try dsimp only at hSw); go_simp) <;> (try with_reducible rfl)); done)); (try simp only [Act.put, p1_, p2_, p3_]))); (refine wpAnyH_done (by kernel_rfl) ?_ _)))); (rotate_left 1); (exact AllReadyH.nil)))); (rotate_left 1); (exact AllReadyH.nil)))); (rotate_left 1); (exact AllReadyH.nil))
  have hvr := B3.of hR
  have hbw8 : Below wo.heap.size wo w8 := HB0.out.trans (CT.under hct (by omega))
  have KM : OR w8 (wo.heap.size + 1) (.slice Am nm cm) ys := OR.mono ho (by omega)
  have KB : OR w8 (wo.heap.size + 1) (.slice Ab nb cb) bs := OR.mono hob3 (by omega)
  go_wp2_with fail
  refine ret_MT (b := wo.heap.size) (r := r) (c := c) (A := Am) (n := nm) (cap := cm) Try.results34 rfl (Kb hvr) rfl ?_
  exact ⟨r, c, Am, nm, cm, ys, Ab, nb, cb, bs, p, rfl, OR.mono (B := wo.heap.size + 1) (Ko KM) (by omega), OR.mono (B := wo.heap.size + 1) (Ko KB) (by omega), by omega, by omega, ⟨hp1, hp2⟩, hr1, Kw⟩
end Go.Proofs.Ytacjonkehcamgaa

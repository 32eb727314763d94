/-
  DERIVED. ChineseOf (both).
-/
import Derived.Test.YtlggfmfelakadaaGreatDoorc3
import Derived.Test.YtlggfmfelakadaaGreatDoorc2
import Derived.Test.YtlggfmfelakadaaGreatDoorMxx
namespace Go.Proofs.YtlggfmfelakadaaGreatDoor
open Go.RowKit
set_option linter.unusedVariables false
set_option linter.unusedSimpArgs false
theorem ch_no {rs ms : List Int} (h : chB rs ms = false) : chV rs ms = (0, 0) := by unfold chV; rw [h]; rfl
theorem ch_yes {rs ms : List Int} (h : chB rs ms = true) : chV rs ms = chF 0 1 rs ms := by unfold chV; rw [h]; rfl
theorem ch_cases (rs ms : List Int) : (chB rs ms = false ∧ modsOk ms = false) ∨ (chB rs ms = false ∧ modsOk ms = true ∧ rs.length ≠ ms.length) ∨ (chB rs ms = false ∧ modsOk ms = true ∧ rs.length = ms.length ∧ rs.all isNum = false) ∨
    (chB rs ms = true ∧ modsOk ms = true ∧ rs.length = ms.length ∧ rs.all isNum = true) := by
  unfold chB
  cases h1 : modsOk ms <;> cases h3 : rs.all isNum <;> by_cases h2 : rs.length = ms.length <;> simp_all
theorem chF_cons {x p : Int} {rs ms : List Int} {k : Nat} (h1 : k < rs.length) (h2 : k < ms.length) :
    chF x p (rs.drop k) (ms.drop k) = chF (x + p * chK x p (rs.getD k 0) (ms.getD k 0)) (p * ms.getD k 0) (rs.drop (k + 1)) (ms.drop (k + 1)) := by
  rw [drop_cons h1, drop_cons h2, chF]
theorem chF_end {x p : Int} {rs ms : List Int} {k : Nat} (h1 : ms.length ≤ k) : chF x p (rs.drop k) (ms.drop k) = (x, p) := by
  rw [List.drop_of_length_le h1]
  cases rs.drop k <;> rfl
theorem vch {x p : Int} {q : Int × Int} {b b' : Bool} (h : q = (x, p)) (h' : b' = b) : Value.tuple #[.int .i64 x, .int .i64 p, .bool b] = .tuple #[.int .i64 q.1, .int .i64 q.2, .bool b'] := by subst h; subst h'; rfl
set_option maxHeartbeats 4000000 in
theorem impl_ChineseOf (A A' : Option Addr) (n n' cap cap' : Nat) (rs ms : List Int) (w : World) {B B' : Nat} (h : RI w B A n rs) (h' : RI w B' A' n' ms) (hB : B ≤ w.heap.size) (hB' : B' ≤ w.heap.size) (hn : n ≤ 1048576) (hn' : n' ≤ 1048576) (hnc : n' ≤ cap') :
    Calls Tryz.prog 44 #[.slice A n cap, .slice A' n' cap'] w (BV (.tuple #[.int .i64 (chV rs ms).1, .int .i64 (chV rs ms).2, .bool (chB rs ms)]) w) := by
  have hl := h.len
  have hl' := h'.len
  have hlx : rs.length ≤ n ∧ n ≤ rs.length := by omega
  have hlx' : ms.length ≤ n' ∧ n' ≤ ms.length := by omega
  have H2 := Lib.hid (h.more hB)
  have H3 := Lib.hid (h'.more hB')
  clear h h' hl hl'
  rcases ch_cases rs ms with ⟨hb, hm⟩ | ⟨hb, hm, hne⟩ | ⟨hb, hm, hne, ha⟩ | ⟨hb, hm, hne, ha⟩
  · rw [ch_no hb, hb]
    clear hb
    go_enter Tryz.func44, Tryz.ntmps44
    go_wp2_with (first | (go_at_call 70; refine (impl_AreModuli A' n' cap' ms _ H3.out hn' hnc).mono ?_; rw [hm]; rintro e w' ⟨rfl, nd, rfl⟩))
    go_ret3
    exact BV.mk rfl Kw
  · rw [ch_no hb, hb]
    have hnb : ((n : Int) != (n' : Int)) = true := by simp; omega
    clear hb hne
    go_enter Tryz.func44, Tryz.ntmps44
    go_wp2_with (first | (go_at_call 70; refine (impl_AreModuli A' n' cap' ms _ H3.out hn' hnc).mono ?_; rw [hm]; rintro e w' ⟨rfl, nd, rfl⟩))
    go_ret3
    exact BV.mk rfl Kw
  · rw [ch_no hb, hb]
    have hnb : ((n : Int) != (n' : Int)) = false := by simp; omega
    have HA := Lib.hid ha
    clear hb hne ha
    go_enter Tryz.func44, Tryz.ntmps44
    go_wp2_with (first | (go_at_call 70; refine (impl_AreModuli A' n' cap' ms _ H3.out hn' hnc).mono ?_; rw [hm]; rintro e w' ⟨rfl, nd, rfl⟩) | (go_at_call 52; refine (impl_areNumbers A n cap rs _ (H2.out.drewN _) hn).mono ?_; rw [HA.out]; rintro e w' ⟨rfl, rfl⟩))
    go_ret3
    exact BV.mk rfl Kw
  · rw [ch_yes hb, hb]
    have hnb : ((n : Int) != (n' : Int)) = false := by simp; omega
    have HA := Lib.hid ha
    obtain ⟨g1, g2, _, _⟩ := chB_iff.1 hb
    have hnn : n ≤ n' ∧ n' ≤ n := by omega
    have HF0 : Hid (spF 1 ms = true) := Lib.hid g1
    have hn8 : n' ≤ 8 := by omega
    clear hb hne ha g1 g2
    go_enter Tryz.func44, Tryz.ntmps44
    go_wp2_with (first | (go_at_call 70; refine (impl_AreModuli A' n' cap' ms _ H3.out hn' hnc).mono ?_; rw [hm]; rintro e w' ⟨rfl, nd, rfl⟩) | (go_at_call 52; refine (impl_areNumbers A n cap rs _ (H2.out.drewN _) hn).mono ?_; rw [HA.out]; rintro e w' ⟨rfl, rfl⟩))
    go_loopw [7, 8, 29] (fun u v z wr => ∃ (k : Nat) (x p : Int), u = .int .i64 x ∧ v = .int .i64 p ∧ z = .int .i64 k ∧ k ≤ n' ∧ 0 ≤ x ∧ x < p ∧ p ≤ 400000000 ∧ chF x p (rs.drop k) (ms.drop k) = chF 0 1 rs ms ∧ spF p (ms.drop k) = true ∧ Below w.heap.size w wr) (fun _ _ z _ => n' - (intOf z).toNat)
    case atStart => exact ⟨0, 0, 1, rfl, rfl, rfl, Nat.zero_le _, by omega, by omega, by omega, rfl, HF0.out, Kw⟩
    case round =>
      obtain ⟨k, x, p, rfl, rfl, rfl, hk, hx0, hxp, hp, hF, hS, hbw⟩ := hrel
      by_cases hlt : k < n'
      · rw [chF_cons (by omega) (by omega)] at hF
        rw [drop_cons (by omega)] at hS
        obtain ⟨q1, q2, q3, q4, q5⟩ := spF_cons hS (by omega)
        obtain ⟨b, o, rfl, hbb, hcells⟩ := H2.out.2 (by omega)
        have c1 := (hbw.cell (p := ⟨b, o + k, none⟩) hbb).trans (hcells k (by omega))
        have l1 := Nat.lt_of_lt_of_le hbb hbw.size
        obtain ⟨b', o', rfl, hbb', hcells'⟩ := H3.out.2 (by omega)
        have c2 := (hbw.cell (p := ⟨b', o' + k, none⟩) hbb').trans (hcells' k (by omega))
        have l2 := Nat.lt_of_lt_of_le hbb' hbw.size
        obtain ⟨r1, r2⟩ := all_getD HA.out k
        clear hcells hcells' hS
        generalize rs.getD k 0 = r at *
        generalize ms.getD k 0 = m at *
        obtain ⟨s1, s2, s3, s4⟩ := ch_step (r := r) hx0 hxp q1 q3
        obtain ⟨t1, t2⟩ := chK_bds x p r m (by omega)
        obtain ⟨i1, i2⟩ := invOf_bds p m (by omega)
        have HK := Lib.hid (chK_impl x p r m (by omega))
        obtain ⟨u1, u2⟩ := tmod_lt (r - x) m (by omega)
        have hm1 := mul_bd2 ((r - x).tmod m) (invOf p m) 400000000 400000000 (by omega) (by omega) i1 (by omega)
        obtain ⟨m1, m2⟩ := hm1
        have HF := Lib.hid hF
        have HS := Lib.hid q5
        clear hF q5
        have k0 : (0 : Int) ≤ (k : Int) := by omega
        have k1 : (k : Int) < (n : Int) := by omega
        have hw1 : IntKind.i64.wrap (r - x) = r - x := IntWalk.i64_in _ (by omega)
        have hw2 : IntKind.i64.wrap ((r - x).tmod m * invOf p m) = (r - x).tmod m * invOf p m := IntWalk.i64_in _ (by omega)
        have hm0 : ¬ m = 0 := by omega
        go_wp2_with fail
        ((refine wp_region_held_drew (S := (fun w' => w'.cell? ⟨b, o + k, none⟩ = some (.int .i64 r))) (by kernel_rfl) ?_ (fun hHeld => ?_)); ((focus ((try dsimp only); (go_keep)))); ((refine tk_ (i := 0) (v := ?_) (y := Or.inl ⟨by rfl, ?_⟩) (h := ?_); rotate_left; (focus (((intro w hSw; (try dsimp only at hSw); go_simp) <;> (try with_reducible rfl)); done)); (try simp only [Act.put, p1_, p2_, p3_]))); ((refine tk_ (i := 1) (v := ?_) (y := Or.inl ⟨by rfl, ?_⟩) (h := ?_); rotate_left; (focus (((intro w hSw; (try dsimp only at hSw); go_simp) <;> (try with_reducible rfl)); done)); (try simp only [Act.put, p1_, p2_, p3_]))); ((refine tk_ (i := 2) (v := ?_) (y := Or.inl ⟨by rfl, ?_⟩) (h := ?_); rotate_left; (focus (((intro w hSw; (try dsimp only at hSw); go_simp) <;> (try with_reducible rfl)); done)); (try simp only [Act.put, p1_, p2_, p3_]))); ((refine tk_ (i := 3) (v := ?_) (y := Or.inl ⟨by rfl, ?_⟩) (h := ?_); rotate_left; (focus (((intro w hSw; (try dsimp only at hSw); go_simp) <;> (try with_reducible rfl)); done)); (try simp only [Act.put, p1_, p2_, p3_]))); ((refine tk_ (i := 4) (v := ?_) (y := Or.inl ⟨by rfl, ?_⟩) (h := ?_); rotate_left; (focus (((intro w hSw; (try dsimp only at hSw); go_simp) <;> (try with_reducible rfl)); done)); (try simp only [Act.put, p1_, p2_, p3_]))); ((refine tk_ (i := 5) (v := ?_) (y := Or.inl ⟨by rfl, ?_⟩) (h := ?_); rotate_left; (focus (((intro w hSw; (try dsimp only at hSw); go_simp) <;> (try with_reducible rfl)); done)); (try simp only [Act.put, p1_, p2_, p3_]))); ((refine tk_ (i := 6) (v := ?_) (y := Or.inl ⟨by rfl, ?_⟩) (h := ?_); rotate_left; (focus (((intro w hSw; (try dsimp only at hSw); go_simp) <;> (try with_reducible rfl)); done)); (try simp only [Act.put, p1_, p2_, p3_]))); ((refine tk_ (i := 7) (v := ?_) (y := Or.inl ⟨by rfl, ?_⟩) (h := ?_); rotate_left; (focus (((intro w hSw; (try dsimp only at hSw); go_simp) <;> (try with_reducible rfl)); done)); (try simp only [Act.put, p1_, p2_, p3_]))); ((refine tk_ (i := 8) (v := ?_) (y := Or.inl ⟨by rfl, ?_⟩) (h := ?_); rotate_left; (focus (((intro w hSw; (try dsimp only at hSw); go_simp) <;> (try with_reducible rfl)); done)); (try simp only [Act.put, p1_, p2_, p3_]))); ((refine tk_ (i := 9) (v := ?_) (y := Or.inl ⟨by rfl, ?_⟩) (h := ?_); rotate_left; (focus (((intro w hSw; (try dsimp only at hSw); go_simp) <;> (try with_reducible rfl)); done)); (try simp only [Act.put, p1_, p2_, p3_]))); ((refine tk_ (i := 12) (v := ?_) (y := Or.inl ⟨by rfl, ?_⟩) (h := ?_); rotate_left; (focus (((intro w hSw; (try dsimp only at hSw); go_simp) <;> (try with_reducible rfl)); done)); (try simp only [Act.put, p1_, p2_, p3_]))); ((refine wpAnyH_ready (rs := [10]) (by kernel_rfl) (by simp) ?_; refine AllReadyH.cons (by simp only [e1_, e2_, e3_]; try rfl) (fun K hK => ?_) AllReadyH.nil; go_simp; (refine (impl_inverseAny p m (by omega) (by omega) _).mono ?_; rintro e w1 ⟨rfl, hb1⟩; have c3 := (bkeepb b hb1 (by simpa using l1)).1 (o + k); have hb2 := hb1.size); (try go_wp2_with fail); refine hK.out _ _ ?_ (fun hHeld => ?_); (focus ((try dsimp only); (go_keep))); clear hK K; (try simp only [Act.put, p1_, p2_, p3_]))); ((refine tk_ (i := 11) (v := ?_) (y := Or.inl ⟨by rfl, ?_⟩) (h := ?_); rotate_left; (focus (((intro w hSw; (try dsimp only at hSw); go_simp) <;> (try with_reducible rfl)); done)); (try simp only [Act.put, p1_, p2_, p3_]))); ((refine wpAnyH_ready (rs := [13]) (by kernel_rfl) (by simp) ?_; refine AllReadyH.cons (by simp only [e1_, e2_, e3_]; try rfl) (fun K hK => ?_) AllReadyH.nil; go_simp; (refine (impl_mod _ m _ (by omega) (by omega) (by omega) (by omega)).mono ?_; rw [HK.out]; rintro e w' ⟨rfl, rfl⟩); (try go_wp2_with fail); refine hK.out _ _ ?_ (fun hHeld => ?_); (focus ((try dsimp only); (go_keep))); clear hK K; (try simp only [Act.put, p1_, p2_, p3_]))); ((refine tk_ (i := 14) (v := ?_) (y := Or.inl ⟨by rfl, ?_⟩) (h := ?_); rotate_left; (focus (((intro w hSw; (try dsimp only at hSw); go_simp) <;> (try with_reducible rfl)); done)); (try simp only [Act.put, p1_, p2_, p3_]))); (refine wpAnyH_done (by kernel_rfl) ?_ _))
        clear c1 c2
        have hbs := hbw.size
        go_wp2_with fail
        go_roundw
        case rel => exact ⟨k + 1, x + p * chK x p r m, p * m, rfl, rfl, by go_num, by omega, by omega, by omega, by omega, HF.out, HS.out, Kw⟩
        case measure => simp only [intOf]; omega
      · have HF := Lib.hid (hF.symm.trans (chF_end (show ms.length ≤ k by omega)))
        clear hF
        go_wp2_with fail
        go_ret3
        exact BV.mk (vch HF.out rfl) Kw
end Go.Proofs.YtlggfmfelakadaaGreatDoor

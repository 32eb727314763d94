/-
  DERIVED. timesMod.
-/
import Derived.Test.YtlggfmfelakadaaGreatDoorc8
import Derived.Test.YtlggfmfelakadaaGreatDoorc1
import Derived.Test.YtlggfmfelakadaaGreatDoorInvIx
import Derived.Test.YtlggfmfelakadaaGreatDoorc2
namespace Go.Proofs.YtlggfmfelakadaaGreatDoor
open Go.RowKit
set_option linter.unusedVariables false
set_option linter.unusedSimpArgs false
theorem fillTo_setV {xs : List Int} {n k : Nat} {v : Int} (hx : xs.length = n) (hk : k < n) (hv : xs.getD k 0 = v) : (fillTo xs n k).set k v = fillTo xs n (k + 1) := by
  subst hv; exact fillTo_set hx hk
/-- The call returned a list of its own and the flag. -/
def IBT (ys : List Int) (b : Bool) (w : World) (e : Ending) (w' : World) : Prop :=
  ∃ A n cap, e = .returned (.tuple #[.slice A n cap, .bool b]) ∧ OR w' w.heap.size (.slice A n cap) ys ∧ Below w.heap.size w w'
set_option maxRecDepth 100000 in
set_option maxHeartbeats 8000000 in
theorem impl_timesMod (R L : Nat) (p : Int) (A Ab : Option Addr) (n cap nb capb : Nat) (f : Nat → Nat → Int) (bs : List Int) (w : World) {B B' : Nat} (h : RI w B A n (tb R L f)) (hb : RI w B' Ab nb bs) (hB : B ≤ w.heap.size) (hB' : B' ≤ w.heap.size) (hn : n ≤ 1048576)
    (hR : R ≤ 24) (hL : L ≤ 24) (hlb : nb = L) (hp : 2 ≤ p ∧ p ≤ 10000) (hf : ∀ i c : Nat, 0 ≤ f i c ∧ f i c < p) (hbd : ∀ k, -9223372036854775808 ≤ bs.getD k 0 ∧ bs.getD k 0 ≤ 9223372036854775807) :
    Calls Tryz.prog 32 #[.agg #[.int .i64 R, .int .i64 L, .slice A n cap], .slice Ab nb capb, .int .i64 p] w (IR (smL R L f bs p) w) := by
  obtain ⟨i0, hi, hz0, hz1, hz2⟩ := info_parts int_info
  obtain ⟨hp1, hp2⟩ := hp
  have hln := h.len
  rw [tb_len] at hln
  have hln2 : R * L ≤ n ∧ n ≤ R * L := by omega
  have H2 := Lib.hid (h.more hB)
  have H3 := Lib.hid (hb.more hB')
  have HF := Lib.hid hf
  have HBD := Lib.hid hbd
  subst hlb
  have hRL : R * nb ≤ 24 * 24 := Nat.mul_le_mul hR hL
  clear h hb hf hbd hln
  go_enter Tryz.func32, Tryz.ntmps32
  go_wp2_with (at_make; go_loud (refine wpList_make_full _ rfl _ _ 24 rfl (w.heap.size + 1) 3 i0 (.int .i64 0) 1 Tryz.underlying24 hi hz0 hz1 _ _ _ _ R rfl rfl rfl rfl ?b2 ?b3 ?b4 ?_))
  case b2 => rw [hz2]; omega
  case b3 => unfold maxLen; omega
  case b4 => simp
  intro w0 hown0 hgrow0
  have h0 := OR.of_made hown0
  have hb0 : Below (w.heap.size + 1) (w.alloc (.cells #[.int .i64 R, .int .i64 nb, .slice A n cap] 26)) w0 := (Below.refl _ _).grown hgrow0 (by simp) (by simp)
  have hM : BM w0 w.heap.size R nb A n cap := Ka
  have hbw : Below w.heap.size w w0 := Below.trans (show Below w.heap.size w (w.alloc (.cells #[.int .i64 R, .int .i64 nb, .slice A n cap] 26)) from Kw) (hb0.mono (by omega))
  have hsz0 := hb0.size
  simp at hsz0
  clear hown0 hgrow0 hb0
  go_wp2_with fail
  go_loopw [16] (fun v wr => ∃ i : Nat, v = .int .i64 i ∧ i ≤ R ∧ BM wr w.heap.size R nb A n cap ∧ OR wr (w.heap.size + 1) (.slice (some ⟨w.heap.size + 1, 0, none⟩) R R) (fillTo (smL R nb f bs p) R i) ∧ Below w.heap.size w wr) (fun v _ => R - (intOf v).toNat)
  case atStart => exact ⟨0, rfl, Nat.zero_le _, hM, by rw [fillTo_zero]; exact h0, hbw⟩
  case round =>
    clear hM h0 hbw
    obtain ⟨i, rfl, hi, hM, how, hbw⟩ := hrel
    by_cases hiR : i < R
    · obtain ⟨oa, ob, oc, of, ol⟩ := hM.mx
      go_wp2_with fail
      obtain ⟨wo2, rfl⟩ : ∃ wo : World, wo = wr := ⟨_, rfl⟩
      go_loopw [9, 21] (fun u v wr => ∃ k : Nat, v = .int .i64 k ∧ u = .int .i64 (smS f bs p i k) ∧ k ≤ nb ∧ BM wr w.heap.size R nb A n cap ∧ OR wr (w.heap.size + 1) (.slice (some ⟨w.heap.size + 1, 0, none⟩) R R) (fillTo (smL R nb f bs p) R i) ∧ Below w.heap.size w wr) (fun _ v _ => nb - (intOf v).toNat)
      case atStart => exact ⟨0, rfl, rfl, Nat.zero_le _, hM, how, hbw⟩
      case round =>
        clear oa ob oc of ol
        clear hM how hbw
        obtain ⟨k, rfl, rfl, hk, hM, how, hbw⟩ := hrel
        obtain ⟨oa, ob, oc, of, ol⟩ := hM.mx
        by_cases hkL : k < nb
        · obtain ⟨bb, oo, rfl, hbb, _⟩ := H3.out.2 (by omega)
          have hbi : RI wr w.heap.size (some ⟨bb, oo, none⟩) nb bs := Kr H3.out
          have c2 := hbi.at_ hkL
          obtain ⟨z1, z2⟩ := HBD.out k
          obtain ⟨y1, y2⟩ := HF.out i k
          obtain ⟨s1, s2⟩ := smS_bd (f := f) (bs := bs) hp1 i k
          have hstep : smS f bs p i (k + 1) = (smS f bs p i k + f i k * (bs.getD k 0 % p)) % p := rfl
          have hcel : cel (tb R nb f) nb i k = f i k := cel_tb hiR hkL
          have HCEL := Lib.hid hcel
          have HSTEP := Lib.hid hstep
          have hix := idx_nat hiR hkL
          have i1 : (i : Int) * (nb : Int) = ((i * nb : Nat) : Int) := by rw [Int.natCast_mul]
          have i2 : 0 ≤ (i : Int) * (nb : Int) ∧ (i : Int) * (nb : Int) ≤ 10000 := by omega
          have i3 : (i : Int) * (nb : Int) + (k : Int) < (n : Int) := by omega
          obtain ⟨z, hz⟩ : ∃ z, bs.getD k 0 = z := ⟨_, rfl⟩
          have HZ := Lib.hid hz
          rw [hz] at c2 z1 z2 hstep
          have m1 := Int.emod_nonneg z (show p ≠ 0 by omega)
          have m2 := Int.emod_lt_of_pos z (show 0 < p by omega)
          obtain ⟨m3, m4⟩ := mul_bd (f i k) (z % p) 10000 10000 y1 (by omega) m1 (by omega)
          have g1 : IntKind.i64.wrap (f i k * (z % p)) = f i k * (z % p) := IntWalk.i64_in _ (by omega)
          have g2 : IntKind.i64.wrap (smS f bs p i k + f i k * (z % p)) = smS f bs p i k + f i k * (z % p) := IntWalk.i64_in _ (by omega)
          clear hcel hstep hz i1
          go_wp2_with fail
          ((refine wp_region_held_drew (S := (fun w' => w'.cell? ⟨w.heap.size, 0, none⟩ = some (.int .i64 R) ∧ w'.cell? ⟨w.heap.size, 1, none⟩ = some (.int .i64 nb) ∧ w'.cell? ⟨w.heap.size, 2, none⟩ = some (.slice A n cap) ∧ w'.cell? ⟨bb, oo + k, none⟩ = some (.int .i64 z))) (by kernel_rfl) ?_ (fun hHeld => ?_)); ((focus ((try dsimp only); (go_keep)))); ((refine tk_ (i := 0) (v := ?_) (y := Or.inl ⟨by rfl, ?_⟩) (h := ?_); rotate_left; (focus (((intro w hSw; (try dsimp only at hSw); go_simp) <;> (try with_reducible rfl)); done)); (try simp only [Act.put, p1_, p2_, p3_]))); ((refine tk_ (i := 1) (v := ?_) (y := Or.inl ⟨by rfl, ?_⟩) (h := ?_); rotate_left; (focus (((intro w hSw; (try dsimp only at hSw); go_simp) <;> (try with_reducible rfl)); done)); (try simp only [Act.put, p1_, p2_, p3_]))); ((refine tk_ (i := 2) (v := ?_) (y := Or.inl ⟨by rfl, ?_⟩) (h := ?_); rotate_left; (focus (((intro w hSw; (try dsimp only at hSw); go_simp) <;> (try with_reducible rfl)); done)); (try simp only [Act.put, p1_, p2_, p3_]))); ((refine tk_ (i := 3) (v := ?_) (y := Or.inl ⟨by rfl, ?_⟩) (h := ?_); rotate_left; (focus (((intro w hSw; (try dsimp only at hSw); go_simp) <;> (try with_reducible rfl)); done)); (try simp only [Act.put, p1_, p2_, p3_]))); ((refine tk_ (i := 5) (v := ?_) (y := Or.inl ⟨by rfl, ?_⟩) (h := ?_); rotate_left; (focus (((intro w hSw; (try dsimp only at hSw); go_simp) <;> (try with_reducible rfl)); done)); (try simp only [Act.put, p1_, p2_, p3_]))); ((refine tk_ (i := 6) (v := ?_) (y := Or.inl ⟨by rfl, ?_⟩) (h := ?_); rotate_left; (focus (((intro w hSw; (try dsimp only at hSw); go_simp) <;> (try with_reducible rfl)); done)); (try simp only [Act.put, p1_, p2_, p3_]))); ((refine tk_ (i := 7) (v := ?_) (y := Or.inl ⟨by rfl, ?_⟩) (h := ?_); rotate_left; (focus (((intro w hSw; (try dsimp only at hSw); go_simp) <;> (try with_reducible rfl)); done)); (try simp only [Act.put, p1_, p2_, p3_]))); ((refine tk_ (i := 8) (v := ?_) (y := Or.inl ⟨by rfl, ?_⟩) (h := ?_); rotate_left; (focus (((intro w hSw; (try dsimp only at hSw); go_simp) <;> (try with_reducible rfl)); done)); (try simp only [Act.put, p1_, p2_, p3_]))); ((refine tk_ (i := 9) (v := ?_) (y := Or.inl ⟨by rfl, ?_⟩) (h := ?_); rotate_left; (focus (((intro w hSw; (try dsimp only at hSw); go_simp) <;> (try with_reducible rfl)); done)); (try simp only [Act.put, p1_, p2_, p3_]))); ((refine tk_ (i := 13) (v := ?_) (y := Or.inl ⟨by rfl, ?_⟩) (h := ?_); rotate_left; (focus (((intro w hSw; (try dsimp only at hSw); go_simp) <;> (try with_reducible rfl)); done)); (try simp only [Act.put, p1_, p2_, p3_]))); ((refine wpAnyH_ready (rs := [4]) (by kernel_rfl) (by simp) ?_; refine AllReadyH.cons (by simp only [e1_, e2_, e3_]; try rfl) (fun K hK => ?_) AllReadyH.nil; go_simp; (refine (impl_at R nb i k A n cap (tb R nb f) _ (C := w.heap.size) (Kr H2.out) Ks i2 ⟨by omega, by omega⟩ i3).mono ?_; rw [HCEL.out]; rintro e w3 ⟨rfl, hb3⟩; have hsz_0 := hb3.size; (try simp at hsz_0); have hM_1 : BM w3 w.heap.size R nb A n cap := (Kb hM); have how_1 : OR w3 (w.heap.size + 1) (.slice (some ⟨w.heap.size + 1, 0, none⟩) R R) (fillTo (smL R nb f bs p) R i) := (Ko how); have hbi_1 : RI w3 w.heap.size (some ⟨bb, oo, none⟩) nb bs := (Kr hbi); have hbw_1 : Below w.heap.size w w3 := Kw; clear oa ob oc of ol; clear hM how hbi hbw c2; have hM := hM_1; have how := how_1; have hbi := hbi_1; have hbw := hbw_1; clear hM_1 how_1 hbi_1 hbw_1; obtain ⟨oa, ob, oc, of, ol⟩ := hM.mx; have c2 := hbi.at_ (k := k) (by omega); rw [HZ.out] at c2); (try go_wp2_with fail); refine hK.out _ _ ?_ (fun hHeld => ?_); (focus ((try dsimp only); (go_keep))); clear hK K; (try simp only [Act.put, p1_, p2_, p3_]))); ((refine wpAnyH_ready (rs := [10]) (by kernel_rfl) (by simp) ?_; refine AllReadyH.cons (by simp only [e1_, e2_, e3_]; try rfl) (fun K hK => ?_) AllReadyH.nil; go_simp; (go_at_call 64; refine (impl_mod _ _ _ (by omega) (by omega) (by omega) (by omega)).mono ?_; rintro e w' ⟨rfl, rfl⟩); (try go_wp2_with fail); refine hK.out _ _ ?_ (fun hHeld => ?_); (focus ((try dsimp only); (go_keep))); clear hK K; (try simp only [Act.put, p1_, p2_, p3_]))); ((refine tk_ (i := 11) (v := ?_) (y := Or.inl ⟨by rfl, ?_⟩) (h := ?_); rotate_left; (focus (((intro w hSw; (try dsimp only at hSw); go_simp) <;> (try with_reducible rfl)); done)); (try simp only [Act.put, p1_, p2_, p3_]))); ((refine tk_ (i := 12) (v := ?_) (y := Or.inl ⟨by rfl, ?_⟩) (h := ?_); rotate_left; (focus (((intro w hSw; (try dsimp only at hSw); go_simp) <;> (try with_reducible rfl)); done)); (try simp only [Act.put, p1_, p2_, p3_]))); ((refine wpAnyH_ready (rs := [14]) (by kernel_rfl) (by simp) ?_; refine AllReadyH.cons (by simp only [e1_, e2_, e3_]; try rfl) (fun K hK => ?_) AllReadyH.nil; go_simp; (go_at_call 64; refine (impl_mod _ _ _ (by omega) (by omega) (by omega) (by omega)).mono ?_; rintro e w' ⟨rfl, rfl⟩); (try go_wp2_with fail); refine hK.out _ _ ?_ (fun hHeld => ?_); (focus ((try dsimp only); (go_keep))); clear hK K; (try simp only [Act.put, p1_, p2_, p3_]))); ((refine tk_ (i := 15) (v := ?_) (y := Or.inl ⟨by rfl, ?_⟩) (h := ?_); rotate_left; (focus (((intro w hSw; (try dsimp only at hSw); go_simp) <;> (try with_reducible rfl)); done)); (try simp only [Act.put, p1_, p2_, p3_]))); (refine wpAnyH_done (by kernel_rfl) ?_ _))
          go_wp2_with fail
          go_roundw
          case rel => exact ⟨k + 1, by go_num, by rw [HSTEP.out, HZ.out], by omega, Kb hM, Ko how, Kw⟩
          case measure => simp only [intOf]; omega
        · obtain rfl : k = nb := by omega
          have hlt : i < (fillTo (smL R k f bs p) R i).length := by rw [fillTo_len (smL_len _ _ _ _ _) hi]; exact hiR
          have c2 := how.cell i hlt
          have f2 := how.frozen i
          have hst := how.set_ i (smS f bs p i k)
          rw [fillTo_setV (smL_len _ _ _ _ _) hiR (show (smL R k f bs p).getD i 0 = smS f bs p i k from tab_getD hiR)] at hst
          generalize (fillTo (smL R k f bs p) R i).getD i 0 = z2 at c2
          go_wp2_with fail
          go_roundw
          case rel => exact ⟨i + 1, by go_num, by omega, Kb hM, hst, Kw⟩
          case measure => simp only [intOf]; omega
    · obtain rfl : i = R := by omega
      have hfin := how.as (fillTo_all (smL_len i nb f bs p))
      clear how
      go_wp2_with fail
      go_ret
      exact ⟨_, _, _, rfl, OR.mono (B := w.heap.size + 1) (Ko hfin) (by omega), Kw⟩
end Go.Proofs.YtlggfmfelakadaaGreatDoor

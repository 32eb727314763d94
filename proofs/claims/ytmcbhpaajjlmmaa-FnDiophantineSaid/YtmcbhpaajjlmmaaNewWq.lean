/-
  DERIVED. newWork of the program.
-/
import Derived.Test.YtmcbhpaajjlmmaaWorkq
import Derived.Test.YtmcbhpaajjlmmaaIdenq
import Derived.Test.YtmcbhpaajjlmmaaZ2
namespace Go.Proofs.Ytmcbhpaajjlmmaa
open Go.RowKit
set_option linter.unusedVariables false
set_option linter.unusedSimpArgs false
def NW (R C : Nat) (f : Fn2) (w : World) (e : Ending) (w' : World) : Prop := ∃ b, e = .returned (.pointer (some ⟨b, 0, none⟩)) ∧ WK w' w.heap.size b R C f idF idF false ∧ Below w.heap.size w w'
set_option maxHeartbeats 4000000 in
theorem impl_newWork (R C : Nat) (A : Option Addr) (n cap : Nat) (f : Fn2) (w : World) {B : Nat} (h : RI w B A n (tb R C f)) (hB : B ≤ w.heap.size) (hR : R ≤ 24) (hC : C ≤ 24) :
    Calls Try.prog 150 #[.agg #[.int .i64 R, .int .i64 C, .slice A n cap]] w (NW R C f w) := by
  have hln := h.len
  rw [tb_len] at hln
  have H2 := Lib.hid (h.more hB)
  clear h
  have hRC : R * C ≤ 24 * 24 := Nat.mul_le_mul hR hC
  have hnn : n ≤ 1048576 := by omega
  clear hln hRC
  go_enter Try.func150, Try.ntmps150
  go_wp2_with fail
  refine (impl_IdentityMatrix R _ hR).mono ?_
  rintro e w1 ⟨A2, n2, cap2, rfl, how2, hb1⟩
  have hsz1 := hb1.size
  simp at hsz1
  have hM1 : BM w1 w.heap.size R C A n cap := by (with_reducible (repeat (first | assumption | refine BX.n_ | refine BX.b_ ?_ | apply BX.drew | apply BX.drewN | refine BX.put ?_ | refine BX.put2 ?_ | refine BX.f_ ?_ | apply BX.alloc | refine B3.n_ | refine B3.of (by assumption) | refine B3.b_ ?_ | apply B3.drew | apply B3.drewN | refine B3.f_ ?_ | apply B3.alloc)))
  have hbw1 : Below w.heap.size w w1 := by (repeat (first | (with_reducible (first | exact Below.refl _ _ | assumption | refine below_drewN ?_ _ | refine Below.drew ?_ | refine Below.alloc ?_ ?_ _ | refine Below.setCell ?_ ?_ _ | refine below_i ?_)) | go_size))
  generalize hbU : w1.heap.size = bU at *
  have hM2 : BM (w1.alloc (.cells #[.int .i64 R, .int .i64 R, .slice A2 n2 cap2] 28)) w.heap.size R C A n cap := by (with_reducible (repeat (first | exact hM1 | refine BX.n_ | refine BX.b_ ?_ | apply BX.drew | apply BX.drewN | refine BX.put ?_ | refine BX.put2 ?_ | refine BX.f_ ?_ | apply BX.alloc | refine B3.n_ | exact B3.of hM1 | refine B3.b_ ?_ | apply B3.drew | apply B3.drewN | refine B3.f_ ?_ | apply B3.alloc)))
  have hMU : BM (w1.alloc (.cells #[.int .i64 R, .int .i64 R, .slice A2 n2 cap2] 28)) bU R R A2 n2 cap2 := by (with_reducible (repeat (first | assumption | refine BX.n_ | refine BX.b_ ?_ | apply BX.drew | apply BX.drewN | refine BX.put ?_ | refine BX.put2 ?_ | refine BX.f_ ?_ | apply BX.alloc | refine B3.n_ | refine B3.of (by assumption) | refine B3.b_ ?_ | apply B3.drew | apply B3.drewN | refine B3.f_ ?_ | apply B3.alloc)))
  have hsU : (w1.alloc (.cells #[.int .i64 R, .int .i64 R, .slice A2 n2 cap2] 28)).heap.size = bU + 1 := by simp [hbU]
  obtain ⟨aa, ab, ac, af, al⟩ := hM2.mx
  obtain ⟨ua, ub, uc, uf, ul⟩ := hMU.mx
  go_wp2_with fail
  refine (impl_IdentityMatrix C _ hC).mono ?_
  rintro e w2 ⟨A3, n3, cap3, rfl, how3, hb2⟩
  have hsz2 := hb2.size
  simp at hsz2
  have hM3 : BM w2 w.heap.size R C A n cap := by (with_reducible (repeat (first | exact hM2 | refine BX.n_ | refine BX.b_ ?_ | apply BX.drew | apply BX.drewN | refine BX.put ?_ | refine BX.put2 ?_ | refine BX.f_ ?_ | apply BX.alloc | refine B3.n_ | exact B3.of hM2 | refine B3.b_ ?_ | apply B3.drew | apply B3.drewN | refine B3.f_ ?_ | apply B3.alloc)))
  have hMU3 : BM w2 bU R R A2 n2 cap2 := by (with_reducible (repeat (first | exact hMU | refine BX.n_ | refine BX.b_ ?_ | apply BX.drew | apply BX.drewN | refine BX.put ?_ | refine BX.put2 ?_ | refine BX.f_ ?_ | apply BX.alloc | refine B3.n_ | exact B3.of hMU | refine B3.b_ ?_ | apply B3.drew | apply B3.drewN | refine B3.f_ ?_ | apply B3.alloc)))
  have ho2 : OR w1 (w.heap.size + 1) (.slice A2 n2 cap2) (tb R R idF) := OR.mono (xs := tb R R idF) how2 (by simp)
  have ho24 : OR w2 (w.heap.size + 1) (.slice A2 n2 cap2) (tb R R idF) := (ho2.alloc _).below hb2 (Nat.le_refl _)
  have hbw2 : Below w.heap.size w w2 := by (repeat (first | (with_reducible (first | exact Below.refl _ _ | assumption | refine below_drewN ?_ _ | refine Below.drew ?_ | refine Below.alloc ?_ ?_ _ | refine Below.setCell ?_ ?_ _ | refine below_i ?_)) | go_size))
  have hlb : w.heap.size + 1 ≤ bU := hsz1
  have HU2 : Hid (Own (.slice A2 n2 cap2) (w.heap.size + 1) bU) := Lib.hid (by rw [← hbU]; exact (OR.own (xs := tb R R idF) how2).wide (by simp) (Nat.le_refl _))
  generalize hbV : w2.heap.size = bV at *
  have HU3 : Hid (Own (.slice A3 n3 cap3) (bU + 1) bV) := Lib.hid (by rw [← hbV]; exact (OR.own (xs := tb C C idF) how3).wide (by rw [hsU]; exact Nat.le_refl _) (Nat.le_refl _))
  have ho22 : Hid (OR (w2.alloc (.cells #[.int .i64 C, .int .i64 C, .slice A3 n3 cap3] 28)) (w.heap.size + 1) (.slice A2 n2 cap2) (tb R R idF)) := Lib.hid (OR.alloc ho24 _)
  have ho33 : Hid (OR (w2.alloc (.cells #[.int .i64 C, .int .i64 C, .slice A3 n3 cap3] 28)) (w.heap.size + 1) (.slice A3 n3 cap3) (tb C C idF)) := Lib.hid (OR.alloc (OR.mono (xs := tb C C idF) how3 (by rw [hsU]; omega)) _)
  have hM : BM (w2.alloc (.cells #[.int .i64 C, .int .i64 C, .slice A3 n3 cap3] 28)) w.heap.size R C A n cap := by (with_reducible (repeat (first | exact hM3 | refine BX.n_ | refine BX.b_ ?_ | apply BX.drew | apply BX.drewN | refine BX.put ?_ | refine BX.put2 ?_ | refine BX.f_ ?_ | apply BX.alloc | refine B3.n_ | exact B3.of hM3 | refine B3.b_ ?_ | apply B3.drew | apply B3.drewN | refine B3.f_ ?_ | apply B3.alloc)))
  have hMU4 : BM (w2.alloc (.cells #[.int .i64 C, .int .i64 C, .slice A3 n3 cap3] 28)) bU R R A2 n2 cap2 := by (with_reducible (repeat (first | exact hMU3 | refine BX.n_ | refine BX.b_ ?_ | apply BX.drew | apply BX.drewN | refine BX.put ?_ | refine BX.put2 ?_ | refine BX.f_ ?_ | apply BX.alloc | refine B3.n_ | exact B3.of hMU3 | refine B3.b_ ?_ | apply B3.drew | apply B3.drewN | refine B3.f_ ?_ | apply B3.alloc)))
  have hMV : BM (w2.alloc (.cells #[.int .i64 C, .int .i64 C, .slice A3 n3 cap3] 28)) bV C C A3 n3 cap3 := by (with_reducible (repeat (first | assumption | refine BX.n_ | refine BX.b_ ?_ | apply BX.drew | apply BX.drewN | refine BX.put ?_ | refine BX.put2 ?_ | refine BX.f_ ?_ | apply BX.alloc | refine B3.n_ | refine B3.of (by assumption) | refine B3.b_ ?_ | apply B3.drew | apply B3.drewN | refine B3.f_ ?_ | apply B3.alloc)))
  have hbw3 : Below w.heap.size w (w2.alloc (.cells #[.int .i64 C, .int .i64 C, .slice A3 n3 cap3] 28)) := by (repeat (first | (with_reducible (first | exact Below.refl _ _ | assumption | refine below_drewN ?_ _ | refine Below.drew ?_ | refine Below.alloc ?_ ?_ _ | refine Below.setCell ?_ ?_ _ | refine below_i ?_)) | go_size))
  have hsV : (w2.alloc (.cells #[.int .i64 C, .int .i64 C, .slice A3 n3 cap3] 28)).heap.size = bV + 1 := by simp [hbV]
  have hlb2 : bU + 1 ≤ bV := by omega
  clear aa ab ac af al ua ub uc uf ul hM1 hM2 hM3 hMU hMU3 how2 how3 ho2 ho24 hbw1 hbw2 hb1 hb2
  obtain ⟨aa, ab, ac, af, al⟩ := hM.mx
  obtain ⟨ua, ub, uc, uf, ul⟩ := hMU4.mx
  obtain ⟨va, vb, vc, vf, vl⟩ := hMV.mx
  go_wp2_with fail
  generalize hwo : w2.alloc (.cells #[.int .i64 C, .int .i64 C, .slice A3 n3 cap3] 28) = wo at *
  clear hwo
  ((refine wp_region_held_drew (S := (fun w' => w'.cell? ⟨w.heap.size, 0, none⟩ = some (.int .i64 R) ∧ w'.cell? ⟨w.heap.size, 1, none⟩ = some (.int .i64 C) ∧ w'.cell? ⟨w.heap.size, 2, none⟩ = some (.slice A n cap) ∧ w'.cell? ⟨bU, 0, none⟩ = some (.int .i64 R) ∧ w'.cell? ⟨bU, 1, none⟩ = some (.int .i64 R) ∧ w'.cell? ⟨bU, 2, none⟩ = some (.slice A2 n2 cap2) ∧ w'.cell? ⟨bV, 0, none⟩ = some (.int .i64 C) ∧ w'.cell? ⟨bV, 1, none⟩ = some (.int .i64 C) ∧ w'.cell? ⟨bV, 2, none⟩ = some (.slice A3 n3 cap3))) (by kernel_rfl) ?_ (fun hHeld => ?_)); ((focus ((try dsimp only); (go_keep)))); ((refine tk_ (i := 0) (v := ?_) (y := Or.inl ⟨by rfl, ?_⟩) (h := ?_); rotate_left; (focus (((intro w hSw; (try dsimp only at hSw); go_simp) <;> (try with_reducible rfl)); done)); (try simp only [Act.put, p1_, p2_, p3_]))); ((refine tk_ (i := 2) (v := ?_) (y := Or.inl ⟨by rfl, ?_⟩) (h := ?_); rotate_left; (focus (((intro w hSw; (try dsimp only at hSw); go_simp) <;> (try with_reducible rfl)); done)); (try simp only [Act.put, p1_, p2_, p3_]))); ((refine tk_ (i := 3) (v := ?_) (y := Or.inl ⟨by rfl, ?_⟩) (h := ?_); rotate_left; (focus (((intro w hSw; (try dsimp only at hSw); go_simp) <;> (try with_reducible rfl)); done)); (try simp only [Act.put, p1_, p2_, p3_]))); ((refine wpAnyH_ready (rs := [1]) (by kernel_rfl) (by simp) ?_; refine AllReadyH.cons (by simp only [e1_, e2_, e3_]; try rfl) (fun K hK => ?_) AllReadyH.nil; go_simp; (go_at_call 141; refine (impl_copyMatrix R C A n cap (tb R C f) _ (B := w.heap.size) (by (with_reducible (repeat (first | exact H2.out | refine RI.drew ?_ | refine RI.drewN ?_ _ | refine RI.a_ ?_ | refine RI.s_ ?_ | refine RI.b_ ?_)))) (by first | omega | (simp; done) | (simp; omega)) hnn).mono ?_; rintro e w4 ⟨A1, n1, cap1, rfl, -, how1, hb4⟩; (have hM4 : BM w4 w.heap.size R C A n cap := by (with_reducible (repeat (first | exact hM | refine BX.n_ | refine BX.b_ ?_ | apply BX.drew | apply BX.drewN | refine BX.put ?_ | refine BX.put2 ?_ | refine BX.f_ ?_ | apply BX.alloc | refine B3.n_ | exact B3.of hM | refine B3.b_ ?_ | apply B3.drew | apply B3.drewN | refine B3.f_ ?_ | apply B3.alloc)))); (have hU4 : BM w4 bU R R A2 n2 cap2 := by (with_reducible (repeat (first | exact hMU4 | refine BX.n_ | refine BX.b_ ?_ | apply BX.drew | apply BX.drewN | refine BX.put ?_ | refine BX.put2 ?_ | refine BX.f_ ?_ | apply BX.alloc | refine B3.n_ | exact B3.of hMU4 | refine B3.b_ ?_ | apply B3.drew | apply B3.drewN | refine B3.f_ ?_ | apply B3.alloc)))); (have hV4 : BM w4 bV C C A3 n3 cap3 := by (with_reducible (repeat (first | exact hMV | refine BX.n_ | refine BX.b_ ?_ | apply BX.drew | apply BX.drewN | refine BX.put ?_ | refine BX.put2 ?_ | refine BX.f_ ?_ | apply BX.alloc | refine B3.n_ | exact B3.of hMV | refine B3.b_ ?_ | apply B3.drew | apply B3.drewN | refine B3.f_ ?_ | apply B3.alloc)))); obtain ⟨a4, b4, c4, f4, l4⟩ := hM4.mx; obtain ⟨ua4, ub4, uc4, uf4, ul4⟩ := hU4.mx; obtain ⟨va4, vb4, vc4, vf4, vl4⟩ := hV4.mx); (try go_wp2_with fail); refine hK.out _ _ ?_ (fun hHeld => ?_); (focus ((try dsimp only); (go_keep))); clear hK K; (try simp only [Act.put, p1_, p2_, p3_]))); ((refine tk_ (i := 4) (v := ?_) (y := Or.inl ⟨by rfl, ?_⟩) (h := ?_); rotate_left; (focus (((intro w hSw; (try dsimp only at hSw); go_simp) <;> (try with_reducible rfl)); done)); (try simp only [Act.put, p1_, p2_, p3_]))); ((refine wpAnyH_ready (rs := [5]) (by kernel_rfl) (by simp) ?_; refine AllReadyH.cons (by simp only [e1_, e2_, e3_]; try rfl) (fun K hK => ?_) AllReadyH.nil; go_simp; (try go_wp2_with fail); refine hK.out _ _ ?_ (fun hHeld => ?_); (focus ((try dsimp only); (go_keep))); clear hK K; (try simp only [Act.put, p1_, p2_, p3_]))); ((refine tk_ (i := 6) (v := ?_) (y := Or.inl ⟨by rfl, ?_⟩) (h := ?_); rotate_left; (focus (((intro w hSw; (try dsimp only at hSw); go_simp) <;> (try with_reducible rfl)); done)); (try simp only [Act.put, p1_, p2_, p3_]))); (refine wpAnyH_done (by kernel_rfl) ?_ _))
  go_wp2_with fail
  have hs4 := hb4.size
  have how1 : OR w4 wo.heap.size (.slice A1 n1 cap1) (tb R C f) := how1
  have hlw : w.heap.size + 1 ≤ wo.heap.size := by rw [hsV]; omega
  have h2 : OR w4 (w.heap.size + 1) (.slice A2 n2 cap2) (tb R R idF) := ho22.out.drew.below hb4 (Nat.le_refl _)
  have h3 : OR w4 (w.heap.size + 1) (.slice A3 n3 cap3) (tb C C idF) := ho33.out.drew.below hb4 (Nat.le_refl _)
  have o1 : Own (.slice A1 n1 cap1) (bV + 1) w4.heap.size := how1.own.wide (by rw [hsV]; exact Nat.le_refl _) (Nat.le_refl _)
  have hlv : bV + 1 ≤ w4.heap.size := by rw [← hsV]; exact hs4
  go_ret
  refine ⟨w4.heap.size, rfl, WB.wk (A := A1) (n := n1) (cap := cap1) (A2 := A2) (n2 := n2) (cap2 := cap2) (A3 := A3) (n3 := n3) (cap3 := cap3) ⟨Blk.new _ _ _, by omega, (how1.mono (by omega)).alloc _, (h2.mono (by omega)).alloc _, (h3.mono (by omega)).alloc _, Apart.of_own o1 HU2.out (.inr (by omega)), Apart.of_own o1 HU3.out (.inr (by omega)), Apart.of_own HU2.out HU3.out (.inl (by omega)), fun e => ?_, fun e => ?_, fun e => ?_⟩, by (repeat (first | (with_reducible (first | exact Below.refl _ _ | assumption | refine below_drewN ?_ _ | refine Below.drew ?_ | refine Below.alloc ?_ ?_ _ | refine Below.setCell ?_ ?_ _ | refine below_i ?_)) | go_size))⟩
  · have := (o1 _ e).2; omega
  · have := (HU2.out _ e).2; omega
  · have := (HU3.out _ e).2; omega
end Go.Proofs.Ytmcbhpaajjlmmaa

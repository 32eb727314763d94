/-
  DERIVED. Several small texts in one: Times, Fac, NewW, PlSi.
-/
import Derived.Test.YtmcbhpaajjlmmaaMulS2q
import Derived.Test.YtmcbhpaajjlmmaaZ4
import Derived.Test.YtmcbhpaajjlmmaaZ3
import Derived.Deep.LoopGhost
import Derived.Test.YtmcbhpaajjlmmaaWorkq
import Derived.Test.YtmcbhpaajjlmmaaIdenq
import Derived.Test.YtmcbhpaajjlmmaaZ2
import Derived.Test.YtmcbhpaajjlmmaaZ1
/-
  DERIVED. l14Times, IsSolution of the reference.
-/
namespace Go.Proofs.Ytmcbhpaajjlmmaa
open Go.RowKit
set_option linter.unusedVariables false
set_option linter.unusedSimpArgs false
/-- The call returned an own slice and a flag. -/
def IBR (ys : List Int) (b : Bool) (w : World) (e : Ending) (w' : World) : Prop :=
  ∃ A n cap, e = .returned (.tuple #[.slice A n cap, .bool b]) ∧ OR w' w.heap.size (.slice A n cap) ys ∧ Below w.heap.size w w'
theorem IBR.mk {ys zs : List Int} {b : Bool} {A : Option Addr} {n cap : Nat} {w w' : World} (hz : ys = zs) (ho : OR w' w.heap.size (.slice A n cap) zs) (hb : Below w.heap.size w w') :
    IBR ys b w (.returned (.tuple #[.slice A n cap, .bool b])) w' := by subst hz; exact ⟨A, n, cap, rfl, ho, hb⟩
/-- Numbers solve a system. -/
def solB (r c : Int) (xs b x : List Int) : Bool := mulB r c xs x.length 1 x && eqB (mulM r c xs x.length 1 x).xs b
theorem mulM_len (r c : Int) (xs : List Int) (r2 c2 : Int) (ys : List Int) : (mulM r c xs r2 c2 ys).xs.length ≤ 576 := by
  unfold mulM
  split
  · rename_i h
    unfold mulB at h
    simp only [Bool.and_eq_true] at h
    have M := isMat_iff.1 h.1.1.1
    have M2 := isMat_iff.1 h.1.1.2
    show (mulL xs r.toNat c.toNat ys c2.toNat).length ≤ 576
    rw [mulL_len]
    have := Nat.mul_le_mul (show r.toNat ≤ 24 by have := M.r1; omega) (show c2.toNat ≤ 24 by have := M2.c1; omega)
    omega
  · simp [Mx.none]
set_option maxRecDepth 100000 in
set_option maxHeartbeats 4000000 in
theorem spec_l14Times (r c : Int) (A A3 : Option Addr) (n cap n3 cap3 : Nat) (xs x : List Int) (w : World) {B B3' : Nat} (h : RI w B A n xs) (h3 : RI w B3' A3 n3 x) (hB : B ≤ w.heap.size) (hB3 : B3' ≤ w.heap.size) (hn : n ≤ 1048576) (hn3 : n3 ≤ 1048576) :
    Calls Try.prog 88 #[.agg #[.int .i64 r, .int .i64 c, .slice A n cap], .slice A3 n3 cap3] w (IBR (mulM r c xs n3 1 x).xs (mulB r c xs n3 1 x) w) := by
  have H1 := Lib.hid (h.more hB)
  have H3 := Lib.hid (h3.more hB3)
  clear h h3 hB hB3
  rcases hres : mulB r c xs n3 1 x with _ | _
  all_goals
    have HRES := Lib.hid hres
    have HN := mulM_no (r := r) (c := c) (xs := xs) (r2 := n3) (c2 := 1) (ys := x)
    clear hres
    have HNO := Lib.hid HN
    clear HN
    go_enter Try.func88, Try.ntmps88
    go_wp2_with fail
    refine (spec_MultiplyMatrices r c n3 1 A A3 n cap n3 cap3 xs x _ (B := w.heap.size) (B' := w.heap.size) (by (with_reducible (repeat (first | exact H1.out | refine RI.drew ?_ | refine RI.drewN ?_ _ | refine RI.a_ ?_ | refine RI.s_ ?_ | refine RI.b_ ?_)))) (by (with_reducible (repeat (first | exact H3.out | refine RI.drew ?_ | refine RI.drewN ?_ _ | refine RI.a_ ?_ | refine RI.s_ ?_ | refine RI.b_ ?_)))) (by first | omega | (simp; done) | (simp; omega)) (by first | omega | (simp; done) | (simp; omega)) hn hn3).mono ?_
    rw [HRES.out]
    rintro e w2 ⟨Ar, nr, cr, rfl, ho, hb2⟩
    have hs2 := hb2.size
    simp at hs2
    have hbw2 : Below w.heap.size w w2 := by (repeat (first | (with_reducible (first | exact Below.refl _ _ | assumption | refine below_drewN ?_ _ | refine Below.drew ?_ | refine Below.alloc ?_ ?_ _ | refine Below.setCell ?_ ?_ _ | refine below_i ?_)) | go_size))
    have hown : OR w2 w.heap.size (.slice Ar nr cr) (mulM r c xs n3 1 x).xs := ho.mono (by first | omega | (simp; done) | (simp; omega))
    clear ho hb2
    go_wp2_with fail
    go_ret2
  · exact IBR.mk (by rw [HNO.out HRES.out]; rfl) (OR.empty' _ _ (by simp) (by first | omega | (simp; done) | (simp; omega))) (by (repeat (first | (with_reducible (first | exact Below.refl _ _ | assumption | refine below_drewN ?_ _ | refine Below.drew ?_ | refine Below.alloc ?_ ?_ _ | refine Below.setCell ?_ ?_ _ | refine below_i ?_)) | go_size)))
  · exact IBR.mk rfl (by (with_reducible (repeat (first | exact hown | refine OR.drew ?_ | refine OR.drewN ?_ _ | refine OR.alloc ?_ _ | refine OR.b_ ?_ | refine OR.l_ ?_)))) (by (repeat (first | (with_reducible (first | exact Below.refl _ _ | assumption | refine below_drewN ?_ _ | refine Below.drew ?_ | refine Below.alloc ?_ ?_ _ | refine Below.setCell ?_ ?_ _ | refine below_i ?_)) | go_size)))
end Go.Proofs.Ytmcbhpaajjlmmaa

/-
  DERIVED. FactorsOf of both.
-/
namespace Go.Proofs.Ytmcbhpaajjlmmaa
open Go.RowKit
set_option linter.unusedVariables false
set_option linter.unusedSimpArgs false
theorem OR.shapeF {w : World} {B : Nat} {v : Value} {xs : List Int} (h : OR w B v xs) : ∃ A c, v = .slice A xs.length c := by
  rcases h.form with ⟨h1, h2⟩ | ⟨g, cap, h1, _⟩
  · subst h2; exact ⟨none, 0, h1⟩
  · exact ⟨_, _, h1⟩
/-- A number of the diagonal; 0 beyond it. -/
def dgF (R C : Nat) (f : Fn2) (i : Nat) : Int := if i < R ∧ i < C then f i i else 0
theorem dgF_in {R C i : Nat} {f : Fn2} (h : i < R) (h2 : i < C) : dgF R C f i = f i i := by unfold dgF; rw [if_pos ⟨h, h2⟩]
theorem dgF_out {R C i : Nat} {f : Fn2} (h : ¬ (i < R ∧ i < C)) : dgF R C f i = 0 := by unfold dgF; rw [if_neg h]
theorem dgF_num {R C i : Nat} {f : Fn2} (h : OKF R C f) : Num (dgF R C f i) := by
  unfold dgF
  split
  · rename_i h2; exact h i i h2.1 h2.2
  · unfold Num; omega
def facK (d : Nat → Int) : Nat → List Int
  | 0 => []
  | n + 1 => facK d n ++ (if d n = 0 then [] else [d n])
theorem facK_skip {d : Nat → Int} {n : Nat} (h : d n = 0) : facK d (n + 1) = facK d n := by
  show facK d n ++ (if _ then _ else _) = _
  rw [if_pos h, List.append_nil]
theorem facK_add {d : Nat → Int} {n : Nat} (h : d n ≠ 0) : facK d (n + 1) = facK d n ++ [d n] := by
  show facK d n ++ (if _ then _ else _) = _
  rw [if_neg h]
theorem facK_len (d : Nat → Int) : ∀ n, (facK d n).length ≤ n
  | 0 => Nat.le_refl _
  | n + 1 => by
    have := facK_len d n
    by_cases h : d n = 0
    · rw [facK_skip h]; omega
    · rw [facK_add h, List.length_append, List.length_singleton]; omega
theorem facK_beyond {d : Nat → Int} {m : Nat} (h : ∀ i, m ≤ i → d i = 0) : ∀ k, facK d (m + k) = facK d m
  | 0 => rfl
  | k + 1 => by rw [show m + (k + 1) = m + k + 1 by omega, facK_skip (h _ (by omega)), facK_beyond h k]
def facO (r c : Int) : Option SS → List Int
  | some s => facK (dgF r.toNat c.toNat s.f) (min r.toNat c.toNat)
  | none => []
def facV (r c : Int) (xs : List Int) : List Int := facO r c (sfX r c xs)
theorem facO_rows (R C : Nat) (s : SS) : facO R C (some s) = facK (dgF R C s.f) R := by
  show facK (dgF R C s.f) (min R C) = _
  have := facK_beyond (d := dgF R C s.f) (m := min R C) (fun i hi => dgF_out (by omega)) (R - min R C)
  rw [show min R C + (R - min R C) = R by omega] at this
  exact this.symm
theorem facV_len (r c : Int) (xs : List Int) : (facV r c xs).length ≤ 1048576 := by
  unfold facV
  rcases h : sfX r c xs with _ | s
  · exact Nat.zero_le _
  · rcases hm : isMat r c xs with _ | _
    · rw [sfX_no hm] at h; cases h
    · have M := isMat_iff.1 hm
      have h1 := facK_len (dgF r.toNat c.toNat s.f) (min r.toNat c.toNat)
      have := M.r1
      show (facK _ _).length ≤ _
      omega
theorem impl_diagonal (R C i : Nat) (A : Option Addr) (n cap : Nat) (f : Fn2) (w : World) {B : Nat} (h : OR w B (.slice A n cap) (tb R C f)) (hi : i ≤ 100) (hR : R ≤ 24) (hC : C ≤ 24) :
    Calls Try.prog 91 #[.agg #[.int .i64 R, .int .i64 C, .slice A n cap], .int .i64 i] w (BV (.int .i64 (dgF R C f i)) w) := by
  by_cases h1 : i < R
  · by_cases h2 : i < C
    · rw [dgF_in h1 h2]
      generalize hv : f i i = v
      have HV := Lib.hid hv
      clear hv
      go_enter Try.func91, Try.ntmps91
      go_wp2_with fail
      refine (impl_at_tb R C i i A n cap f v HV.out _ (B := B) (by (with_reducible (repeat (first | exact h | refine OR.drew ?_ | refine OR.drewN ?_ _ | refine OR.alloc ?_ _ | refine OR.b_ ?_ | refine OR.l_ ?_)))) (by omega) (by omega) h1 h2).mono ?_
      rintro e w1 ⟨rfl, hb1⟩
      go_wp2_with fail
      go_ret
      exact BV.mk rfl (by (repeat (first | (with_reducible (first | exact Below.refl _ _ | assumption | refine below_drewN ?_ _ | refine Below.drew ?_ | refine Below.alloc ?_ ?_ _ | refine Below.setCell ?_ ?_ _ | refine below_i ?_)) | go_size)))
    · rw [dgF_out (by omega)]
      go_enter Try.func91, Try.ntmps91
      go_wp2_with fail
      go_ret
      exact BV.mk rfl (by (repeat (first | (with_reducible (first | exact Below.refl _ _ | assumption | refine below_drewN ?_ _ | refine Below.drew ?_ | refine Below.alloc ?_ ?_ _ | refine Below.setCell ?_ ?_ _ | refine below_i ?_)) | go_size)))
  · rw [dgF_out (by omega)]
    go_enter Try.func91, Try.ntmps91
    go_wp2_with fail
    go_ret
    exact BV.mk rfl (by (repeat (first | (with_reducible (first | exact Below.refl _ _ | assumption | refine below_drewN ?_ _ | refine Below.drew ?_ | refine Below.alloc ?_ ?_ _ | refine Below.setCell ?_ ?_ _ | refine below_i ?_)) | go_size)))
end Go.Proofs.Ytmcbhpaajjlmmaa

/-
  DERIVED. newWork of the program.
-/
namespace Go.Proofs.Ytmcbhpaajjlmmaa
open Go.RowKit
set_option linter.unusedVariables false
set_option linter.unusedSimpArgs false
def NW (R C : Nat) (f : Fn2) (w : World) (e : Ending) (w' : World) : Prop := ∃ b, e = .returned (.pointer (some ⟨b, 0, none⟩)) ∧ WK w' w.heap.size b R C f idF idF false ∧ Below w.heap.size w w'
set_option maxHeartbeats 4000000 in
theorem impl_newWork (R C : Nat) (A : Option Addr) (n cap : Nat) (f : Fn2) (w : World) {B : Nat} (h : RI w B A n (tb R C f)) (hB : B ≤ w.heap.size) (hR : R ≤ 24) (hC : C ≤ 24) :
    Calls Try.prog 150 #[.agg #[.int .i64 R, .int .i64 C, .slice A n cap]] w (NW R C f w) := by
  have hln := h.len
  rw [tb_len] at hln
  have H2 := Lib.hid (h.more hB)
  clear h
  have hRC : R * C ≤ 24 * 24 := Nat.mul_le_mul hR hC
  have hnn : n ≤ 1048576 := by omega
  clear hln hRC
  go_enter Try.func150, Try.ntmps150
  go_wp2_with fail
  refine (impl_IdentityMatrix R _ hR).mono ?_
  rintro e w1 ⟨A2, n2, cap2, rfl, how2, hb1⟩
  have hsz1 := hb1.size
  simp at hsz1
  have hM1 : BM w1 w.heap.size R C A n cap := by (with_reducible (repeat (first | assumption | refine BX.n_ | refine BX.b_ ?_ | apply BX.drew | apply BX.drewN | refine BX.put ?_ | refine BX.put2 ?_ | refine BX.f_ ?_ | apply BX.alloc | refine B3.n_ | refine B3.of (by assumption) | refine B3.b_ ?_ | apply B3.drew | apply B3.drewN | refine B3.f_ ?_ | apply B3.alloc)))
  have hbw1 : Below w.heap.size w w1 := by (repeat (first | (with_reducible (first | exact Below.refl _ _ | assumption | refine below_drewN ?_ _ | refine Below.drew ?_ | refine Below.alloc ?_ ?_ _ | refine Below.setCell ?_ ?_ _ | refine below_i ?_)) | go_size))
  generalize hbU : w1.heap.size = bU at *
  have hM2 : BM (w1.alloc (.cells #[.int .i64 R, .int .i64 R, .slice A2 n2 cap2] 28)) w.heap.size R C A n cap := by (with_reducible (repeat (first | exact hM1 | refine BX.n_ | refine BX.b_ ?_ | apply BX.drew | apply BX.drewN | refine BX.put ?_ | refine BX.put2 ?_ | refine BX.f_ ?_ | apply BX.alloc | refine B3.n_ | exact B3.of hM1 | refine B3.b_ ?_ | apply B3.drew | apply B3.drewN | refine B3.f_ ?_ | apply B3.alloc)))
  have hMU : BM (w1.alloc (.cells #[.int .i64 R, .int .i64 R, .slice A2 n2 cap2] 28)) bU R R A2 n2 cap2 := by (with_reducible (repeat (first | assumption | refine BX.n_ | refine BX.b_ ?_ | apply BX.drew | apply BX.drewN | refine BX.put ?_ | refine BX.put2 ?_ | refine BX.f_ ?_ | apply BX.alloc | refine B3.n_ | refine B3.of (by assumption) | refine B3.b_ ?_ | apply B3.drew | apply B3.drewN | refine B3.f_ ?_ | apply B3.alloc)))
  have hsU : (w1.alloc (.cells #[.int .i64 R, .int .i64 R, .slice A2 n2 cap2] 28)).heap.size = bU + 1 := by simp [hbU]
  obtain ⟨aa, ab, ac, af, al⟩ := hM2.mx
  obtain ⟨ua, ub, uc, uf, ul⟩ := hMU.mx
  go_wp2_with fail
  refine (impl_IdentityMatrix C _ hC).mono ?_
  rintro e w2 ⟨A3, n3, cap3, rfl, how3, hb2⟩
  have hsz2 := hb2.size
  simp at hsz2
  have hM3 : BM w2 w.heap.size R C A n cap := by (with_reducible (repeat (first | exact hM2 | refine BX.n_ | refine BX.b_ ?_ | apply BX.drew | apply BX.drewN | refine BX.put ?_ | refine BX.put2 ?_ | refine BX.f_ ?_ | apply BX.alloc | refine B3.n_ | exact B3.of hM2 | refine B3.b_ ?_ | apply B3.drew | apply B3.drewN | refine B3.f_ ?_ | apply B3.alloc)))
  have hMU3 : BM w2 bU R R A2 n2 cap2 := by (with_reducible (repeat (first | exact hMU | refine BX.n_ | refine BX.b_ ?_ | apply BX.drew | apply BX.drewN | refine BX.put ?_ | refine BX.put2 ?_ | refine BX.f_ ?_ | apply BX.alloc | refine B3.n_ | exact B3.of hMU | refine B3.b_ ?_ | apply B3.drew | apply B3.drewN | refine B3.f_ ?_ | apply B3.alloc)))
  have ho2 : OR w1 (w.heap.size + 1) (.slice A2 n2 cap2) (tb R R idF) := OR.mono (xs := tb R R idF) how2 (by simp)
  have ho24 : OR w2 (w.heap.size + 1) (.slice A2 n2 cap2) (tb R R idF) := (ho2.alloc _).below hb2 (Nat.le_refl _)
  have hbw2 : Below w.heap.size w w2 := by (repeat (first | (with_reducible (first | exact Below.refl _ _ | assumption | refine below_drewN ?_ _ | refine Below.drew ?_ | refine Below.alloc ?_ ?_ _ | refine Below.setCell ?_ ?_ _ | refine below_i ?_)) | go_size))
  have hlb : w.heap.size + 1 ≤ bU := hsz1
  have HU2 : Hid (Own (.slice A2 n2 cap2) (w.heap.size + 1) bU) := Lib.hid (by rw [← hbU]; exact (OR.own (xs := tb R R idF) how2).wide (by simp) (Nat.le_refl _))
  generalize hbV : w2.heap.size = bV at *
  have HU3 : Hid (Own (.slice A3 n3 cap3) (bU + 1) bV) := Lib.hid (by rw [← hbV]; exact (OR.own (xs := tb C C idF) how3).wide (by rw [hsU]; exact Nat.le_refl _) (Nat.le_refl _))
  have ho22 : Hid (OR (w2.alloc (.cells #[.int .i64 C, .int .i64 C, .slice A3 n3 cap3] 28)) (w.heap.size + 1) (.slice A2 n2 cap2) (tb R R idF)) := Lib.hid (OR.alloc ho24 _)
  have ho33 : Hid (OR (w2.alloc (.cells #[.int .i64 C, .int .i64 C, .slice A3 n3 cap3] 28)) (w.heap.size + 1) (.slice A3 n3 cap3) (tb C C idF)) := Lib.hid (OR.alloc (OR.mono (xs := tb C C idF) how3 (by rw [hsU]; omega)) _)
  have hM : BM (w2.alloc (.cells #[.int .i64 C, .int .i64 C, .slice A3 n3 cap3] 28)) w.heap.size R C A n cap := by (with_reducible (repeat (first | exact hM3 | refine BX.n_ | refine BX.b_ ?_ | apply BX.drew | apply BX.drewN | refine BX.put ?_ | refine BX.put2 ?_ | refine BX.f_ ?_ | apply BX.alloc | refine B3.n_ | exact B3.of hM3 | refine B3.b_ ?_ | apply B3.drew | apply B3.drewN | refine B3.f_ ?_ | apply B3.alloc)))
  have hMU4 : BM (w2.alloc (.cells #[.int .i64 C, .int .i64 C, .slice A3 n3 cap3] 28)) bU R R A2 n2 cap2 := by (with_reducible (repeat (first | exact hMU3 | refine BX.n_ | refine BX.b_ ?_ | apply BX.drew | apply BX.drewN | refine BX.put ?_ | refine BX.put2 ?_ | refine BX.f_ ?_ | apply BX.alloc | refine B3.n_ | exact B3.of hMU3 | refine B3.b_ ?_ | apply B3.drew | apply B3.drewN | refine B3.f_ ?_ | apply B3.alloc)))
  have hMV : BM (w2.alloc (.cells #[.int .i64 C, .int .i64 C, .slice A3 n3 cap3] 28)) bV C C A3 n3 cap3 := by (with_reducible (repeat (first | assumption | refine BX.n_ | refine BX.b_ ?_ | apply BX.drew | apply BX.drewN | refine BX.put ?_ | refine BX.put2 ?_ | refine BX.f_ ?_ | apply BX.alloc | refine B3.n_ | refine B3.of (by assumption) | refine B3.b_ ?_ | apply B3.drew | apply B3.drewN | refine B3.f_ ?_ | apply B3.alloc)))
  have hbw3 : Below w.heap.size w (w2.alloc (.cells #[.int .i64 C, .int .i64 C, .slice A3 n3 cap3] 28)) := by (repeat (first | (with_reducible (first | exact Below.refl _ _ | assumption | refine below_drewN ?_ _ | refine Below.drew ?_ | refine Below.alloc ?_ ?_ _ | refine Below.setCell ?_ ?_ _ | refine below_i ?_)) | go_size))
  have hsV : (w2.alloc (.cells #[.int .i64 C, .int .i64 C, .slice A3 n3 cap3] 28)).heap.size = bV + 1 := by simp [hbV]
  have hlb2 : bU + 1 ≤ bV := by omega
  clear aa ab ac af al ua ub uc uf ul hM1 hM2 hM3 hMU hMU3 how2 how3 ho2 ho24 hbw1 hbw2 hb1 hb2
  obtain ⟨aa, ab, ac, af, al⟩ := hM.mx
  obtain ⟨ua, ub, uc, uf, ul⟩ := hMU4.mx
  obtain ⟨va, vb, vc, vf, vl⟩ := hMV.mx
  go_wp2_with fail
  generalize hwo : w2.alloc (.cells #[.int .i64 C, .int .i64 C, .slice A3 n3 cap3] 28) = wo at *
  clear hwo
  ((refine wp_region_held_drew (S := (fun w' => w'.cell? ⟨w.heap.size, 0, none⟩ = some (.int .i64 R) ∧ w'.cell? ⟨w.heap.size, 1, none⟩ = some (.int .i64 C) ∧ w'.cell? ⟨w.heap.size, 2, none⟩ = some (.slice A n cap) ∧ w'.cell? ⟨bU, 0, none⟩ = some (.int .i64 R) ∧ w'.cell? ⟨bU, 1, none⟩ = some (.int .i64 R) ∧ w'.cell? ⟨bU, 2, none⟩ = some (.slice A2 n2 cap2) ∧ w'.cell? ⟨bV, 0, none⟩ = some (.int .i64 C) ∧ w'.cell? ⟨bV, 1, none⟩ = some (.int .i64 C) ∧ w'.cell? ⟨bV, 2, none⟩ = some (.slice A3 n3 cap3))) (by kernel_rfl) ?_ (fun hHeld => ?_)); ((focus ((try dsimp only); (go_keep)))); ((refine tk_ (i := 0) (v := ?_) (y := Or.inl ⟨by rfl, ?_⟩) (h := ?_); rotate_left; (focus (((intro w hSw; (try dsimp only at hSw); go_simp) <;> (try with_reducible rfl)); done)); (try simp only [Act.put, p1_, p2_, p3_]))); ((refine tk_ (i := 2) (v := ?_) (y := Or.inl ⟨by rfl, ?_⟩) (h := ?_); rotate_left; (focus (((intro w hSw; (try dsimp only at hSw); go_simp) <;> (try with_reducible rfl)); done)); (try simp only [Act.put, p1_, p2_, p3_]))); ((refine tk_ (i := 3) (v := ?_) (y := Or.inl ⟨by rfl, ?_⟩) (h := ?_); rotate_left; (focus (((intro w hSw; (try dsimp only at hSw); go_simp) <;> (try with_reducible rfl)); done)); (try simp only [Act.put, p1_, p2_, p3_]))); ((refine wpAnyH_ready (rs := [1]) (by kernel_rfl) (by simp) ?_; refine AllReadyH.cons (by simp only [e1_, e2_, e3_]; try rfl) (fun K hK => ?_) AllReadyH.nil; go_simp; (go_at_call 141; refine (impl_copyMatrix R C A n cap (tb R C f) _ (B := w.heap.size) (by (with_reducible (repeat (first | exact H2.out | refine RI.drew ?_ | refine RI.drewN ?_ _ | refine RI.a_ ?_ | refine RI.s_ ?_ | refine RI.b_ ?_)))) (by first | omega | (simp; done) | (simp; omega)) hnn).mono ?_; rintro e w4 ⟨A1, n1, cap1, rfl, -, how1, hb4⟩; (have hM4 : BM w4 w.heap.size R C A n cap := by (with_reducible (repeat (first | exact hM | refine BX.n_ | refine BX.b_ ?_ | apply BX.drew | apply BX.drewN | refine BX.put ?_ | refine BX.put2 ?_ | refine BX.f_ ?_ | apply BX.alloc | refine B3.n_ | exact B3.of hM | refine B3.b_ ?_ | apply B3.drew | apply B3.drewN | refine B3.f_ ?_ | apply B3.alloc)))); (have hU4 : BM w4 bU R R A2 n2 cap2 := by (with_reducible (repeat (first | exact hMU4 | refine BX.n_ | refine BX.b_ ?_ | apply BX.drew | apply BX.drewN | refine BX.put ?_ | refine BX.put2 ?_ | refine BX.f_ ?_ | apply BX.alloc | refine B3.n_ | exact B3.of hMU4 | refine B3.b_ ?_ | apply B3.drew | apply B3.drewN | refine B3.f_ ?_ | apply B3.alloc)))); (have hV4 : BM w4 bV C C A3 n3 cap3 := by (with_reducible (repeat (first | exact hMV | refine BX.n_ | refine BX.b_ ?_ | apply BX.drew | apply BX.drewN | refine BX.put ?_ | refine BX.put2 ?_ | refine BX.f_ ?_ | apply BX.alloc | refine B3.n_ | exact B3.of hMV | refine B3.b_ ?_ | apply B3.drew | apply B3.drewN | refine B3.f_ ?_ | apply B3.alloc)))); obtain ⟨a4, b4, c4, f4, l4⟩ := hM4.mx; obtain ⟨ua4, ub4, uc4, uf4, ul4⟩ := hU4.mx; obtain ⟨va4, vb4, vc4, vf4, vl4⟩ := hV4.mx); (try go_wp2_with fail); refine hK.out _ _ ?_ (fun hHeld => ?_); (focus ((try dsimp only); (go_keep))); clear hK K; (try simp only [Act.put, p1_, p2_, p3_]))); ((refine tk_ (i := 4) (v := ?_) (y := Or.inl ⟨by rfl, ?_⟩) (h := ?_); rotate_left; (focus (((intro w hSw; (try dsimp only at hSw); go_simp) <;> (try with_reducible rfl)); done)); (try simp only [Act.put, p1_, p2_, p3_]))); ((refine wpAnyH_ready (rs := [5]) (by kernel_rfl) (by simp) ?_; refine AllReadyH.cons (by simp only [e1_, e2_, e3_]; try rfl) (fun K hK => ?_) AllReadyH.nil; go_simp; (try go_wp2_with fail); refine hK.out _ _ ?_ (fun hHeld => ?_); (focus ((try dsimp only); (go_keep))); clear hK K; (try simp only [Act.put, p1_, p2_, p3_]))); ((refine tk_ (i := 6) (v := ?_) (y := Or.inl ⟨by rfl, ?_⟩) (h := ?_); rotate_left; (focus (((intro w hSw; (try dsimp only at hSw); go_simp) <;> (try with_reducible rfl)); done)); (try simp only [Act.put, p1_, p2_, p3_]))); (refine wpAnyH_done (by kernel_rfl) ?_ _))
  go_wp2_with fail
  have hs4 := hb4.size
  have how1 : OR w4 wo.heap.size (.slice A1 n1 cap1) (tb R C f) := how1
  have hlw : w.heap.size + 1 ≤ wo.heap.size := by rw [hsV]; omega
  have h2 : OR w4 (w.heap.size + 1) (.slice A2 n2 cap2) (tb R R idF) := ho22.out.drew.below hb4 (Nat.le_refl _)
  have h3 : OR w4 (w.heap.size + 1) (.slice A3 n3 cap3) (tb C C idF) := ho33.out.drew.below hb4 (Nat.le_refl _)
  have o1 : Own (.slice A1 n1 cap1) (bV + 1) w4.heap.size := how1.own.wide (by rw [hsV]; exact Nat.le_refl _) (Nat.le_refl _)
  have hlv : bV + 1 ≤ w4.heap.size := by rw [← hsV]; exact hs4
  go_ret
  refine ⟨w4.heap.size, rfl, WB.wk (A := A1) (n := n1) (cap := cap1) (A2 := A2) (n2 := n2) (cap2 := cap2) (A3 := A3) (n3 := n3) (cap3 := cap3) ⟨Blk.new _ _ _, by omega, (how1.mono (by omega)).alloc _, (h2.mono (by omega)).alloc _, (h3.mono (by omega)).alloc _, Apart.of_own o1 HU2.out (.inr (by omega)), Apart.of_own o1 HU3.out (.inr (by omega)), Apart.of_own HU2.out HU3.out (.inl (by omega)), fun e => ?_, fun e => ?_, fun e => ?_⟩, by (repeat (first | (with_reducible (first | exact Below.refl _ _ | assumption | refine below_drewN ?_ _ | refine Below.drew ?_ | refine Below.alloc ?_ ?_ _ | refine Below.setCell ?_ ?_ _ | refine below_i ?_)) | go_size))⟩
  · have := (o1 _ e).2; omega
  · have := (HU2.out _ e).2; omega
  · have := (HU3.out _ e).2; omega
end Go.Proofs.Ytmcbhpaajjlmmaa

/-
  DERIVED. What SolveInteger and RefuteInteger answer: no program in sight.
-/
namespace Go.Proofs.Ytmcbhpaajjlmmaa
set_option linter.unusedVariables false
theorem dropF_cons {xs : List Int} {k : Nat} (h : k < xs.length) : xs.drop k = xs.getD k 0 :: xs.drop (k + 1) := by
  rw [List.drop_eq_getElem_cons h]
  simp [List.getD, h]
/-- The first place whose number is no multiple. -/
def fwF (d : Nat → Int) : Nat → List Int → Option Nat
  | _, [] => none
  | k, x :: l => if d k ∣ x then fwF d (k + 1) l else some k
def fwV : Option Nat → Int
  | none => -1
  | some k => k
theorem fwF_yes {d : Nat → Int} {cs : List Int} {k : Nat} (hk : k < cs.length) (h : d k ∣ cs.getD k 0) : fwF d k (cs.drop k) = fwF d (k + 1) (cs.drop (k + 1)) := by
  rw [dropF_cons hk]
  show (if _ then _ else _) = _
  rw [if_pos h]
theorem fwF_no {d : Nat → Int} {cs : List Int} {k : Nat} (hk : k < cs.length) (h : ¬ d k ∣ cs.getD k 0) : fwF d k (cs.drop k) = some k := by
  rw [dropF_cons hk]
  show (if _ then _ else _) = _
  rw [if_neg h]
theorem fwF_end {d : Nat → Int} {cs : List Int} {k : Nat} (hk : cs.length ≤ k) : fwF d k (cs.drop k) = none := by
  rw [List.drop_of_length_le hk]; rfl
theorem fwF_none {d : Nat → Int} : ∀ (cs : List Int) (k : Nat), fwF d k cs = none → ∀ i, i < cs.length → d (k + i) ∣ cs.getD i 0
  | [], k, _, i, hi => absurd hi (Nat.not_lt_zero _)
  | x :: l, k, h, i, hi => by
    have h' : (if d k ∣ x then fwF d (k + 1) l else some k) = none := h
    split at h'
    · rename_i hd
      match i, hi with
      | 0, _ => simpa using hd
      | i + 1, hi =>
        have := fwF_none l (k + 1) h' i (by simpa using hi)
        rw [show k + (i + 1) = k + 1 + i by omega]
        simpa using this
    · cases h'
theorem fwF_some {d : Nat → Int} : ∀ (cs : List Int) (k q : Nat), fwF d k cs = some q → k ≤ q ∧ q < k + cs.length ∧ ¬ d q ∣ cs.getD (q - k) 0
  | [], k, q, h => by cases h
  | x :: l, k, q, h => by
    have h' : (if d k ∣ x then fwF d (k + 1) l else some k) = some q := h
    split at h'
    · obtain ⟨a, b, c⟩ := fwF_some l (k + 1) q h'
      refine ⟨by omega, by simp; omega, ?_⟩
      rw [show q - k = (q - (k + 1)) + 1 by omega]
      simpa using c
    · rename_i hd
      cases h'
      exact ⟨Nat.le_refl _, by simp, by rw [Nat.sub_self]; simpa using hd⟩
/-- The Smith form and the right side that belongs to it. -/
def siS (r c : Int) (xs bs : List Int) : Option (SS × List Int) := (sfX r c xs).bind fun s => if (bs.length : Int) = r ∧ mulB r r (tb r.toNat r.toNat s.g) bs.length 1 bs = true then some (s, mulL (tb r.toNat r.toNat s.g) r.toNat r.toNat bs 1) else none
/-- The image of the solution under the Smith form. -/
def siY (R C : Nat) (s : SS) (cs : List Int) : List Int := tab C fun i => (cs.getD i 0).tdiv (dgF R C s.f i)
def siR (r c : Int) (xs bs : List Int) : List Int × Int :=
  match siS r c xs bs with
  | none => ([], 2)
  | some (s, cs) =>
    match fwF (dgF r.toNat c.toNat s.f) 0 cs with
    | some _ => ([], 1)
    | none => if mulB c c (tb c.toNat c.toNat s.h) c 1 (siY r.toNat c.toNat s cs) then ((mulM c c (tb c.toNat c.toNat s.h) c 1 (siY r.toNat c.toNat s cs)).xs, 0) else ([], 2)
/-- The number that a refutation divides by. -/
def riN (d x : Int) : Int := if d = 0 then 2 * x else d
/-- The ratios of row k over n. -/
def riL (R : Nat) (g : Fn2) (k : Nat) (n : Int) : Nat → List Int
  | 0 => []
  | j + 1 => riL R g k n j ++ [(lowR (g k j) n).1, (lowR (g k j) n).2]
theorem riL_len (R : Nat) (g : Fn2) (k : Nat) (n : Int) : ∀ j, (riL R g k n j).length = j * 2
  | 0 => rfl
  | j + 1 => by
    show (riL R g k n j ++ [_, _]).length = _
    rw [List.length_append, riL_len R g k n j]
    simp; omega
def riR (r c : Int) (xs bs : List Int) : Nat × List Int × Int :=
  match siS r c xs bs with
  | none => (0, [], 2)
  | some (s, cs) =>
    match fwF (dgF r.toNat c.toNat s.f) 0 cs with
    | none => (0, [], 1)
    | some k => if isNum (riN (dgF r.toNat c.toNat s.f k) (cs.getD k 0)) then (r.toNat, riL r.toNat s.g k (riN (dgF r.toNat c.toNat s.f k) (cs.getD k 0)) r.toNat, 0) else (0, [], 2)
theorem siS_some {R C : Nat} {xs bs : List Int} {s : SS} {cs : List Int} (h : siS R C xs bs = some (s, cs)) :
    sfX R C xs = some s ∧ bs.length = R ∧ mulB R R (tb R R s.g) bs.length 1 bs = true ∧ cs = mulL (tb R R s.g) R R bs 1 := by
  unfold siS at h
  rcases hx : sfX R C xs with _ | s'
  · rw [hx] at h; cases h
  · rw [hx] at h
    simp only [Option.bind_some, Int.toNat_natCast] at h
    split at h
    · rename_i hc
      cases h
      exact ⟨rfl, by omega, hc.2, rfl⟩
    · cases h
end Go.Proofs.Ytmcbhpaajjlmmaa

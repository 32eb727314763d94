/-
  DERIVED. Several small texts in one: RankI, Rats, Rap, LawQ, PlainV, PlainX, PlLi.
-/
import Derived.Test.YtlggfmfelakadaaVS
import Derived.Test.YtlggfmfelakadaaElimv
import Derived.Test.YtlggfmfelakadaaRedv
import Derived.Test.YtlggfmfelakadaaAppend2
import Derived.Test.YtlggfmfelakadaaV1
import Derived.Test.YtlggfmfelakadaaRatOv
import Derived.Test.YtlggfmfelakadaaRatioFromv
/-
  DERIVED. RankMod and DeterminantMod of the program.
-/
namespace Go.Proofs.Ytlggfmfelakadaa
open Go.RowKit
set_option linter.unusedVariables false
set_option linter.unusedSimpArgs false
/-- The end of the elimination over residues. -/
def rmF (c : Int) (xs : List Int) (p : Int) : Nat → Nat → Int := fun i j => cel (redL xs p) c.toNat i j
def rmS (r c : Int) (xs : List Int) (p : Int) : ESt := runE r.toNat c.toNat p (rmF c xs p)
def rankM (r c : Int) (xs : List Int) (p : Int) : Int := if redB r c xs p then ((rmS r c xs p).t : Int) else 0
def detMB (r c : Int) (xs : List Int) (p : Int) : Bool := redB r c xs p && decide (r = c)
def detM (r c : Int) (xs : List Int) (p : Int) : Int := if detMB r c xs p then (if ((rmS r c xs p).t : Int) < r then 0 else (rmS r c xs p).d) else 0
theorem redL_at (xs : List Int) (p : Int) (hp : 2 ≤ p) (k : Nat) : 0 ≤ (redL xs p).getD k 0 ∧ (redL xs p).getD k 0 < p := by
  unfold redL
  by_cases hk : k < xs.length
  · have : (xs.map (· % p)).getD k 0 = xs[k] % p := by simp [List.getD, hk]
    rw [this]
    exact emod_bds _ _ (by omega)
  · have : (xs.map (· % p)).getD k 0 = 0 := by simp [List.getD, List.getElem?_eq_none (show xs.length ≤ k by omega)]
    rw [this]; omega
structure RedOk (r c : Int) (xs : List Int) (p : Int) : Prop where
  m : IsM r c xs
  pr : isPr p = true
  pb : 2 ≤ p ∧ p ≤ 10000
  mx : redM r c xs p = ⟨r, c, redL xs p⟩
  tb_ : redL xs p = tb r.toNat c.toNat (rmF c xs p)
  f0 : ∀ i j : Nat, 0 ≤ rmF c xs p i j ∧ rmF c xs p i j < p
  ok : EOk r.toNat p (rmS r c xs p)
theorem redOk {r c : Int} {xs : List Int} {p : Int} (h : redB r c xs p = true) : RedOk r c xs p := by
  have h0 := h
  unfold redB at h0
  rw [Bool.and_eq_true] at h0
  have M := isMat_iff.1 h0.1
  have hp := isPr_bds h0.2
  have hf : ∀ i j : Nat, 0 ≤ rmF c xs p i j ∧ rmF c xs p i j < p := fun i j => redL_at xs p hp.1 _
  refine ⟨M, h0.2, hp, ?_, ?_, hf, ?_⟩
  · unfold redM; rw [if_pos h]
  · unfold rmF
    apply tb_of
    have h1 := M.len; have h2 := M.r0; have h3 := M.c0
    obtain ⟨R, rfl⟩ := nat_of h2
    obtain ⟨C, rfl⟩ := nat_of h3
    simp only [Int.toNat_natCast]
    rw [← Int.natCast_mul] at h1
    simp [redL]; omega
  · exact colsE_ok hp.1 _ _ _ ⟨hf, Nat.zero_le _, by show (0 : Int) ≤ 1 ∧ (1 : Int) < p; omega⟩
theorem redM_no {r c : Int} {xs : List Int} {p : Int} (h : redB r c xs p = false) : redM r c xs p = .none := by
  unfold redM; rw [h]; rfl
theorem det_cases (r c : Int) (xs : List Int) (p : Int) : (redB r c xs p = false ∧ detMB r c xs p = false) ∨ (redB r c xs p = true ∧ (r != c) = true ∧ detMB r c xs p = false) ∨ (redB r c xs p = true ∧ r = c ∧ detMB r c xs p = true) := by
  unfold detMB
  rcases redB r c xs p with _ | _
  · left; simp
  · right
    by_cases h : r = c
    · right; simp [h]
    · left; simp [h]
theorem detM_no {r c : Int} {xs : List Int} {p : Int} (h : detMB r c xs p = false) : detM r c xs p = 0 := by unfold detM; rw [h]; rfl
set_option maxRecDepth 100000 in
set_option maxHeartbeats 2000000 in
theorem impl_DeterminantMod (r c p : Int) (A : Option Addr) (n cap : Nat) (xs : List Int) (w : World) {B : Nat} (h : RI w B A n xs) (hB : B ≤ w.heap.size) (hn : n ≤ 1048576) :
    Calls Try.prog 67 #[.agg #[.int .i64 r, .int .i64 c, .slice A n cap], .int .i64 p] w (BV (.tuple #[.int .i64 (detM r c xs p), .bool (detMB r c xs p)]) w) := by
  have H2 := Lib.hid (h.more hB)
  clear h
  rcases det_cases r c xs p with ⟨hb, hd⟩ | ⟨hb, hne, hd⟩ | ⟨hb, rfl, hd⟩
  · rw [detM_no hd, hd]
    have HB := Lib.hid hb
    have HX := Lib.hid (redM_no hb)
    clear hb hd
    go_enter Try.func67, Try.ntmps67
    go_wp2_with fail
    refine (impl_ReduceMod r c p A n cap xs _ (B := w.heap.size) (Kr H2.out) Ks hn).mono ?_
    rw [HB.out, HX.out]
    rintro e w1 ⟨A', n', cap', rfl, hown, hb1⟩
    have hsz1 := hb1.size
    simp at hsz1
    go_wp2_with fail
    go_ret2
    exact BV.mk rfl Kw
  · rw [detM_no hd, hd]
    have HB := Lib.hid hb
    have HX := Lib.hid (redOk hb).mx
    clear hb hd
    go_enter Try.func67, Try.ntmps67
    go_wp2_with fail
    refine (impl_ReduceMod r c p A n cap xs _ (B := w.heap.size) (Kr H2.out) Ks hn).mono ?_
    rw [HB.out, HX.out]
    rintro e w1 ⟨A', n', cap', rfl, hown, hb1⟩
    have hsz1 := hb1.size
    simp at hsz1
    have hM : BM w1 w.heap.size r c A n cap := Ka
    obtain ⟨oa, ob, oc, of, ol⟩ := hM.mx
    go_wp2_with fail
    go_ret2
    exact BV.mk rfl Kw
  · have K := redOk hb
    have hv : detM r r xs p = (if ((rmS r r xs p).t : Int) < r then 0 else (rmS r r xs p).d) := by unfold detM; rw [hd]; rfl
    rw [hv, hd]
    have HB := Lib.hid hb
    have HX := Lib.hid K.mx
    have HT := Lib.hid K.tb_
    have HF := Lib.hid K.f0
    have HR : Hid (runE r.toNat r.toNat p (rmF r xs p) = rmS r r xs p) := Lib.hid rfl
    obtain ⟨hp1, hp2⟩ := K.pb
    have hR := K.m.r1
    have hd0 := K.ok.d0
    have ht0 := K.ok.t0
    obtain ⟨R, rfl⟩ := nat_of K.m.r0
    clear hb hv K hd
    generalize rmS (R : Int) (R : Int) xs p = X at *
    simp only [Int.toNat_natCast] at HT HF HR ht0
    generalize rmF (R : Int) xs p = f at *
    obtain ⟨hd1, hd2⟩ := hd0
    generalize hvv : (if ((X.t : Nat) : Int) < (R : Int) then 0 else X.d) = V
    have HVV := Lib.hid hvv
    clear hvv
    go_enter Try.func67, Try.ntmps67
    go_wp2_with fail
    refine (impl_ReduceMod R R p A n cap xs _ (B := w.heap.size) (Kr H2.out) Ks hn).mono ?_
    rw [HB.out, HX.out]
    rintro e w1 ⟨A', n', cap', rfl, hown, hb1⟩
    have hsz1 := hb1.size
    simp at hsz1
    have hown1 : OR w1 (w.heap.size + 1) (.slice A' n' cap') (tb R R f) := by
      have := hown
      rw [show (⟨(R : Int), (R : Int), redL xs p⟩ : Mx).xs = redL xs p from rfl, HT.out] at this
      simpa using this
    have hM : BM w1 w.heap.size R R A n cap := Ka
    obtain ⟨oa, ob, oc, of, ol⟩ := hM.mx
    clear hown
    go_wp2_with fail
    refine (impl_eliminate R R R p A' n' cap' f _ (B := w.heap.size + 1) (Ko hown1) (by omega) (by omega) (Nat.le_refl _) ⟨hp1, hp2⟩ HF.out).mono ?_
    rw [HR.out]
    rintro e w2 ⟨rfl, hown2, hgr2, hsz2⟩
    have hbw : Below w.heap.size w w2 := Below.trans (show Below w.heap.size w (w1.alloc (.cells #[.int .i64 R, .int .i64 R, .slice A' n' cap'] 26)) from Kw) ((OR.below_grown (hown1.alloc (.cells #[.int .i64 R, .int .i64 R, .slice A' n' cap'] 26)) hgr2 (by simp; omega)).mono (by omega))
    have hM2 : BM w2 w.heap.size R R A n cap := (hM.alloc (.cells #[.int .i64 R, .int .i64 R, .slice A' n' cap'] 26)).grown hgr2 (OR.ne_low (hown1.alloc (.cells #[.int .i64 R, .int .i64 R, .slice A' n' cap'] 26)) (by omega))
    clear hgr2 oa ob oc of ol
    obtain ⟨oa, ob, oc, of, ol⟩ := hM2.mx
    by_cases hlt : X.t < R
    · have HV : Hid (V = 0) := Lib.hid (by rw [← HVV.out, if_pos (by omega)])
      generalize X.t = XT at *
      go_wp2_with fail
      go_ret2
      refine BV.mk ?_ hbw
      exact vib HV.out.symm rfl
    · have HV : Hid (V = X.d) := Lib.hid (by rw [← HVV.out, if_neg (by omega)])
      have HE : Hid (X.d % p = X.d) := Lib.hid (Int.emod_eq_of_lt hd1 hd2)
      generalize X.t = XT at *
      generalize X.d = XD at *
      go_wp2_with (first | (go_at_call 108; refine (impl_mod _ _ _ (by omega) (by omega) (by omega) (by omega)).mono ?_; rintro e w' ⟨rfl, rfl⟩))
      go_ret2
      refine BV.mk ?_ hbw
      exact vib (HV.out.trans HE.out.symm).symm rfl
end Go.Proofs.Ytlggfmfelakadaa

/-
  DERIVED. Slices of ratios: their cells, flat; the laws' helpers toRatioS, szRatioS, eqRatioS, markRatioS, heldRatioS.
-/
namespace Go.Proofs.Ytlggfmfelakadaa
open Go.RowKit
set_option linter.unusedVariables false
set_option linter.unusedSimpArgs false
theorem ratio_info : (Try.prog.info? 84).map (fun i => (i.zero, i.size, i.bytes)) = some (some (.agg #[.int .i64 0, .int .i64 0]), 2, 16) := by kernel_rfl
/-- From block B on, the slice value v owns just n ratios, whose cells are xs. -/
def OF (w : World) (B : Nat) (v : Value) (n : Nat) (xs : List Int) : Prop := w.ownsRow B 84 2 v n (xs.map (Value.int .i64))
section
variable {w w' : World} {B n : Nat} {v : Value} {xs : List Int}
theorem OF.len (h : OF w B v n xs) : xs.length = n * 2 := by have := h.1; simpa using this
theorem OF.form (h : OF w B v n xs) : (v = .slice none 0 0 ∧ n = 0) ∨ ∃ g cap, v = .slice (some ⟨g, 0, none⟩) n cap ∧ B ≤ g ∧ g < w.heap.size ∧ n ≤ cap ∧ cap ≤ maxLen := by
  rcases h.2 with ⟨h1, h2⟩ | ⟨g, cap, cur, h1, h2, h3, h4, h5, _⟩
  · exact .inl ⟨h1, h2⟩
  · refine .inr ⟨g, cap, h1, h2, ?_, h4, h5⟩
    rcases Nat.lt_or_ge g w.heap.size with hlt | hge
    · exact hlt
    · rw [Array.getElem?_eq_none hge] at h3; cases h3
theorem OF.kept {row : Option Nat} (h : OF w B v n xs) (hg : w.grownBy w' row) (hne : v.ownBlock = none ∨ v.ownBlock ≠ row) : OF w' B v n xs := World.ownsRow.kept h hg hne
theorem OF.alloc (h : OF w B v n xs) (o : Obj) : OF (w.alloc o) B v n xs := World.ownsRow.alloc h o
theorem OF.drew (h : OF w B v n xs) : OF w.drew B v n xs := h
theorem OF.drewN (h : OF w B v n xs) (k : Nat) : OF (w.drewN k) B v n xs := h
theorem OF.below {C : Nat} (h : OF w B v n xs) (hb : Below C w w') (hC : w.heap.size ≤ C) : OF w' B v n xs :=
  h.kept (row := none) ⟨hb.os, hb.tape, hb.output, hb.size, fun k hk _ => hb.block k (by omega)⟩ (by cases v.ownBlock <;> simp)
theorem OF.far (h : OF w B v n xs) {p : Addr} (hp : v.ownBlock ≠ some p.block) (u : Value) : OF (w.setCell p u) B v n xs :=
  h.kept (row := some p.block) ⟨rfl, rfl, rfl, by simp [World.setCell], fun k hk hne => Below.heap_setCell w p u k (fun e => hne (by rw [e]))⟩ (.inr hp)
theorem OF.mono {B' : Nat} (h : OF w B v n xs) (hB : B' ≤ B) : OF w B' v n xs := by
  refine ⟨h.1, ?_⟩
  rcases h.2 with h1 | ⟨g, cap, cur, h1, h2, h3⟩
  · exact .inl h1
  · exact .inr ⟨g, cap, cur, h1, by omega, h3⟩
theorem OF.low (h : OF w B v n xs) {p : Addr} (hp : p.block < B) (u : Value) : OF (w.setCell p u) B v n xs := ownsRow_setCell_below h hp u
theorem OF.own (h : OF w B v n xs) : Own v B w.heap.size := by
  intro g hg
  rcases h.form with ⟨h1, h2⟩ | ⟨g', cap', h1, h2, h3, _⟩
  · subst h1; cases hg
  · subst h1
    have e : g' = g := by simpa [Value.ownBlock] using hg
    subst e; exact ⟨h2, h3⟩
theorem OF.b_ {w w' : World} {B C n : Nat} {v : Value} {xs : List Int} (h : OF w B v n xs) (hb : Below C w w' := by assumption) (hC : w.heap.size ≤ C := by first | omega | (simp; done) | (simp; omega)) : OF w' B v n xs := OF.below h hb hC
theorem OF.l_ {w : World} {B n : Nat} {v u : Value} {xs : List Int} {p : Addr} (h : OF w B v n xs) (hp : p.block < B := by first | omega | (simp only []; omega) | (simp; omega)) : OF (w.setCell p u) B v n xs := OF.low h hp u
theorem OF.keptOwn {sv : Value} {lo hi lo' hi' : Nat} (h : OF w B v n xs) (hg : w.grownBy w' sv.ownBlock) (a : Own v lo hi) (b : Own sv lo' hi') (hd : hi ≤ lo' ∨ hi' ≤ lo) : OF w' B v n xs := by
  refine h.kept hg ?_
  cases h1 : v.ownBlock with
  | none => exact .inl rfl
  | some g =>
    refine .inr fun e => ?_
    have h2 := a g h1
    have h3 := b g e.symm
    omega
theorem OF.as {ys : List Int} (h : OF w B v n xs) (e : xs = ys) : OF w B v n ys := e ▸ h
theorem OF.nil_ (w : World) (B : Nat) : OF w B (.slice none 0 0) 0 [] := World.ownsRow_nil w B _ _
variable {g cap : Nat} {A : Option Addr} {m : Nat}
theorem OF.lenEq (h : OF w B (.slice A m cap) n xs) : m = n := by
  rcases h.form with ⟨h1, h2⟩ | ⟨g, cap', h1, h2, h3, _⟩
  · injection h1 with e1 e2 e3; omega
  · injection h1
theorem OF.cnt (h : OF w B (.slice A m cap) n xs) : OF w B (.slice A m cap) m xs := by
  have h1 := h.lenEq
  subst h1
  exact h
theorem OF.caps (h : OF w B (.slice A m cap) n xs) : m ≤ cap ∧ cap ≤ 9223372036854775807 := by
  rcases h.form with ⟨h1, h2⟩ | ⟨g, cap', h1, h2, h3, h4, h5⟩
  · injection h1 with e1 e2 e3; omega
  · injection h1 with e1 e2 e3
    unfold maxLen at h5
    omega
theorem OF.begins (h : OF w B (.slice A m cap) n xs) (hp : 0 < n) : ∃ g, A = some ⟨g, 0, none⟩ ∧ B ≤ g ∧ g < w.heap.size := by
  rcases h.form with ⟨h1, h2⟩ | ⟨g, cap', h1, h2, h3, _⟩
  · omega
  · injection h1 with e1 e2 e3
    exact ⟨g, e1, h2, h3⟩
theorem OF.cell (h : OF w B (.slice (some ⟨g, 0, none⟩) m cap) n xs) (k : Nat) (hk : k < n * 2) : w.cell? ⟨g, k, none⟩ = some (.int .i64 (xs.getD k 0)) := by
  have hn := h.lenEq
  subst hn
  have hl := h.len
  have := World.ownsRow.cellAt h k hk
  rw [this]
  simp [show k < xs.length by omega]
theorem OF.frozen (h : OF w B (.slice (some ⟨g, 0, none⟩) m cap) n xs) (k : Nat) : w.frozen? ⟨g, k, none⟩ = false := by
  have hn := h.lenEq
  subst hn
  exact World.ownsRow.frozenAt h k
theorem OF.set_ (h : OF w B (.slice (some ⟨g, 0, none⟩) m cap) n xs) (k : Nat) (u : Int) : OF (w.setCell ⟨g, k, none⟩ (.int .i64 u)) B (.slice (some ⟨g, 0, none⟩) m cap) n (xs.set k u) := by
  have hn := h.lenEq
  subst hn
  have := (World.ownsRow.stored h k (.int .i64 u)).1
  unfold OF
  rw [List.map_set]
  exact this
theorem OF.reads (h : OF w B (.slice A m cap) n xs) : RI w w.heap.size A (m * 2) xs := by
  have hl := h.len
  have hm := h.lenEq
  rcases h.form with ⟨h1, h2⟩ | ⟨g, cap', h1, h2, h3, _⟩
  · injection h1 with e1 e2 e3
    subst e2
    have hx : xs = [] := List.eq_nil_of_length_eq_zero (by omega)
    subst hx
    exact RI.nil_ _ _ _
  · injection h1 with e1 e2 e3
    subst e1; subst e2
    exact ⟨hl, fun hn => ⟨g, 0, rfl, h3, fun k hk => by rw [Nat.zero_add]; exact h.cell k hk⟩⟩
end
theorem made_ratios (n : Nat) : (madeCells #[Value.int .i64 0, Value.int .i64 0] (n * 2)).toList = (List.replicate (n * 2) (0 : Int)).map (Value.int .i64) := by
  rw [List.map_replicate]
  apply List.ext_getElem?
  intro i
  simp only [madeCells]
  by_cases hi : i < n * 2
  · have h2 : i % 2 = 0 ∨ i % 2 = 1 := by omega
    rcases h2 with h2 | h2 <;> simp [hi, h2]
  · simp [hi]
theorem OF.of_made {w : World} {B g n : Nat} (h : w.ownsRow B 84 2 (.slice (some ⟨g, 0, none⟩) n n) n (madeCells #[Value.int .i64 0, Value.int .i64 0] (n * 2)).toList) :
    OF w B (.slice (some ⟨g, 0, none⟩) n n) n (List.replicate (n * 2) 0) := by
  unfold OF
  rw [← made_ratios]
  exact h
/-- The call returned n ratios of its own. -/
def QR (n : Nat) (xs : List Int) (w : World) (e : Ending) (w' : World) : Prop := ∃ A m cap, e = .returned (.slice A m cap) ∧ OF w' w.heap.size (.slice A m cap) n xs ∧ Below w.heap.size w w'
theorem laws_eqRatio (a b : Int) (w : World) : Calls Try.prog 81 #[.agg #[.int .i64 a, .int .i64 b], .agg #[.int .i64 a, .int .i64 b]] w (BV (.bool true) w) := by
  have b1 : (a != a) = false := by simp
  have b2 : (b != b) = false := by simp
  go_enter Try.func81, Try.ntmps81
  go_wp2_with fail
  go_ret
  exact BV.mk rfl Kw
set_option maxRecDepth 100000 in
set_option maxHeartbeats 4000000 in
theorem laws_eqRatioS (A A' : Option Addr) (n c d : Nat) (xs : List Int) (w : World) {C C' : Nat} (h : RI w C A (n * 2) xs) (h' : RI w C' A' (n * 2) xs) (hC : C ≤ w.heap.size) (hC' : C' ≤ w.heap.size) (hn : n ≤ 1048576) :
    Calls Try.prog 29 #[.slice A n c, .slice A' n d] w (BV (.bool true) w) := by
  have H := Lib.hid (h.more hC)
  have H' := Lib.hid (h'.more hC')
  have hb : ((n : Int) != (n : Int)) = false := by simp
  clear h h'
  go_enter Try.func29, Try.ntmps29
  go_wp2_with fail
  go_loopw [5] (fun v wr => ∃ k : Nat, v = .int .i64 k ∧ k ≤ n ∧ Below w.heap.size w wr) (fun v _ => n - (intOf v).toNat)
  case atStart => exact ⟨0, rfl, Nat.zero_le _, Below.refl _ _⟩
  case round =>
    obtain ⟨k, rfl, hk, hbw⟩ := hrel
    have hszw := hbw.size
    by_cases hlt : k < n
    · obtain ⟨b, o, rfl, hbb, hcells⟩ := H.out.2 (by omega)
      obtain ⟨b', o', rfl, hbb', hcells'⟩ := H'.out.2 (by omega)
      have hc1 := (hbw.cell (p := ⟨b, o + k * 2, none⟩) hbb).trans (hcells (k * 2) (by omega))
      have hc2 := (hbw.cell (p := ⟨b, o + k * 2 + 1, none⟩) hbb).trans (hcells (k * 2 + 1) (by omega))
      have hc3 := (hbw.cell (p := ⟨b', o' + k * 2, none⟩) hbb').trans (hcells' (k * 2) (by omega))
      have hc4 := (hbw.cell (p := ⟨b', o' + k * 2 + 1, none⟩) hbb').trans (hcells' (k * 2 + 1) (by omega))
      clear hcells hcells'
      generalize xs.getD (k * 2) 0 = x at *
      generalize xs.getD (k * 2 + 1) 0 = y at *
      go_wp2_with fail
      ((refine wp_region_held_drew (S := (fun w' => w'.cell? ⟨b, o + k * 2, none⟩ = some (.int .i64 x) ∧ w'.cell? ⟨b, o + k * 2 + 1, none⟩ = some (.int .i64 y) ∧ w'.cell? ⟨b', o' + k * 2, none⟩ = some (.int .i64 x) ∧ w'.cell? ⟨b', o' + k * 2 + 1, none⟩ = some (.int .i64 y))) (by kernel_rfl) ?_ (fun hHeld => ?_)); ((focus ((try dsimp only); (go_keep)))); ((refine tk_ (i := 0) (v := ?_) (y := Or.inl ⟨by rfl, ?_⟩) (h := ?_); rotate_left; (focus (((intro w hSw; (try dsimp only at hSw); go_simp) <;> (try with_reducible rfl)); done)); (try simp only [Act.put, p1_, p2_, p3_]))); ((refine tk_ (i := 1) (v := ?_) (y := Or.inl ⟨by rfl, ?_⟩) (h := ?_); rotate_left; (focus (((intro w hSw; (try dsimp only at hSw); go_simp) <;> (try with_reducible rfl)); done)); (try simp only [Act.put, p1_, p2_, p3_]))); ((refine tk_ (i := 2) (v := ?_) (y := Or.inl ⟨by rfl, ?_⟩) (h := ?_); rotate_left; (focus (((intro w hSw; (try dsimp only at hSw); go_simp) <;> (try with_reducible rfl)); done)); (try simp only [Act.put, p1_, p2_, p3_]))); ((refine tk_ (i := 3) (v := ?_) (y := Or.inl ⟨by rfl, ?_⟩) (h := ?_); rotate_left; (focus (((intro w hSw; (try dsimp only at hSw); go_simp) <;> (try with_reducible rfl)); done)); (try simp only [Act.put, p1_, p2_, p3_]))); ((refine tk_ (i := 4) (v := ?_) (y := Or.inl ⟨by rfl, ?_⟩) (h := ?_); rotate_left; (focus (((intro w hSw; (try dsimp only at hSw); go_simp) <;> (try with_reducible rfl)); done)); (try simp only [Act.put, p1_, p2_, p3_]))); ((refine tk_ (i := 5) (v := ?_) (y := Or.inl ⟨by rfl, ?_⟩) (h := ?_); rotate_left; (focus (((intro w hSw; (try dsimp only at hSw); go_simp) <;> (try with_reducible rfl)); done)); (try simp only [Act.put, p1_, p2_, p3_]))); ((refine tk_ (i := 6) (v := ?_) (y := Or.inl ⟨by rfl, ?_⟩) (h := ?_); rotate_left; (focus (((intro w hSw; (try dsimp only at hSw); go_simp) <;> (try with_reducible rfl)); done)); (try simp only [Act.put, p1_, p2_, p3_]))); ((refine tk_ (i := 7) (v := ?_) (y := Or.inl ⟨by rfl, ?_⟩) (h := ?_); rotate_left; (focus (((intro w hSw; (try dsimp only at hSw); go_simp) <;> (try with_reducible rfl)); done)); (try simp only [Act.put, p1_, p2_, p3_]))); ((refine wpAnyH_ready (rs := [8]) (by kernel_rfl) (by simp) ?_; refine AllReadyH.cons (by simp only [e1_, e2_, e3_]; try rfl) (fun K hK => ?_) AllReadyH.nil; go_simp; (refine (laws_eqRatio _ _ _).mono ?_; rintro e w1 ⟨rfl, hb1⟩; have hbw1 : Below w.heap.size w w1 := Kw; have hd1 := (hbw1.cell (p := ⟨b, o + k * 2, none⟩) hbb).trans ((hbw.cell (p := ⟨b, o + k * 2, none⟩) hbb).symm.trans hc1); have hd2 := (hbw1.cell (p := ⟨b, o + k * 2 + 1, none⟩) hbb).trans ((hbw.cell (p := ⟨b, o + k * 2 + 1, none⟩) hbb).symm.trans hc2); have hd3 := (hbw1.cell (p := ⟨b', o' + k * 2, none⟩) hbb').trans ((hbw.cell (p := ⟨b', o' + k * 2, none⟩) hbb').symm.trans hc3); have hd4 := (hbw1.cell (p := ⟨b', o' + k * 2 + 1, none⟩) hbb').trans ((hbw.cell (p := ⟨b', o' + k * 2 + 1, none⟩) hbb').symm.trans hc4)); (try go_wp2_with fail); refine hK.out _ _ ?_ (fun hHeld => ?_); (focus ((try dsimp only); (go_keep))); clear hK K; (try simp only [Act.put, p1_, p2_, p3_]))); ((refine tk_ (i := 9) (v := ?_) (y := Or.inl ⟨by rfl, ?_⟩) (h := ?_); rotate_left; (focus (((intro w hSw; (try dsimp only at hSw); go_simp) <;> (try with_reducible rfl)); done)); (try simp only [Act.put, p1_, p2_, p3_]))); (refine wpAnyH_done (by kernel_rfl) ?_ _))
      go_wp2_with fail
      go_roundw
      case rel => exact ⟨k + 1, by go_num, by omega, Kw⟩
      case measure => simp only [intOf]; omega
    · go_wp2
      go_ret
      exact BV.mk rfl hbw
theorem iota_flat {k : Int} {n j : Nat} (h : j < n) : (iota k n).getD j 0 = k + j := iota_getD h
/-- The call returned the int, having written just the block of an own slice of n ratios, which now holds ys. -/
def WF (k : Int) (sv : Value) (B n : Nat) (ys : List Int) (w : World) (e : Ending) (w' : World) : Prop :=
  e = .returned (.int .i64 k) ∧ OF w' B sv n ys ∧ w.grownBy w' sv.ownBlock ∧ w.heap.size ≤ w'.heap.size
set_option maxRecDepth 100000 in
set_option maxHeartbeats 4000000 in
theorem laws_markRatioS (A : Option Addr) (n cap : Nat) (xs : List Int) (k : Int) (w : World) (B : Nat) (h : OF w B (.slice A n cap) n xs) (hn2 : n ≤ 1048576) (hk0 : 0 ≤ k) (hk1 : k ≤ 1000000000000) :
    Calls Try.prog 34 #[.slice A n cap, .int .i64 k] w (WF (k + (n * 2 : Nat)) (.slice A n cap) B n (iota k (n * 2)) w) := by
  have hlx := h.len
  have hlx1 : n * 2 ≤ xs.length ∧ xs.length ≤ n * 2 := by omega
  have HLX := Lib.hid hlx
  clear hlx
  go_enter Try.func34, Try.ntmps34
  go_wp2_with fail
  go_loopw [1, 5] (fun u v wr => ∃ j : Nat, u = .int .i64 (k + (j * 2 : Nat)) ∧ v = .int .i64 j ∧ j ≤ n ∧ OF wr B (.slice A n cap) n (marked xs k (j * 2)) ∧ w.grownBy wr (Value.slice A n cap).ownBlock ∧ w.heap.size ≤ wr.heap.size) (fun _ v _ => n - (intOf v).toNat)
  case atStart => exact ⟨0, by simp, rfl, Nat.zero_le _, by rw [Nat.zero_mul, marked_zero]; exact h, World.grownBy.refl w _, Nat.le_refl _⟩
  case round =>
    clear h
    obtain ⟨j, rfl, rfl, hj, hown, hgr, hsz⟩ := hrel
    by_cases hlt : j < n
    · obtain ⟨g, rfl, hg1, hg2⟩ := hown.begins (by omega)
      have c1 := hown.cell (j * 2) (by omega)
      have c2 := hown.cell (j * 2 + 1) (by omega)
      have f1 := hown.frozen (j * 2)
      have f2 := hown.frozen (j * 2 + 1)
      have hst := (hown.set_ (j * 2) (k + (j * 2 : Nat))).set_ (j * 2 + 1) (k + (j * 2 + 1 : Nat))
      rw [marked_set (by omega), marked_set (by omega)] at hst
      rw [show k + ((j * 2 : Nat) : Int) = k + (j : Int) * 2 by omega, show k + ((j * 2 + 1 : Nat) : Int) = k + (j : Int) * 2 + 1 by omega] at hst
      have HST := Lib.hid hst
      clear hst
      generalize (marked xs k (j * 2)).getD (j * 2) 0 = z1 at c1
      generalize (marked xs k (j * 2)).getD (j * 2 + 1) 0 = z2 at c2
      go_wp2_with fail
      go_roundw
      case rel => exact ⟨j + 1, by go_num, by go_num, by omega, by rw [show (j + 1) * 2 = j * 2 + 1 + 1 by omega]; exact HST.out, only_set (only_set hgr _ _) _ _, by simp; omega⟩
      case measure => simp only [intOf]; omega
    · obtain rfl : j = n := by omega
      have hfin := hown.as (show marked xs k (j * 2) = iota k (j * 2) by rw [← HLX.out, marked_all])
      clear hown
      go_wp2_with fail
      go_ret
      exact ⟨rfl, hfin, hgr, hsz⟩
set_option maxRecDepth 100000 in
set_option maxHeartbeats 4000000 in
theorem laws_heldRatioS (A : Option Addr) (n cap : Nat) (k : Int) (w : World) (C : Nat) (h : RI w C A (n * 2) (iota k (n * 2))) (hn2 : n ≤ 1048576) (hk0 : 0 ≤ k) (hk1 : k ≤ 1000000000000) :
    Calls Try.prog 35 #[.slice A n cap, .int .i64 k] w (EV (.int .i64 (k + (n * 2 : Nat))) w) := by
  have H := Lib.hid h
  clear h
  go_enter Try.func35, Try.ntmps35
  go_wp2_with fail
  go_loop [1, 5] (fun u v => ∃ j : Nat, u = .int .i64 (k + (j * 2 : Nat)) ∧ v = .int .i64 j ∧ j ≤ n) (fun _ v => n - (intOf v).toNat)
  case atStart => exact ⟨0, by simp, rfl, Nat.zero_le _⟩
  case round =>
    obtain ⟨j, rfl, rfl, hj⟩ := hrel
    by_cases hlt : j < n
    · obtain ⟨b, o, rfl, hbb, hcells⟩ := H.out.2 (by omega)
      have c1 := hcells (j * 2) (by omega)
      have c2 : w.cell? ⟨b, o + j * 2 + 1, none⟩ = _ := hcells (j * 2 + 1) (by omega)
      have heb1 : ((iota k (n * 2)).getD (j * 2) 0 != k + (j : Int) * 2) = false := by rw [iota_getD (by omega)]; simp
      have heb2 : ((iota k (n * 2)).getD (j * 2 + 1) 0 != k + (j : Int) * 2 + 1) = false := by rw [iota_getD (by omega)]; simp; omega
      generalize (iota k (n * 2)).getD (j * 2) 0 = x at *
      generalize (iota k (n * 2)).getD (j * 2 + 1) 0 = y at *
      clear hcells
      go_wp2_with fail
      go_round
      case rel => exact ⟨j + 1, by go_num, by go_num, by omega⟩
      case measure => simp only [intOf]; omega
    · obtain rfl : j = n := by omega
      go_wp2_with fail
      go_ret
      exact EV.mk rfl
theorem run_append_ratio (w : World) (B : Nat) (ty : TypeId) (v : Value) (n : Nat) (xs : List Int) (hown : OF w B v n xs) (g : Nat) (x y : Int) (c0 : w.cell? ⟨g, 0, none⟩ = some (.int .i64 x)) (c1 : w.cell? ⟨g, 1, none⟩ = some (.int .i64 y)) (h63 : n ≤ 1000000000) (hbase : B ≤ w.heap.size) :
    ∃ v' w', (Builtin.append_ #[46, 46] ty #[v, .slice (some ⟨g, 0, none⟩) 1 1]).run Try.prog w = .ok v' w' ∧ OF w' B v' (n + 1) (xs ++ [x, y]) ∧ w.grownBy w' v.ownBlock ∧ (v'.ownBlock = v.ownBlock ∨ v'.ownBlock = some w.heap.size) := by
  obtain ⟨i0, hi, hz0, hz1, hz2⟩ := info_parts ratio_info
  have hcells : ∀ j u, ([Value.int .i64 x, Value.int .i64 y] : List Value)[j]? = some u → w.cell? ((⟨g, 0, none⟩ : Addr).add j) = some u := by
    intro j u hu
    rw [addr_add, Nat.zero_add]
    match j, hu with
    | 0, hu => simp at hu; subst hu; exact c0
    | 1, hu => simp at hu; subst hu; exact c1
    | j + 2, hu => simp at hu
  obtain ⟨v', w', hrun, h2, h3, _, h5⟩ := run_append_own_at (P := Try.prog) w B 46 ty 84 i0 (.agg #[.int .i64 0, .int .i64 0]) 2 16 Try.underlying46 hi hz0 hz1 hz2 rfl (by omega) v n (xs.map (Value.int .i64)) hown ⟨g, 0, none⟩ 1 1 [.int .i64 x, .int .i64 y] rfl hcells (by
    intro u hu
    simp at hu
    rcases hu with rfl | rfl <;> rfl) (by unfold maxLen; omega) (by omega) hbase
  refine ⟨v', w', hrun, ?_, h3, h5⟩
  unfold OF
  rw [List.map_append]
  exact h2
section
variable (w : World)
theorem step_append_ratio {ops : Array Oper} {o : Oper} {a : Act} {K : Act → World → Prop} {Q : Exit → Act → World → Prop} {E : Prop} (hgd : o.guard = none) (s z : Operand)
    (ho : o.op = .call { callee := .builtin .append, args := #[s, z], argTypes := #[46, 46] })
    (B : Nat) (v : Value) (n : Nat) (xs : List Int) (hs : a.eval s = v) (hown : OF w B v n xs) (g : Nat) (x y : Int) (hz : a.eval z = .slice (some ⟨g, 0, none⟩) 1 1) (c0 : w.cell? ⟨g, 0, none⟩ = some (.int .i64 x)) (c1 : w.cell? ⟨g, 1, none⟩ = some (.int .i64 y)) (h63 : n ≤ 1000000000) (hbase : B ≤ w.heap.size)
    (h : ∀ v' w', OF w' B v' (n + 1) (xs ++ [x, y]) → w.grownBy w' v.ownBlock → (v'.ownBlock = v.ownBlock ∨ v'.ownBlock = some w.heap.size) → K (a.put o.dst v') w') :
    if Region.wanted o (yielded ops a.tmps) = true then Oper.wp Try.prog o a w K Q else E := by
  have hw : Region.wanted o (yielded ops a.tmps) = true := by simp [Region.wanted, hgd]
  rw [if_pos hw]
  obtain ⟨v', w', hrun, h2, h3, h4⟩ := run_append_ratio w B o.type v n xs hown g x y c0 c1 h63 hbase
  unfold Oper.wp execOp
  simp only [ho, resolve, invoke, builtin, Sem.run_bind, Sem.run_pure, Result.andThen_ok, List.map_toArray, List.map_cons, List.map_nil, hs, hz, hrun]
  exact h v' w' h2 h3 h4
end
theorem OF.shape {w : World} {B n : Nat} {v : Value} {xs : List Int} (h : OF w B v n xs) : ∃ A c, v = .slice A n c := by
  rcases h.form with ⟨h1, h2⟩ | ⟨g, c, h1, _⟩
  · subst h2; exact ⟨_, _, h1⟩
  · exact ⟨_, _, h1⟩
theorem OF.empty (w : World) (g : Nat) (hg : g = w.heap.size) {B : Nat} (hB : B ≤ w.heap.size) : OF (w.alloc (.cells #[] 84)) B (.slice (some ⟨g, 0, none⟩) 0 0) 0 [] := by
  subst hg
  exact World.ownsRow_made (base := B) (e := 84) (size := 2) w #[] 0 hB (by unfold maxLen; omega) rfl
theorem OF.ne_low {w : World} {B n b : Nat} {v : Value} {xs : List Int} (h : OF w B v n xs) (hb : b < B) : some b ≠ v.ownBlock := fun e => by
  have := (h.own b e.symm).1; omega
theorem OF.below_grown {w w' : World} {B n : Nat} {v : Value} {xs : List Int} (h : OF w B v n xs) (hg : w.grownBy w' v.ownBlock) (hB : B ≤ w.heap.size) : Below B w w' :=
  only_below hg hB fun g e => (h.own g e).1
/-- The call returned n ratios of its own and the flag. -/
def QBR (n : Nat) (xs : List Int) (b : Bool) (w : World) (e : Ending) (w' : World) : Prop := ∃ A m cap, e = .returned (.tuple #[.slice A m cap, .bool b]) ∧ OF w' w.heap.size (.slice A m cap) n xs ∧ Below w.heap.size w w'
end Go.Proofs.Ytlggfmfelakadaa

/-
  DERIVED. append of a ratio, in a region that keeps its order.
-/
namespace Go.Proofs.Ytlggfmfelakadaa
open Go.RowKit
set_option linter.unusedVariables false
set_option linter.unusedSimpArgs false
theorem wpList_append_ratio (w : World) {ops : Array Oper} {rest : List Oper} {o : Oper} {a : Act} {Q : Exit → Act → World → Prop} (hgd : o.guard = none) (s z : Operand)
    (ho : o.op = .call { callee := .builtin .append, args := #[s, z], argTypes := #[46, 46] })
    (B : Nat) (v : Value) (n : Nat) (xs : List Int) (hs : a.eval s = v) (hown : OF w B v n xs) (g : Nat) (x y : Int) (hz : a.eval z = .slice (some ⟨g, 0, none⟩) 1 1) (c0 : w.cell? ⟨g, 0, none⟩ = some (.int .i64 x)) (c1 : w.cell? ⟨g, 1, none⟩ = some (.int .i64 y)) (h63 : n ≤ 1000000000) (hbase : B ≤ w.heap.size)
    (h : ∀ v' w', OF w' B v' (n + 1) (xs ++ [x, y]) → w.grownBy w' v.ownBlock → (v'.ownBlock = v.ownBlock ∨ v'.ownBlock = some w.heap.size) → wpList Try.prog ops Q rest (a.put o.dst v') w') : wpList Try.prog ops Q (o :: rest) a w :=
  wpList_plain hgd fun _ hK => by
    obtain ⟨v', w', hrun, h2, h3, h4⟩ := run_append_ratio w B o.type v n xs hown g x y c0 c1 h63 hbase
    unfold Oper.wp execOp
    simp only [ho, resolve, invoke, builtin, Sem.run_bind, Sem.run_pure, Result.andThen_ok, List.map_toArray, List.map_cons, List.map_nil, hs, hz, hrun]
    exact hK _ _ (h v' w' h2 h3 h4)
end Go.Proofs.Ytlggfmfelakadaa

/-
  DERIVED. Words for the laws: converting, comparing, marking and holding slices of ratios.
-/
namespace Go.Proofs.Ytlggfmfelakadaa
open Go.RowKit
set_option linter.unusedVariables false
theorem eqOwnQ {A A' : Option Addr} {m m' n n' ca ca' : Nat} {xs : List Int} {w : World} {B B' : Nat} (h : OF w B (.slice A m ca) n xs) (h' : OF w B' (.slice A' m' ca') n' xs) (hn : m ≤ 1048576) :
    Calls Try.prog 29 #[.slice A m ca, .slice A' m' ca'] w (BV (.bool true) w) := by
  have h1 := h.lenEq
  have h2 := h'.lenEq
  have h3 := h.len
  have h4 := h'.len
  obtain rfl : m = m' := by omega
  exact laws_eqRatioS A A' _ ca ca' xs w h.reads h'.reads (Nat.le_refl _) (Nat.le_refl _) hn
theorem markOwnQ {A : Option Addr} {n ca : Nat} {xs : List Int} {k : Int} {w : World} {B : Nat} (h : OF w B (.slice A n ca) n xs) (hn2 : n ≤ 1048576) (hk0 : 0 ≤ k) (hk1 : k ≤ 1000000000000) :
    Calls Try.prog 34 #[.slice A n ca, .int .i64 k] w (WF (k + (n * 2 : Nat)) (.slice A n ca) B n (iota k (n * 2)) w) :=
  laws_markRatioS A n ca xs k w B h hn2 hk0 hk1
theorem heldOwnQ {A : Option Addr} {n ca : Nat} {k : Int} {w : World} {B : Nat} (h : OF w B (.slice A n ca) n (iota k (n * 2))) (hn2 : n ≤ 1048576) (hk0 : 0 ≤ k) (hk1 : k ≤ 1000000000000) :
    Calls Try.prog 35 #[.slice A n ca, .int .i64 k] w (EV (.int .i64 (k + (n * 2 : Nat))) w) :=
  laws_heldRatioS A n ca k w _ h.reads hn2 hk0 hk1
end Go.Proofs.Ytlggfmfelakadaa

/-
  DERIVED. The inverse over residues: the wide matrix, the part at the right. No program in sight.
-/
namespace Go.Proofs.Ytlggfmfelakadaa
set_option linter.unusedVariables false
/-- f and, at its right, ones in the diagonal. -/
def wideF (n : Nat) (f : Nat → Nat → Int) : Nat → Nat → Int := fun i c => if c < n then f i c else if c = n + i then 1 else 0
/-- The first m rows of it, zeros below. -/
def wK (n : Nat) (f : Nat → Nat → Int) (m : Nat) : Nat → Nat → Int := fun i c => if i < m then wideF n f i c else 0
/-- Row m, too, up to cell k of f. -/
def wR (n : Nat) (f : Nat → Nat → Int) (m k : Nat) : Nat → Nat → Int := fun i c => if i < m then wideF n f i c else if i = m ∧ c < k then f i c else 0
theorem wK_zero (n : Nat) (f : Nat → Nat → Int) : wK n f 0 = fun _ _ => 0 := by funext i c; simp [wK]
theorem wK_end {R C : Nat} (n : Nat) (f : Nat → Nat → Int) : tb R C (wK n f R) = tb R C (wideF n f) := tb_ext fun i c hi hc => by unfold wK; rw [if_pos hi]
theorem wR_zero (n : Nat) (f : Nat → Nat → Int) (m : Nat) : wR n f m 0 = wK n f m := by funext i c; unfold wR wK; grind
theorem wR_step {n : Nat} {f : Nat → Nat → Int} {m k : Nat} : upd (wR n f m k) m k (f m k) = wR n f m (k + 1) := by funext i c; unfold upd wR; grind
theorem wR_end {n : Nat} {f : Nat → Nat → Int} {m : Nat} : upd (wR n f m n) m (n + m) 1 = wK n f (m + 1) := by funext i c; unfold upd wR wK wideF; grind
theorem wR_row {n D m : Nat} {f : Nat → Nat → Int} (hm : m < n) (hD : n ≤ D) : splL (tb n D (wK n f m)) (m * D) (rowL (tb n n f) n m) = tb n D (wR n f m n) := by
  have hl : m * n + n ≤ n * n := by
    have h3 := Nat.mul_le_mul_right n (show m + 1 ≤ n by omega); rw [Nat.add_mul, Nat.one_mul] at h3; exact h3
  have hlen : (rowL (tb n n f) n m).length = n := rowL_len (by rw [tb_len]; exact hl)
  have := spl_tbo (R := n) (C := D) (i := m) (o := 0) (f := wK n f m) (ys := rowL (tb n n f) n m) hm (by omega)
  rw [Nat.add_zero] at this
  rw [this]
  apply tb_ext
  intro i c hi hc
  unfold setW wR
  by_cases h : i = m ∧ c < n
  · obtain ⟨rfl, h2⟩ := h
    rw [if_pos (by omega), if_neg (by omega), if_pos ⟨rfl, h2⟩, Nat.sub_zero, rowL_getD h2, cel_tb hi h2]
  · rw [if_neg (by omega)]
    unfold wK
    grind
/-- The first m rows of g, from column n on; zeros below. -/
def oK (n : Nat) (g : Nat → Nat → Int) (m : Nat) : Nat → Nat → Int := fun i c => if i < m then g i (n + c) else 0
def oR (n : Nat) (g : Nat → Nat → Int) (m k : Nat) : Nat → Nat → Int := fun i c => if i < m ∨ i = m ∧ c < k then g i (n + c) else 0
theorem oK_zero (n : Nat) (g : Nat → Nat → Int) : oK n g 0 = fun _ _ => 0 := by funext i c; simp [oK]
theorem oK_end {R C : Nat} (n : Nat) (g : Nat → Nat → Int) : tb R C (oK n g R) = tb R C (fun i c => g i (n + c)) := tb_ext fun i c hi hc => by unfold oK; rw [if_pos hi]
theorem oR_zero (n : Nat) (g : Nat → Nat → Int) (m : Nat) : oR n g m 0 = oK n g m := by funext i c; unfold oR oK; grind
theorem oR_step {n : Nat} {g : Nat → Nat → Int} {m k : Nat} : upd (oR n g m k) m k (g m (n + k)) = oR n g m (k + 1) := by funext i c; unfold upd oR; grind
theorem oR_end {R n : Nat} {g : Nat → Nat → Int} {m : Nat} : tb R n (oR n g m n) = tb R n (oK n g (m + 1)) := tb_ext fun i c hi hc => by unfold oR oK; grind
theorem oK_row {n D m : Nat} {g : Nat → Nat → Int} (hm : m < n) (hD : n + n ≤ D) : splL (tb n n (oK n g m)) (m * n) (winL (tb n D g) (m * D + n) n) = tb n n (oK n g (m + 1)) := by
  have hl : m * D + D ≤ n * D := by
    have h3 := Nat.mul_le_mul_right D (show m + 1 ≤ n by omega); rw [Nat.add_mul, Nat.one_mul] at h3; exact h3
  have hlen : (winL (tb n D g) (m * D + n) n).length = n := winL_len (by rw [tb_len]; omega)
  rw [spl_tb hm hlen]
  apply tb_ext
  intro i c hi hc
  unfold setR oK
  by_cases h : i = m
  · subst h
    rw [if_pos rfl, if_pos (by omega), winL_getD hc, Nat.add_assoc, tb_at hi (by omega)]
  · rw [if_neg h]
    grind
/-- Whether there is something to invert. -/
def imOk (r c : Int) (xs : List Int) (p : Int) : Bool := redB r c xs p && decide (r = c) && decide (r ≤ 12)
def imS (r c : Int) (xs : List Int) (p : Int) : ESt := runE r.toNat r.toNat p (wideF r.toNat (rmF c xs p))
def imB (r c : Int) (xs : List Int) (p : Int) : Bool := imOk r c xs p && decide (r ≤ (imS r c xs p).t)
def imM (r c : Int) (xs : List Int) (p : Int) : Mx := if imB r c xs p then ⟨r, r, tb r.toNat r.toNat (fun i j => (imS r c xs p).f i (r.toNat + j))⟩ else .none
theorem im_cases (r c : Int) (xs : List Int) (p : Int) : (redB r c xs p = false ∧ imB r c xs p = false) ∨ (redB r c xs p = true ∧ (r != c) = true ∧ imB r c xs p = false) ∨ (redB r c xs p = true ∧ r = c ∧ 12 < r ∧ imB r c xs p = false) ∨
    (redB r c xs p = true ∧ r = c ∧ r ≤ 12 ∧ imB r c xs p = decide (r ≤ (imS r c xs p).t)) := by
  unfold imB imOk
  rcases redB r c xs p with _ | _
  · left; simp
  · right
    by_cases h : r = c
    · right
      by_cases h2 : r ≤ 12
      · right; exact ⟨rfl, h, h2, by simp [h, show c ≤ 12 by omega]⟩
      · left; exact ⟨rfl, h, by omega, by simp [h, show ¬ c ≤ 12 by omega]⟩
    · left; simp [h]
theorem imM_no {r c : Int} {xs : List Int} {p : Int} (h : imB r c xs p = false) : imM r c xs p = .none := by unfold imM; rw [h]; rfl
theorem imM_yes {r c : Int} {xs : List Int} {p : Int} (h : imB r c xs p = true) : imM r c xs p = ⟨r, r, tb r.toNat r.toNat (fun i j => (imS r c xs p).f i (r.toNat + j))⟩ := by unfold imM; rw [h]; rfl
theorem imM_len (r c : Int) (xs : List Int) (p : Int) : (imM r c xs p).xs.length ≤ 1048576 := by
  rcases im_cases r c xs p with ⟨_, hi⟩ | ⟨_, _, hi⟩ | ⟨_, _, _, hi⟩ | ⟨hb, _, h12, hi⟩
  iterate 3
    · rw [imM_no hi]; exact Nat.zero_le _
  · rcases hv : imB r c xs p with _ | _
    · rw [imM_no hv]; exact Nat.zero_le _
    · rw [imM_yes hv]
      have h1 := (redOk hb).m.r0
      obtain ⟨R, rfl⟩ := nat_of h1
      have : R * R ≤ 12 * 12 := Nat.mul_le_mul (by omega) (by omega)
      simp only [Int.toNat_natCast, tb_len]
      omega
theorem wideF_bd {n : Nat} {f : Nat → Nat → Int} {p : Int} (hp : 2 ≤ p) (hf : ∀ i c : Nat, 0 ≤ f i c ∧ f i c < p) (i c : Nat) : 0 ≤ wideF n f i c ∧ wideF n f i c < p := by
  unfold wideF
  split
  · exact hf i c
  · split <;> omega
end Go.Proofs.Ytlggfmfelakadaa

/-
  DERIVED. A matrix times a list, over residues. No program in sight.
-/
namespace Go.Proofs.Ytlggfmfelakadaa
set_option linter.unusedVariables false
/-- The sum of the first k products, as a residue. -/
def smS (f : Nat → Nat → Int) (bs : List Int) (p : Int) (i : Nat) : Nat → Int
  | 0 => 0
  | k + 1 => (smS f bs p i k + f i k * (bs.getD k 0 % p)) % p
theorem smS_bd {f : Nat → Nat → Int} {bs : List Int} {p : Int} (hp : 2 ≤ p) (i : Nat) : ∀ k, 0 ≤ smS f bs p i k ∧ smS f bs p i k < p
  | 0 => by unfold smS; omega
  | k + 1 => by unfold smS; exact emod_bds _ _ (by omega)
def smL (R L : Nat) (f : Nat → Nat → Int) (bs : List Int) (p : Int) : List Int := tab R fun i => smS f bs p i L
theorem smL_len (R L : Nat) (f : Nat → Nat → Int) (bs : List Int) (p : Int) : (smL R L f bs p).length = R := tab_len _ _
def smB (r c : Int) (xs bs : List Int) (p : Int) : Bool := imB r c xs p && decide ((bs.length : Int) = r) && bs.all isNum
def smV (r c : Int) (xs bs : List Int) (p : Int) : List Int := if smB r c xs bs p then smL r.toNat r.toNat (fun i j => (imS r c xs p).f i (r.toNat + j)) bs p else []
theorem sm_cases (r c : Int) (xs bs : List Int) (p : Int) : (imB r c xs p = false ∧ smB r c xs bs p = false) ∨ (imB r c xs p = true ∧ ((bs.length : Int) != r) = true ∧ smB r c xs bs p = false) ∨
    (imB r c xs p = true ∧ ((bs.length : Int) != r) = false ∧ bs.all isNum = false ∧ smB r c xs bs p = false) ∨ (imB r c xs p = true ∧ ((bs.length : Int) != r) = false ∧ bs.all isNum = true ∧ smB r c xs bs p = true) := by
  unfold smB
  rcases imB r c xs p with _ | _
  · left; simp
  · right
    by_cases h : (bs.length : Int) = r
    · right
      rcases hb : bs.all isNum with _ | _
      · left; simp [h]
      · right; simp [h]
    · left; simp [h]
theorem smV_no {r c : Int} {xs bs : List Int} {p : Int} (h : smB r c xs bs p = false) : smV r c xs bs p = [] := by unfold smV; rw [h]; rfl
theorem smV_yes {r c : Int} {xs bs : List Int} {p : Int} (h : smB r c xs bs p = true) : smV r c xs bs p = smL r.toNat r.toNat (fun i j => (imS r c xs p).f i (r.toNat + j)) bs p := by unfold smV; rw [h]; rfl
/-- What holds where there is an inverse. -/
structure ImOk (r c : Int) (xs : List Int) (p : Int) : Prop where
  r0 : 0 ≤ r
  r1 : r ≤ 12
  p1 : 2 ≤ p
  p2 : p ≤ 10000
  f0 : ∀ i j : Nat, 0 ≤ (imS r c xs p).f i j ∧ (imS r c xs p).f i j < p
theorem imOk_of {r c : Int} {xs : List Int} {p : Int} (h : imB r c xs p = true) : ImOk r c xs p := by
  rcases im_cases r c xs p with ⟨_, hi⟩ | ⟨_, _, hi⟩ | ⟨_, _, _, hi⟩ | ⟨hb, hrc, h12, hi⟩
  iterate 3
    · rw [hi] at h; cases h
  · have K := redOk hb
    have h0 := K.m.r0
    refine ⟨K.m.r0, h12, K.pb.1, K.pb.2, ?_⟩
    have := colsE_ok (R := r.toNat) K.pb.1 r.toNat 0 ⟨wideF r.toNat (rmF c xs p), 0, 1⟩ ⟨wideF_bd K.pb.1 K.f0, Nat.zero_le _, by show (0 : Int) ≤ 1 ∧ (1 : Int) < p; have := K.pb.1; omega⟩
    exact this.f0
theorem smV_len (r c : Int) (xs bs : List Int) (p : Int) : (smV r c xs bs p).length ≤ 1048576 := by
  rcases hb : smB r c xs bs p with _ | _
  · rw [smV_no hb]; exact Nat.zero_le _
  · rw [smV_yes hb, smL_len]
    have h1 : imB r c xs p = true := by
      unfold smB at hb
      rcases h : imB r c xs p with _ | _
      · rw [h] at hb; simp at hb
      · rfl
    have K := imOk_of h1
    have h2 := K.r1
    omega
end Go.Proofs.Ytlggfmfelakadaa

/-
  DERIVED. Solutions by lifting: what both programs compute. No program in sight.
-/
namespace Go.Proofs.Ytlggfmfelakadaa
set_option linter.unusedVariables false
/-- Whether one more round is done. -/
def liC (p : Int) (k : Nat) : Bool := decide (p ^ k ≤ 200000000) && decide (p ^ k ≤ 400000000 / p)
def liG (p : Int) : Nat → Nat → Nat
  | 0, k => k
  | m + 1, k => if liC p k then liG p m (k + 1) else k
def liK (p : Int) : Nat := liG p 6 0
theorem liG_go {p : Int} {m k : Nat} (h : liC p k = true) : liG p (m + 1) k = liG p m (k + 1) := by
  show (if _ then _ else _) = _
  rw [if_pos h]
theorem liG_stop {p : Int} {m k : Nat} (h : liC p k = false) : liG p m k = k := by
  cases m with
  | zero => rfl
  | succ m => show (if _ then _ else _) = _; rw [if_neg (by rw [h]; exact Bool.false_ne_true)]
theorem pow_one_le {p : Int} (hp : 1 ≤ p) : ∀ k : Nat, 1 ≤ p ^ k
  | 0 => by rw [Int.pow_zero]; omega
  | k + 1 => by
    rw [Int.pow_succ]
    have h1 := pow_one_le hp k
    have := Int.mul_le_mul h1 hp (by omega) (by omega)
    omega
theorem liC_iff {p : Int} {k : Nat} (hp : 1 ≤ p) : liC p k = true ↔ p ^ k ≤ 200000000 ∧ p ^ (k + 1) ≤ 400000000 := by
  unfold liC
  rw [Bool.and_eq_true, decide_eq_true_eq, decide_eq_true_eq, Int.le_ediv_iff_mul_le (by omega), Int.pow_succ]
theorem liC_small {p : Int} {k : Nat} (hp : 101 ≤ p) (h : liC p k = true) : k ≤ 3 := by
  refine Nat.le_of_not_lt fun hk => ?_
  have h2 := ((liC_iff (by omega)).1 h).2
  obtain ⟨d, hd⟩ : ∃ d, k + 1 = 5 + d := ⟨k - 4, by omega⟩
  rw [hd, Int.pow_add] at h2
  have h3 := pow_one_le (p := p) (by omega) d
  have a1 : (101 : Int) * 101 ≤ p * p := Int.mul_le_mul hp hp (by omega) (by omega)
  have a2 : (101 : Int) * 101 * 101 ≤ p * p * p := Int.mul_le_mul a1 hp (by omega) (by omega)
  have a3 : (101 : Int) * 101 * 101 * 101 ≤ p * p * p * p := Int.mul_le_mul a2 hp (by omega) (by omega)
  have a4 : (101 : Int) * 101 * 101 * 101 * 101 ≤ p * p * p * p * p := Int.mul_le_mul a3 hp (by omega) (by omega)
  have e : p ^ 5 = p * p * p * p * p := by
    rw [show (5 : Nat) = 0 + 1 + 1 + 1 + 1 + 1 from rfl]
    simp only [Int.pow_succ, Int.pow_zero, Int.one_mul]
  rw [e] at h2
  have a5 := Int.mul_le_mul a4 h3 (by omega) (by omega)
  omega
/-- The remainders behind a round. -/
def liR (n : Nat) (f : Fn2) (rs ds : List Int) (p : Int) : List Int := tab n fun i => (rs.getD i 0 - sumTo (fun k => f i k * ds.getD k 0) n).tdiv p
/-- The numbers behind a round. -/
def liX (n : Nat) (xs ds : List Int) (pw : Int) : List Int := tab n fun i => xs.getD i 0 + ds.getD i 0 * pw
/-- Remainders and numbers behind k rounds. -/
def liS (n : Nat) (f g : Fn2) (p : Int) (bs : List Int) : Nat → List Int × List Int
  | 0 => (bs, List.replicate n 0)
  | k + 1 => (liR n f (liS n f g p bs k).1 (smL n n g (liS n f g p bs k).1 p) p, liX n (liS n f g p bs k).2 (smL n n g (liS n f g p bs k).1 p) (p ^ k))
theorem liR_len (n : Nat) (f : Fn2) (rs ds : List Int) (p : Int) : (liR n f rs ds p).length = n := tab_len _ _
theorem liX_len (n : Nat) (xs ds : List Int) (pw : Int) : (liX n xs ds pw).length = n := tab_len _ _
theorem liS_len {n : Nat} {f g : Fn2} {p : Int} {bs : List Int} (hb : bs.length = n) : ∀ k, (liS n f g p bs k).1.length = n ∧ (liS n f g p bs k).2.length = n
  | 0 => ⟨hb, by simp [liS]⟩
  | k + 1 => ⟨liR_len _ _ _ _ _, liX_len _ _ _ _⟩
theorem getD_tab_bd {n : Nat} {f : Nat → Int} {P : Int → Prop} (h0 : P 0) (h : ∀ k, k < n → P (f k)) (k : Nat) : P ((tab n f).getD k 0) := by
  by_cases hk : k < n
  · rw [tab_getD hk]; exact h k hk
  · have e : (tab n f).getD k 0 = 0 := by simp only [List.getD, List.getElem?_eq_none (show (tab n f).length ≤ k by rw [tab_len]; omega)]; rfl
    rw [e]; exact h0
theorem smL_bd {n L : Nat} {g : Fn2} {bs : List Int} {p : Int} (hp : 2 ≤ p) (k : Nat) : 0 ≤ (smL n L g bs p).getD k 0 ∧ (smL n L g bs p).getD k 0 < p :=
  getD_tab_bd (P := fun x => 0 ≤ x ∧ x < p) (by omega) (fun k _ => smS_bd hp k L) k
/-- A row of the matrix times digits, as far as number j. -/
theorem liD_bd {n : Nat} {f : Fn2} {ds : List Int} {i : Nat} (hn : n ≤ 6) (hf : OKF n n f) (hi : i < n) (hd : ∀ k, 0 ≤ ds.getD k 0 ∧ ds.getD k 0 < 200) {j : Nat} (hj : j ≤ n) : -480000000000 ≤ sumTo (fun k => f i k * ds.getD k 0) j ∧ sumTo (fun k => f i k * ds.getD k 0) j ≤ 480000000000 := by
  have := sumTo_bd (f := fun k => f i k * ds.getD k 0) (b := 80000000000) (by omega) j fun k hk => by
    obtain ⟨a1, a2⟩ := hf i k hi (by omega)
    obtain ⟨b1, b2⟩ := hd k
    have h1 : (f i k * ds.getD k 0).natAbs ≤ 400000000 * 200 := by
      rw [Int.natAbs_mul]
      exact Nat.mul_le_mul (by omega) (by omega)
    omega
  have hj6 : (j : Int) ≤ 6 := by omega
  omega
theorem liR_bd {n : Nat} {f : Fn2} {rs ds : List Int} {p : Int} (hp : 101 ≤ p) (hn : n ≤ 6) (hf : OKF n n f) (hd : ∀ k, 0 ≤ ds.getD k 0 ∧ ds.getD k 0 < 200) (hr : ∀ k, -500000000000 ≤ rs.getD k 0 ∧ rs.getD k 0 ≤ 500000000000) (k : Nat) : -500000000000 ≤ (liR n f rs ds p).getD k 0 ∧ (liR n f rs ds p).getD k 0 ≤ 500000000000 := by
  refine getD_tab_bd (P := fun x => -500000000000 ≤ x ∧ x ≤ 500000000000) (by omega) (fun i hi => ?_) k
  have h1 := liD_bd hn hf hi hd (Nat.le_refl n)
  have h2 := hr i
  generalize sumTo (fun k => f i k * ds.getD k 0) n = s at *
  generalize rs.getD i 0 = r at *
  have h3 : ((r - s).tdiv p).natAbs ≤ (r - s).natAbs / 101 := by
    rw [Int.natAbs_tdiv]
    exact Nat.div_le_div_left (by omega) (by omega)
  omega
theorem liX_bd {n : Nat} {xs ds : List Int} {p : Int} {k : Nat} (hp : 1 ≤ p) (hd : ∀ k, 0 ≤ ds.getD k 0 ∧ ds.getD k 0 < p) (hx : ∀ i, 0 ≤ xs.getD i 0 ∧ xs.getD i 0 < p ^ k) (i : Nat) : 0 ≤ (liX n xs ds (p ^ k)).getD i 0 ∧ (liX n xs ds (p ^ k)).getD i 0 < p ^ (k + 1) := by
  have h1 := pow_one_le hp k
  have h2 := pow_one_le hp (k + 1)
  refine getD_tab_bd (P := fun x => 0 ≤ x ∧ x < p ^ (k + 1)) (by omega) (fun i hi => ?_) i
  obtain ⟨a1, a2⟩ := hx i
  obtain ⟨b1, b2⟩ := hd i
  rw [Int.pow_succ]
  generalize p ^ k = q at *
  generalize xs.getD i 0 = x at *
  generalize ds.getD i 0 = d at *
  have h3 : 0 ≤ d * q := Int.mul_nonneg b1 (by omega)
  have h4 : d * q ≤ (p - 1) * q := Int.mul_le_mul_of_nonneg_right (by omega) (by omega)
  have h5 : (p - 1) * q = q * p - q := by grind
  omega
theorem liS_bd {n : Nat} {f g : Fn2} {p : Int} {bs : List Int} (hp : 101 ≤ p) (hp2 : p < 200) (hn : n ≤ 6) (hf : OKF n n f) (hb : ∀ k, Num (bs.getD k 0)) : ∀ k, (∀ i, -500000000000 ≤ (liS n f g p bs k).1.getD i 0 ∧ (liS n f g p bs k).1.getD i 0 ≤ 500000000000) ∧ ∀ i, 0 ≤ (liS n f g p bs k).2.getD i 0 ∧ (liS n f g p bs k).2.getD i 0 < p ^ k
  | 0 => by
    refine ⟨fun i => ?_, fun i => ?_⟩
    · obtain ⟨a, b⟩ := hb i
      show _ ≤ bs.getD i 0 ∧ bs.getD i 0 ≤ _
      omega
    · show 0 ≤ (List.replicate n (0 : Int)).getD i 0 ∧ (List.replicate n (0 : Int)).getD i 0 < p ^ 0
      have e : (List.replicate n (0 : Int)).getD i 0 = 0 := by
        simp only [List.getD, List.getElem?_replicate]
        split <;> rfl
      rw [e, Int.pow_zero]; omega
  | k + 1 => by
    obtain ⟨h1, h2⟩ := liS_bd hp hp2 hn hf hb k
    have hd := fun i => smL_bd (n := n) (L := n) (g := g) (bs := (liS n f g p bs k).1) (p := p) (by omega) i
    exact ⟨fun i => liR_bd hp hn hf (fun k => by have := hd k; omega) h1 i, fun i => liX_bd (by omega) hd h2 i⟩
/-- New as far as number i, old from there on. -/
def mxT (n : Nat) (new old : List Int) (i : Nat) : List Int := tab n fun j => if j < i then new.getD j 0 else old.getD j 0
theorem mxT_len (n : Nat) (new old : List Int) (i : Nat) : (mxT n new old i).length = n := tab_len _ _
theorem tab_all {n : Nat} {xs : List Int} (h : xs.length = n) : tab n (fun j => xs.getD j 0) = xs := by
  apply List.ext_getElem?
  intro i
  by_cases hi : i < n
  · simp [tab, List.getD, hi, show i < xs.length by omega]
  · rw [List.getElem?_eq_none (by rw [tab_len]; omega), List.getElem?_eq_none (by omega)]
theorem tab_same {n : Nat} {f g : Nat → Int} (h : ∀ k, k < n → f k = g k) : tab n f = tab n g := List.map_congr_left fun k hk => h k (List.mem_range.1 hk)
theorem mxT_zero {n : Nat} {new old : List Int} (h : old.length = n) : mxT n new old 0 = old :=
  (tab_same fun j _ => if_neg (Nat.not_lt_zero _)).trans (tab_all h)
theorem mxT_end {n : Nat} {new old : List Int} (h : new.length = n) : mxT n new old n = new :=
  (tab_same fun j hj => if_pos hj).trans (tab_all h)
theorem mxT_at {n : Nat} {new old : List Int} {i : Nat} (h : i < n) : (mxT n new old i).getD i 0 = old.getD i 0 := by
  unfold mxT; rw [tab_getD h, if_neg (Nat.lt_irrefl _)]
theorem tab_set {n i : Nat} {f g : Nat → Int} {v : Int} (hv : g i = v) (h : ∀ j, j < n → j ≠ i → g j = f j) : (tab n f).set i v = tab n g := by
  apply List.ext_getElem?
  intro j
  by_cases hj : j < n
  · by_cases hji : j = i
    · subst hji
      simp [tab, hj, hv]
    · rw [List.getElem?_set_ne (Ne.symm hji)]
      simp [tab, hj, h j hj hji]
  · rw [List.getElem?_eq_none (by rw [List.length_set, tab_len]; omega), List.getElem?_eq_none (by rw [tab_len]; omega)]
theorem mxT_set {n : Nat} {new old : List Int} {i : Nat} {v : Int} (hv : new.getD i 0 = v) : (mxT n new old i).set i v = mxT n new old (i + 1) := by
  unfold mxT
  refine tab_set (by rw [if_pos (Nat.lt_succ_self i)]; exact hv) fun j hj hne => ?_
  by_cases h : j < i
  · rw [if_pos h, if_pos (by omega)]
  · rw [if_neg h, if_neg (by omega)]
/-- The greatest bound that a modulus allows. -/
def liBd (pw : Int) : Nat → Nat
  | 0 => 0
  | b + 1 => if pw ≤ 2 * ((b + 1 : Nat) : Int) * ((b + 1 : Nat) : Int) then liBd pw b else b + 1
theorem liBd_le (pw : Int) : ∀ b, liBd pw b ≤ b
  | 0 => Nat.le_refl _
  | b + 1 => by
    show (if _ then _ else _) ≤ _
    split
    · have := liBd_le pw b; omega
    · exact Nat.le_refl _
theorem liBd_go {pw : Int} {b : Nat} (h : pw ≤ 2 * (b : Int) * (b : Int)) (h1 : 1 ≤ pw) : 1 ≤ b ∧ liBd pw b = liBd pw (b - 1) := by
  cases b with
  | zero => simp at h; omega
  | succ b =>
    refine ⟨by omega, ?_⟩
    show (if _ then _ else _) = _
    rw [if_pos h]; rfl
theorem liBd_stop {pw : Int} {b : Nat} (h : ¬ pw ≤ 2 * (b : Int) * (b : Int)) : liBd pw b = b := by
  cases b with
  | zero => rfl
  | succ b => show (if _ then _ else _) = _; rw [if_neg h]
/-- The first j ratios. -/
def liO (pw b : Int) (xs : List Int) : Nat → Option (List Int)
  | 0 => some []
  | j + 1 => (liO pw b xs j).bind fun qs => (rfRes (xs.getD j 0) pw b).bind fun q => some (qs ++ [q.1, q.2])
theorem liO_yes {pw b : Int} {xs qs : List Int} {j : Nat} {n d : Int} (h : liO pw b xs j = some qs) (hr : rfRes (xs.getD j 0) pw b = some (n, d)) : liO pw b xs (j + 1) = some (qs ++ [n, d]) := by
  show (liO pw b xs j).bind _ = _
  rw [h, Option.bind_some, hr]; rfl
theorem liO_no {pw b : Int} {xs qs : List Int} {j : Nat} (h : liO pw b xs j = some qs) (hr : rfRes (xs.getD j 0) pw b = none) : liO pw b xs (j + 1) = none := by
  show (liO pw b xs j).bind _ = _
  rw [h, Option.bind_some, hr]; rfl
theorem liO_none {pw b : Int} {xs : List Int} {j : Nat} (h : liO pw b xs j = none) : ∀ m, j ≤ m → liO pw b xs m = none := by
  intro m
  induction m with
  | zero => intro hj; obtain rfl : j = 0 := by omega
            exact h
  | succ m ih =>
    intro hj
    by_cases e : j = m + 1
    · subst e; exact h
    · show (liO pw b xs m).bind _ = _
      rw [ih (by omega)]; rfl
theorem liO_len {pw b : Int} {xs : List Int} : ∀ {j : Nat} {qs : List Int}, liO pw b xs j = some qs → qs.length = j * 2
  | 0, qs, h => by cases h; rfl
  | j + 1, qs, h => by
    rcases h1 : liO pw b xs j with _ | ps
    · rw [liO_none h1 (j + 1) (by omega)] at h; cases h
    · rcases h2 : rfRes (xs.getD j 0) pw b with _ | ⟨n, d⟩
      · rw [liO_no h1 h2] at h; cases h
      · rw [liO_yes h1 h2] at h
        cases h
        rw [List.length_append, liO_len h1]; simp; omega
/-- The first number of m from p on modulo which there is an inverse. -/
def liP (r c : Int) (xs : List Int) : Nat → Int → Option Int
  | 0, p => none
  | m + 1, p => if imB r c xs p then some p else liP r c xs m (p + 1)
theorem liP_yes {r c : Int} {xs : List Int} {m : Nat} {p : Int} (h : imB r c xs p = true) : liP r c xs (m + 1) p = some p := by
  show (if _ then _ else _) = _
  rw [if_pos h]
theorem liP_no {r c : Int} {xs : List Int} {m : Nat} {p : Int} (h : imB r c xs p = false) : liP r c xs (m + 1) p = liP r c xs m (p + 1) := by
  show (if _ then _ else _) = _
  rw [if_neg (by rw [h]; exact Bool.false_ne_true)]
/-- The ratios, if they solve. -/
def lsQ (r c : Int) (xs bs : List Int) (p : Int) : Option (List Int) :=
  (liO (p ^ liK p) (liBd (p ^ liK p) 10000) (liS r.toNat (fun i j => cel xs r.toNat i j) (fun i j => (imS r c xs p).f i (r.toNat + j)) p bs (liK p)).2 r.toNat).bind fun qs => if irB r c xs bs qs then some qs else none
def lsX (r c : Int) (xs bs : List Int) : Option (List Int) := if sysB r c xs bs then (liP r c xs 99 101).bind (lsQ r c xs bs) else none
def lsN (r : Int) (o : Option (List Int)) : Nat := if o.isSome then r.toNat else 0
theorem lsX_no {r c : Int} {xs bs : List Int} (h : sysB r c xs bs = false) : lsX r c xs bs = none := by
  unfold lsX; rw [if_neg (by rw [h]; exact Bool.false_ne_true)]
theorem lsX_none {r c : Int} {xs bs : List Int} (h : sysB r c xs bs = true) (hp : liP r c xs 99 101 = none) : lsX r c xs bs = none := by
  unfold lsX; rw [if_pos h, hp]; rfl
theorem lsX_some {r c : Int} {xs bs : List Int} {p : Int} (h : sysB r c xs bs = true) (hp : liP r c xs 99 101 = some p) : lsX r c xs bs = lsQ r c xs bs p := by
  unfold lsX; rw [if_pos h, hp]; rfl
theorem liP_some {r c : Int} {xs : List Int} {p : Int} : ∀ (m : Nat) (q : Int), liP r c xs m q = some p → imB r c xs p = true ∧ q ≤ p ∧ p < q + m
  | 0, q, h => by cases h
  | m + 1, q, h => by
    rcases hb : imB r c xs q with _ | _
    · rw [liP_no hb] at h
      obtain ⟨h1, h2, h3⟩ := liP_some m (q + 1) h
      exact ⟨h1, by omega, by omega⟩
    · rw [liP_yes hb] at h
      cases h
      exact ⟨hb, Int.le_refl _, by omega⟩
theorem im_200 (r c : Int) (xs : List Int) : imB r c xs 200 = false := by
  rcases h : imB r c xs 200 with _ | _
  · rfl
  · unfold imB imOk at h
    rw [Bool.and_eq_true, Bool.and_eq_true, Bool.and_eq_true] at h
    have K := redOk h.1.1.1
    have := K.pr
    exact absurd this (by decide)
theorem lsQ_len {r c : Int} {xs bs qs : List Int} {p : Int} (h : lsQ r c xs bs p = some qs) : qs.length = r.toNat * 2 := by
  unfold lsQ at h
  rcases ho : liO (p ^ liK p) (liBd (p ^ liK p) 10000) (liS r.toNat (fun i j => cel xs r.toNat i j) (fun i j => (imS r c xs p).f i (r.toNat + j)) p bs (liK p)).2 r.toNat with _ | q
  · rw [ho] at h; cases h
  · rw [ho, Option.bind_some] at h
    split at h
    · cases h; exact liO_len ho
    · cases h
theorem lsX_len {r c : Int} {xs bs : List Int} : ((lsX r c xs bs).getD []).length = lsN r (lsX r c xs bs) * 2 := by
  unfold lsN
  rcases hs : sysB r c xs bs with _ | _
  · rw [lsX_no hs]; rfl
  · rcases hp : liP r c xs 99 101 with _ | p
    · rw [lsX_none hs hp]; rfl
    · rw [lsX_some hs hp]
      rcases hq : lsQ r c xs bs p with _ | qs
      · rfl
      · simpa using lsQ_len hq
end Go.Proofs.Ytlggfmfelakadaa

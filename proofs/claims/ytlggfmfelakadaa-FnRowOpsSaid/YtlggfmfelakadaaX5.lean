/-
  DERIVED. Several small texts in one: Unit, RowB, Uni, EchT, PlEcL, DrL, PlRo, Rop.
-/
import Derived.Test.YtlggfmfelakadaaIdenx
import Derived.Test.YtlggfmfelakadaaX1
import Derived.Test.YtlggfmfelakadaaDrwx
import Derived.Test.YtlggfmfelakadaaDetSx
import Derived.Test.YtlggfmfelakadaaX4
import Derived.Test.YtlggfmfelakadaaElimx
import Derived.Test.YtlggfmfelakadaaX3
import Derived.Test.YtlggfmfelakadaaX2
/-
  DERIVED. The laws' unit: the identity matrix.
-/
namespace Go.Proofs.Ytlggfmfelakadaa
open Go.RowKit
set_option linter.unusedVariables false
set_option linter.unusedSimpArgs false
theorem laws_unit (n : Nat) (w : World) (hn : n ≤ 24) : Calls Try.prog 12 #[.int .i64 n] w (MR ⟨n, n, tb n n idF⟩ w) := by
  go_enter Try.func12, Try.ntmps12
  go_wp2_with fail
  refine (spec_IdentityMatrix n _ hn).mono ?_
  rintro e w1 ⟨A1, n1, c1, rfl, ho, hb1⟩
  have hs1 := hb1.size
  simp at hs1
  have hR : BM w1 w.heap.size 0 0 none 0 0 := Ka
  have hbw : Below w.heap.size w w1 := Kw
  have ho2 : OR w1 (w.heap.size + 1) (.slice A1 n1 c1) (tb n n idF) := OR.mono (xs := tb n n idF) ho (by simp)
  obtain ⟨ra, rb, rc, rf, rl⟩ := hR.mx
  have hvr := B3.of hR
  clear ho hb1
  go_wp2_with fail
  refine ret_M (b := w.heap.size) Try.results12 rfl (Kb hvr) rfl ?_
  exact MR.mk rfl (OR.mono (B := w.heap.size + 1) (Ko ho2) (by omega)) Kw
end Go.Proofs.Ytlggfmfelakadaa

/-
  DERIVED. A slice of bytes that came in, read.
-/
namespace Go.Proofs.Ytlggfmfelakadaa
open Go.ChangeShapes Go.WideShapes Go.ChangeAt Go.RowKit Go.Joins
set_option linter.unusedVariables false
section
variable {H : Type} {enc : TypeId × Value → H} {P : Program}
theorem reads_bytes {w : World} {base : Nat} {spare : Nat → Bool} {held : Bool} {t e : TypeId} {fuel : Nat} {v : Value} {x : DataW H × List MemPlace}
    (ht : P.underlying t = some (.slice e)) (he : P.underlying e = some (.int .u8)) (hc : P.cellsOf e = 1) (h : DataW.trod enc P w base spare held fuel t [v] = some x)
    (hlt : ∀ p ∈ x.2, p.block < w.heap.size) :
    ∃ A n cap xs, v = .slice A n cap ∧ n ≤ cap ∧ cap ≤ maxLen ∧ RB w w.heap.size A n xs := by
  rcases open_ints ht he hc h with ⟨hcs, hx⟩ | ⟨a, len, cap, zs, hcs, hb, hl, hm, hz, hx, hcell, hwf⟩
  · injection hcs with hv
    exact ⟨none, 0, 0, [], hv, Nat.le_refl _, by unfold maxLen; omega, rfl, fun h => absurd h (by omega), fun k => by simp⟩
  · injection hcs with hv
    have hzl : len ≤ zs.length := by rw [hz]; split <;> omega
    refine ⟨some a, len, cap, zs.take len, hv, hl, hm, by simp; omega, fun hn => ?_, fun k => ?_⟩
    · obtain ⟨b, off, rfl, hc'⟩ := ints_at hcell (by omega)
      refine ⟨b, off, rfl, ?_, fun k hk => ?_⟩
      · have h0 : MemPlace.cell b off ∈ x.2 := by
          rw [hx]
          simp only [MemPlace.row, List.mem_map, List.mem_range]
          exact ⟨0, by omega, rfl⟩
        exact hlt _ h0
      · rw [hc' k (by omega)]
        simp [List.getD, hk]
    · by_cases hk : k < (zs.take len).length
      · have h1 : (zs.take len).getD k 0 ∈ zs := by
          have : (zs.take len).getD k 0 = (zs.take len)[k] := by unfold List.getD; rw [List.getElem?_eq_getElem hk]; rfl
          rw [this]
          exact List.mem_of_mem_take (List.getElem_mem hk)
        simpa [Lit.wf, IntKind.min, IntKind.max, IntKind.signed, IntKind.bits] using hwf _ h1
      · have : (zs.take len).getD k 0 = 0 := by simp [List.getD, List.getElem?_eq_none (show (zs.take len).length ≤ k by omega)]
        rw [this]; omega
end
end Go.Proofs.Ytlggfmfelakadaa

/-
  DERIVED. The laws' unimodular, IsUnimodular: where the determinant is 1 or -1.
-/
namespace Go.Proofs.Ytlggfmfelakadaa
open Go.RowKit
set_option linter.unusedVariables false
set_option linter.unusedSimpArgs false
theorem impl_IsUnimodular (r c : Int) (A : Option Addr) (n cap : Nat) (xs : List Int) (w : World) {B : Nat} {d : Int} (h : RI w B A n xs) (hB : B ≤ w.heap.size) (hn : n ≤ 1048576) (hd : dtO r c xs = some d) (h1 : d = 1 ∨ d = -1) :
    Calls Try.prog 58 #[.agg #[.int .i64 r, .int .i64 c, .slice A n cap]] w (BV (.bool true) w) := by
  have H2 := Lib.hid (h.more hB)
  have HD := Lib.hid hd
  clear h hd
  go_enter Try.func58, Try.ntmps58
  go_wp2_with fail
  refine (impl_DeterminantOf r c A n cap xs _ (B := w.heap.size) (Kr H2.out) Ks hn).mono ?_
  rw [HD.out]
  rintro e w1 ⟨rfl, hb1⟩
  rcases h1 with h1 | h1
  all_goals
    subst h1
    go_wp2_with fail
    refine (impl_absInt _ _ (by decide) (by decide)).mono ?_
    rintro e w2 ⟨rfl, rfl⟩
    go_wp2_with fail
    go_ret
    exact BV.mk rfl Kw
theorem laws_unimodular (r c : Int) (A : Option Addr) (n cap : Nat) (xs : List Int) (w : World) {B : Nat} (h : RI w B A n xs) (hB : B ≤ w.heap.size) (hn : n ≤ 1048576) (h1 : ∀ d, dtO r c xs = some d → d = 1 ∨ d = -1) :
    Calls Try.prog 15 #[.agg #[.int .i64 r, .int .i64 c, .slice A n cap]] w (BV (.bool true) w) := by
  have H2 := Lib.hid (h.more hB)
  clear h
  rcases hd : dtO r c xs with _ | d
  · have HD := Lib.hid hd
    clear hd
    go_enter Try.func15, Try.ntmps15
    go_wp2_with fail
    refine (spec_DeterminantOf r c A n cap xs _ (B := w.heap.size) (Kr H2.out) Ks hn).mono ?_
    rw [HD.out]
    rintro e w1 ⟨rfl, hb1⟩
    go_wp2_with fail
    go_ret
    exact BV.mk rfl Kw
  · have h2 := h1 d hd
    have HD := Lib.hid hd
    clear hd h1
    go_enter Try.func15, Try.ntmps15
    go_wp2_with fail
    refine (spec_DeterminantOf r c A n cap xs _ (B := w.heap.size) (Kr H2.out) Ks hn).mono ?_
    rw [HD.out]
    rintro e w1 ⟨rfl, hb1⟩
    have hsz := hb1.size
    simp at hsz
    have hM : BM w1 w.heap.size r c A n cap := Ka
    have H2' : Hid (RI w1 w.heap.size A n xs) := Lib.hid (Kr H2.out)
    have hbw : Below w.heap.size w w1 := Kw
    clear hb1
    obtain ⟨ma, mb, mc, mf, ml⟩ := hM.mx
    rcases h2 with h2 | h2
    all_goals
      have HD' := HD
      subst h2
      go_wp2_with fail
      refine (impl_IsUnimodular r c A n cap xs _ (B := w.heap.size) (Kr H2'.out) Ks hn HD'.out (by first | exact .inl rfl | exact .inr rfl)).mono ?_
      rintro e w2 ⟨rfl, hb2⟩
      go_wp2_with fail
      go_ret
      exact BV.mk rfl Kw
end Go.Proofs.Ytlggfmfelakadaa

/-
  DERIVED. What EchelonOf returns; makePrimitive on a row.
-/
namespace Go.Proofs.Ytlggfmfelakadaa
open Go.RowKit
set_option linter.unusedVariables false
set_option linter.unusedSimpArgs false
theorem ret_MTT' {fn : Func} {R : Ending → World → Prop} {a : Act} {w : World} {t s s2 : Tmp} {b n cap : Nat} {r c : Int} {A : Option Addr} (hr : fn.results = #[.cell t 26, .tmp s, .tmp s2])
    (ht : a.tmps.getD t undef = .pointer (some ⟨b, 0, none⟩)) (h : BM w b r c A n cap) (hd : a.defers = []) (hR : R (.returned (.tuple #[.agg #[.int .i64 r, .int .i64 c, .slice A n cap], a.tmps.getD s undef, a.tmps.getD s2 undef])) w) : bodyPost Try.prog fn R .ret a w :=
  bodyPost_ret (v := .tuple #[.agg #[.int .i64 r, .int .i64 c, .slice A n cap], a.tmps.getD s undef, a.tmps.getD s2 undef]) (by
    obtain ⟨r0, r1, r2, rf, rl⟩ := h.mx
    have ht' := ht
    simp only [Array.getD_eq_getD_getElem?] at ht'
    simp [results, hr, ht', go_sem, r0, r1, r2]) hd hR
theorem OR.shape' {w : World} {B : Nat} {v : Value} {xs : List Int} (h : OR w B v xs) : ∃ A c, v = .slice A xs.length c := by
  rcases h.form with ⟨h1, h2⟩ | ⟨g, c, h1, _⟩
  · subst h2; exact ⟨_, _, h1⟩
  · exact ⟨_, _, h1⟩
/-- The call returned this matrix, this list and the flag: each its own, and apart. -/
def MIBR (m : Mx) (ps : List Int) (b : Bool) (w : World) (e : Ending) (w' : World) : Prop :=
  ∃ A n cap P k c, e = .returned (.tuple #[.agg #[.int .i64 m.r, .int .i64 m.c, .slice A n cap], .slice P k c, .bool b]) ∧ OR w' w.heap.size (.slice A n cap) m.xs ∧ OR w' w.heap.size (.slice P k c) ps ∧ Apart (.slice A n cap) (.slice P k c) ∧ Below w.heap.size w w'
def eoX (r c : Int) (xs : List Int) : Option QSt := if isMat r c xs then echQ r.toNat c.toNat (fun i j => cel xs c.toNat i j) else none
def mxQ (r c : Int) : Option QSt → Mx
  | some s => ⟨r, c, tb r.toNat c.toNat s.f⟩
  | none => .none
def psQ : Option QSt → List Int
  | some s => s.ps
  | none => []
theorem MIBR.none_ {r c : Int} {w w' : World} {P : Option Addr} {k pc : Nat} (h : OR w' w.heap.size (.slice P k pc) []) (hb : Below w.heap.size w w') :
    MIBR (mxQ r c none) (psQ none) (none : Option QSt).isSome w (.returned (.tuple #[.agg #[.int .i64 0, .int .i64 0, .slice none 0 0], .slice P k pc, .bool false])) w' :=
  ⟨none, 0, 0, P, k, pc, rfl, OR.nil_ _ _, h, (fun g h1 => by simp [Value.ownBlock] at h1), hb⟩
theorem MIBR.some_ {R C : Nat} {s : QSt} {w w' : World} {A P : Option Addr} {n cap k pc : Nat} (ho : OR w' w.heap.size (.slice A n cap) (tb R C s.f)) (h : OR w' w.heap.size (.slice P k pc) s.ps) (ha : Apart (.slice A n cap) (.slice P k pc)) (hb : Below w.heap.size w w') :
    MIBR (mxQ R C (some s)) (psQ (some s)) (some s).isSome w (.returned (.tuple #[.agg #[.int .i64 R, .int .i64 C, .slice A n cap], .slice P k pc, .bool true])) w' :=
  ⟨A, n, cap, P, k, pc, rfl, by show OR w' w.heap.size (.slice A n cap) (tb (R : Int).toNat (C : Int).toNat s.f); simpa using ho, h, ha, hb⟩
theorem tb_bd {R C : Nat} {f : Nat → Nat → Int} (h : ∀ i c, i < R → c < C → -400000000 ≤ f i c ∧ f i c ≤ 400000000) (k : Nat) : -400000000 ≤ (tb R C f).getD k 0 ∧ (tb R C f).getD k 0 ≤ 400000000 := by
  by_cases hk : k < (tb R C f).length
  · exact tb_mem (P := fun x => -400000000 ≤ x ∧ x ≤ 400000000) h _ (mem_getD hk)
  · simp [List.getD, List.getElem?_eq_none (show (tb R C f).length ≤ k by omega)]
theorem impl_makePrimitive_tb (R C i g capv n cap : Nat) (f f' : Nat → Nat → Int) (hf : prF C f i = f') (w : World) {B : Nat} (h : OR w B (.slice (some ⟨g, 0, none⟩) n cap) (tb R C f)) (hi : i < R) (hC : C ≤ 48) (hb : ∀ i c, i < R → c < C → -400000000 ≤ f i c ∧ f i c ≤ 400000000) :
    Calls Try.prog 120 #[.slice (some ⟨g, i * C, none⟩) C capv] w (WU (.slice (some ⟨g, 0, none⟩) n cap) B (tb R C f') w) := by
  have hl : i * C + C ≤ R * C := by
    have h3 := Nat.mul_le_mul_right C (show i + 1 ≤ R by omega); rw [Nat.add_mul, Nat.one_mul] at h3; exact h3
  have := impl_makePrimitive g (i * C) C capv n cap (tb R C f) w h (by rw [tb_len]; exact hl) (by omega) (tb_bd hb)
  rw [win_tb hi, spl_tb hi (by rw [primL_len, rw_len])] at this
  rw [← hf]
  exact this
theorem impl_makePrimitive0 (A : Option Addr) (k cap : Nat) (hk : k = 0) (w : World) : Calls Try.prog 120 #[.slice A k cap] w (EV (.tuple #[]) w) := by
  subst hk
  go_enter Try.func120, Try.ntmps120
  go_wp2
  refine wp_loop_rounds 1 ?_
  rw [rounds_succ]
  go_wp2
  refine bodyPost_ret (v := .tuple #[]) (by simp [results, Try.results120]) rfl ?_
  exact ⟨rfl, rfl⟩
end Go.Proofs.Ytlggfmfelakadaa

/-
  DERIVED. What EchelonOf answers, said of matrices as lists: again, mixed, turned over, two beside each other. No program in sight.
-/
namespace Go.Proofs.Ytlggfmfelakadaa
set_option linter.unusedVariables false
structure EOF_ (R C : Nat) (xs : List Int) (s : QSt) : Prop where
  m : isMat R C xs = true
  ef : EF R C s.ps.length (pf s.ps) s.f
  ok : QOk R C s.f
  sp : QSP R R C (fun i j => cel xs C i j) s.f
  nn : ∀ x ∈ s.ps, 0 ≤ x
  R24 : R ≤ 24
  C24 : C ≤ 24
theorem eo_ef {R C : Nat} {xs : List Int} {s : QSt} (h : eoX R C xs = some s) : EOF_ R C xs s := by
  unfold eoX at h
  split at h
  · rename_i hm
    have M := isMat_iff.1 hm
    have h1 := M.r1; have h2 := M.c1
    simp only [Int.toNat_natCast] at h
    obtain ⟨a1, a2, a3, a4⟩ := echQ_ef (fun i c _ _ => by
      rw [cel_nat]
      exact M.nums (i * C + c)) h
    exact ⟨hm, a1, a2, a3, a4, by omega, by omega⟩
  · cases h
theorem eo_of {R C : Nat} {f : Fn2} {s : QSt} (hm : isMat R C (tb R C f) = true) (h : echQ R C (fun i j => cel (tb R C f) C i j) = some s) : eoX R C (tb R C f) = some s := by
  unfold eoX
  rw [if_pos hm]
  simpa only [Int.toNat_natCast] using h
theorem eo_again {R C : Nat} {xs : List Int} {s : QSt} (h : eoX R C xs = some s) : ∃ s', eoX R C (tb R C s.f) = some s' ∧ s'.ps = s.ps ∧ tb R C s'.f = tb R C s.f := by
  have E := eo_ef h
  obtain ⟨s', h1, h2, h3⟩ := echQ_again (g := fun i j => cel (tb R C s.f) C i j) E.ef E.ok E.nn (fun i j hi hj => cel_tb hi hj)
  exact ⟨s', eo_of (E.ok.mat E.R24 E.C24) h1, h2, tb_ext fun i j hi hj => h3 i j hi hj⟩
theorem eo_ech {R C : Nat} {xs : List Int} {s : QSt} (h : eoX R C xs = some s) : echB R C (tb R C s.f) = true := by
  have E := eo_ef h
  exact E.ef.echelon E.ok E.R24 E.C24
theorem QSP.of {R C : Nat} {f g : Fn2} (h : SPN R C f g) : QSP R R C f g := by
  refine ⟨fun i hi => ?_, fun i hi => ?_⟩
  · obtain ⟨c, hc⟩ := h.2 i hi
    exact ⟨1, c, by decide, fun y hy => by rw [Int.one_mul]; exact hc y hy⟩
  · obtain ⟨c, hc⟩ := h.1 i hi
    exact ⟨1, c, by decide, fun y hy => by rw [Int.one_mul]; exact hc y hy⟩
theorem QSP.congr {R S C : Nat} {f g g' : Fn2} (h : QSP R S C f g) (e : EqM S C g' g) : QSP R S C f g' := by
  refine ⟨fun i hi => (h.1 i hi).trans fun k hk => ?_, fun i hi => (h.2 i hi).as (d := 1) (by decide) fun y hy => by rw [Int.one_mul]; exact e i y hi hy⟩
  exact (QS.row (f := g') hk).as (d := 1) (by decide) fun y hy => by rw [Int.one_mul]; exact (e k y hk hy).symm
/-- Of two matrices whose rows span one space the forms are equal. -/
theorem eo_same {R C : Nat} {xs ys : List Int} {s s2 : QSt} (h : eoX R C xs = some s) (h2 : eoX R C ys = some s2) (k : QSP R R C (fun i j => cel xs C i j) (fun i j => cel ys C i j)) : s2.ps = s.ps ∧ tb R C s2.f = tb R C s.f := by
  have E := eo_ef h
  have E2 := eo_ef h2
  obtain ⟨h3, h4⟩ := ech_uniq E2.ef E2.ok E2.nn E.ef E.ok E.nn ((E2.sp.symm.trans k.symm).trans E.sp)
  refine ⟨h3, tb_ext fun i j hi hj => ?_⟩
  rcases Nat.lt_or_ge i s2.ps.length with h5 | h5
  · exact h4 i j h5 hj
  · rw [E2.ef.zero i j h5 hi hj, E.ef.zero i j (by rw [← h3]; exact h5) hi hj]
theorem mul_fn {R n C : Nat} {f : Fn2} {xs : List Int} {i j : Nat} (hi : i < R) (hj : j < C) : cel (mulL (tb R n f) R n xs C) C i j = mm n f (fun i j => cel xs C i j) i j := by
  rw [cel_nat, mulL_at hi hj]
  unfold prodAt mm
  exact sumTo_congr n fun k hk => by rw [cel_tb hi hk]
theorem eo_mix {R C : Nat} {mf : Fn2} {xs : List Int} {s s2 : QSt} (hs : SPN R R idF mf) (h : eoX R C xs = some s) (h2 : eoX R C (mulL (tb R R mf) R R xs C) = some s2) : s2.ps = s.ps ∧ tb R C s2.f = tb R C s.f :=
  eo_same h h2 ((QSP.of (SPN.left (C := C) (m := fun i j => cel xs C i j) hs)).congr fun i j hi hj => mul_fn hi hj)
/-- The number of rows that are wanted to span what the matrix spans. -/
theorem eo_rk {R C : Nat} {xs : List Int} {s : QSt} (h : eoX R C xs = some s) : RKs R C s.ps.length (fun i j => cel xs C i j) ∧ ∀ n, RKs R C n (fun i j => cel xs C i j) → s.ps.length ≤ n := by
  have E := eo_ef h
  exact ⟨E.ef.rk.span E.sp.1, fun n hn => E.ef.rk_le (hn.span E.sp.2)⟩
theorem RKs.congr {R C n : Nat} {f g : Fn2} (h : RKs R C n f) (e : EqM R C g f) : RKs R C n g := by
  obtain ⟨u, hu⟩ := h
  exact ⟨u, fun i hi => (hu i hi).as (d := 1) (by decide) fun y hy => by rw [Int.one_mul]; exact e i y hi hy⟩
theorem eo_turn {R C : Nat} {xs : List Int} {s s3 : QSt} (h : eoX R C xs = some s) (h3 : eoX C R (tb C R (fun a b => cel xs C b a)) = some s3) : s3.ps.length = s.ps.length := by
  obtain ⟨a1, a2⟩ := eo_rk h
  obtain ⟨b1, b2⟩ := eo_rk h3
  refine Nat.le_antisymm (b2 _ (a1.turn.congr fun i j hi hj => cel_tb hi hj)) (a2 _ ?_)
  have b3 := b1.congr (g := fun a b => cel xs C b a) fun i j hi hj => (cel_tb (f := fun a b : Nat => cel xs C b a) hi hj).symm
  exact b3.turn
end Go.Proofs.Ytlggfmfelakadaa

/-
  DERIVED. Slices of ints that are drawn: moduli, right sides.
-/
namespace Go.Proofs.Ytlggfmfelakadaa
open Go.RowKit
set_option linter.unusedVariables false
set_option linter.unusedSimpArgs false
/-- What the call lays from block B0 on is a slice of at most lim ints. -/
def OIs (B0 lim : Nat) (w' : World) (v : Value) : Prop := ∃ A m c ys, v = .slice A m c ∧ OR w' B0 (.slice A m c) ys ∧ ys.length ≤ lim
theorem OIs.mk {B0 lim : Nat} {w' : World} {v : Value} {ys : List Int} (h : OR w' B0 v ys) (hl : ys.length ≤ lim) : OIs B0 lim w' v := by
  rcases h.form with ⟨h1, h2⟩ | ⟨g, cap, h1, _⟩ <;> subst h1 <;> exact ⟨_, _, _, ys, rfl, h, hl⟩
theorem CT.own {w0 w w' : World} {B b n cap : Nat} {A : Option Addr} {xs : List Int} {v : Value} {B1 : Nat} {ys : List Int} (h : CT w0 w B b n cap A xs) (hg : w.grownBy w' v.ownBlock) (ho : OR w B1 v ys) (hB : w0.heap.size ≤ B1) : CT w0 w' B b n cap A xs :=
  h.below (only_below hg (Nat.le_trans h.size (Nat.le_refl _)) fun g e => by have := (ho.own g e).1; omega) (Nat.le_refl _)
/-- The turning of the cursor keeps what is owned above it. -/
theorem OR.turned {w w' : World} {B B1 b n cap : Nat} {A : Option Addr} {xs ys : List Int} {v : Value} (h : OR w B1 v ys) (hc : CT w w' B b n cap A xs) (hb : b < B1) : OR w' B1 v ys :=
  h.kept hc.gr (.inr fun e => by have := (h.own b e).1; omega)
set_option maxRecDepth 100000 in
set_option maxHeartbeats 4000000 in
theorem spec_l8Right (b n cap : Nat) (A : Option Addr) (xs : List Int) (m : Int) (w : World) {B : Nat} (hct : CT w w B b n cap A xs) (hm : m ≤ 1000) :
    Calls Try.prog 116 #[.pointer (some ⟨b, 0, none⟩), .int .i64 m] w (DRV (OIs w.heap.size (m.toNat + 1)) B b n cap A xs w) := by
  have hsz := hct.size
  have hb := hct.hb
  go_enter Try.func116, Try.ntmps116
  go_wp2_with fail
  have ho : OR (w.alloc (.cells #[] 3)) w.heap.size (.slice (some ⟨w.heap.size, 0, none⟩) 0 0) [] := OR.empty w (Nat.le_refl _)
  go_loopw [5, 6] (fun u v wr => ∃ (k : Nat) (ys : List Int), v = .int .i64 k ∧ k ≤ m.toNat ∧ OR wr w.heap.size u ys ∧ ys.length = k ∧ CT w wr B b n cap A xs) (fun _ v _ => m.toNat - (intOf v).toNat)
  case atStart => exact ⟨0, [], rfl, by omega, ho, rfl, by (with_reducible (repeat (first | exact hct | refine CT.drew ?_ | refine CT.drewN ?_ _ | refine CT.alloc ?_ _ | refine CT.far ?_ Ks _ | refine CT.below ?_ (by assumption) Ks)))⟩
  case round =>
    clear hct ho
    obtain ⟨k, ys, rfl, hk0, ho, hl, hct⟩ := hrel
    have HL := Lib.hid hl
    have hl2 : ys.length ≤ 1000 := by omega
    clear hl
    have hsz := hct.size
    by_cases hk : (k : Int) < m
    · go_wp2_with (first | (go_at_call 125; refine (spec_l1Num b n cap A xs 9 _ (CT.self (w0 := w) (B := B) (by (with_reducible (repeat (first | exact hct | refine CT.drew ?_ | refine CT.drewN ?_ _ | refine CT.alloc ?_ _ | refine CT.far ?_ Ks _ | refine CT.below ?_ (by assumption) Ks))))) (by omega)).mono ?_; rintro e w1 ⟨v, rfl, ⟨x, rfl, hx0, hx1⟩, hc1⟩; have hct_1 : CT w w1 B b n cap A xs := CT.trans (by (with_reducible (repeat (first | exact hct | refine CT.drew ?_ | refine CT.drewN ?_ _ | refine CT.alloc ?_ _ | refine CT.far ?_ Ks _ | refine CT.below ?_ (by assumption) Ks)))) hc1; (first | have ho_1 := OR.turned ho hc1 hb | have ho_1 := OR.turned (OR.alloc ho _) hc1 hb | have ho_1 := OR.turned (OR.drew ho) hc1 hb); clear hct ho hc1; have hct := hct_1; have ho := ho_1; clear hct_1 ho_1; have hsz := hct.size) | (at_builtin; refine wpList_append_one _ rfl (.tmp 13) (.tmp 16) rfl w.heap.size _ _ rfl (ho.alloc _) _ x rfl ?f1 ?f2 ?f3 ?_; (case f1 => (simp [go_sem])); (case f2 => omega); (case f3 => (simp; omega)); intro v1 w2 hown1 hgr hat; (have hct_1 : CT w w2 B b n cap A xs := CT.own (by (with_reducible (repeat (first | exact hct | refine CT.drew ?_ | refine CT.drewN ?_ _ | refine CT.alloc ?_ _ | refine CT.far ?_ Ks _ | refine CT.below ?_ (by assumption) Ks)))) hgr (ho.alloc _) (Nat.le_refl _)); clear hct ho hgr hat; have hct := hct_1; have ho := hown1; clear hct_1 hown1; have hsz := hct.size))
      go_roundw
      case rel => exact ⟨k + 1, _, by go_num, by omega, ho, by simp [HL.out], hct⟩
      case measure => simp only [intOf]; omega
    · go_wp2_with (first | (go_at_call 97; refine (spec_l1Once b n cap A xs 24 _ (CT.self (w0 := w) (B := B) (by (with_reducible (repeat (first | exact hct | refine CT.drew ?_ | refine CT.drewN ?_ _ | refine CT.alloc ?_ _ | refine CT.far ?_ Ks _ | refine CT.below ?_ (by assumption) Ks)))))).mono ?_; rintro e w1 ⟨v, rfl, ⟨q, rfl⟩, hc1⟩; have hct_1 : CT w w1 B b n cap A xs := CT.trans (by (with_reducible (repeat (first | exact hct | refine CT.drew ?_ | refine CT.drewN ?_ _ | refine CT.alloc ?_ _ | refine CT.far ?_ Ks _ | refine CT.below ?_ (by assumption) Ks)))) hc1; (first | have ho_1 := OR.turned ho hc1 hb | have ho_1 := OR.turned (OR.alloc ho _) hc1 hb | have ho_1 := OR.turned (OR.drew ho) hc1 hb); clear hct ho hc1; have hct := hct_1; have ho := ho_1; clear hct_1 ho_1; have hsz := hct.size) | (at_builtin; refine wpList_append_one _ rfl (.tmp 20) (.tmp 21) rfl w.heap.size _ _ rfl (ho.alloc _) _ 1 rfl ?f1 ?f2 ?f3 ?_; (case f1 => (simp [go_sem])); (case f2 => omega); (case f3 => (simp; omega)); intro v1 w2 hown1 hgr hat; (have hct_1 : CT w w2 B b n cap A xs := CT.own (by (with_reducible (repeat (first | exact hct | refine CT.drew ?_ | refine CT.drewN ?_ _ | refine CT.alloc ?_ _ | refine CT.far ?_ Ks _ | refine CT.below ?_ (by assumption) Ks)))) hgr (ho.alloc _) (Nat.le_refl _)); clear hct ho hgr hat; have hct := hct_1; have ho := hown1; clear hct_1 hown1; have hsz := hct.size))
      all_goals go_ret
      all_goals exact ⟨_, rfl, OIs.mk ho (by have := HL.out; first | omega | (simp; omega)), by (with_reducible (repeat (first | exact hct | refine CT.drew ?_ | refine CT.drewN ?_ _ | refine CT.alloc ?_ _ | refine CT.far ?_ Ks _ | refine CT.below ?_ (by assumption) Ks)))⟩
end Go.Proofs.Ytlggfmfelakadaa

/-
  DERIVED. Operations on rows: done, undone, and as a product with a matrix. No program in sight.
-/
namespace Go.Proofs.Ytlggfmfelakadaa
set_option linter.unusedVariables false
structure Rop where
  k : Int
  i : Int
  j : Int
  t : Int
def Rop.vals (x : Rop) : List Int := [x.k, x.i, x.j, x.t]
def flat4 : List Rop → List Int
  | [] => []
  | x :: l => x.vals ++ flat4 l
theorem flat4_len : ∀ l : List Rop, (flat4 l).length = l.length * 4
  | [] => rfl
  | x :: l => by
    show ([x.k, x.i, x.j, x.t] ++ flat4 l).length = _
    rw [List.length_append, flat4_len l]
    simp; omega
theorem flat4_app : ∀ l m : List Rop, flat4 (l ++ m) = flat4 l ++ flat4 m
  | [], m => rfl
  | x :: l, m => by
    show x.vals ++ flat4 (l ++ m) = (x.vals ++ flat4 l) ++ flat4 m
    rw [flat4_app l m, List.append_assoc]
theorem flat4_at : ∀ (l : List Rop) (n : Nat) (x : Rop), l[n]? = some x → (flat4 l).getD (n * 4) 0 = x.k ∧ (flat4 l).getD (n * 4 + 1) 0 = x.i ∧ (flat4 l).getD (n * 4 + 2) 0 = x.j ∧ (flat4 l).getD (n * 4 + 3) 0 = x.t
  | [], n, x, h => by simp at h
  | y :: l, 0, x, h => by
    simp at h
    subst h
    exact ⟨rfl, rfl, rfl, rfl⟩
  | y :: l, n + 1, x, h => by
    have ih := flat4_at l n x (by simpa using h)
    have e : ∀ q, (flat4 (y :: l)).getD ((n + 1) * 4 + q) 0 = (flat4 l).getD (n * 4 + q) 0 := fun q => by
      show ([y.k, y.i, y.j, y.t] ++ flat4 l).getD _ 0 = _
      simp only [List.getD]
      rw [List.getElem?_append_right (by simp; omega)]
      congr 2
      simp; omega
    exact ⟨(e 0).trans ih.1, (e 1).trans ih.2.1, (e 2).trans ih.2.2.1, (e 3).trans ih.2.2.2⟩
/-- Whether x is an operation for R rows. -/
def ropB (R : Int) (x : Rop) : Bool := decide (0 ≤ R) && decide (R ≤ 24) && decide (0 ≤ x.i) && decide (x.i < R) && decide (0 ≤ x.j) && decide (x.j < R) && isNum x.t &&
  (if x.k = 0 then decide (x.i ≠ x.j) && decide (x.t = 0) else if x.k = 1 then decide (x.i = x.j) && decide (x.t = 0) else if x.k = 2 then decide (x.i ≠ x.j) else false)
structure RopOk (R : Nat) (x : Rop) (i j : Nat) : Prop where
  R24 : R ≤ 24
  hi : i < R
  hj : j < R
  kind : (x = ⟨0, i, j, 0⟩ ∧ i ≠ j) ∨ (x = ⟨1, i, j, 0⟩ ∧ i = j) ∨ ∃ t, x = ⟨2, i, j, t⟩ ∧ i ≠ j ∧ Num t
theorem rop_ok {R : Nat} {x : Rop} (h : ropB R x = true) : ∃ i j : Nat, RopOk R x i j := by
  obtain ⟨k, i, j, t⟩ := x
  unfold ropB at h
  simp only [Bool.and_eq_true, decide_eq_true_eq] at h
  obtain ⟨⟨⟨⟨⟨⟨⟨h1, h2⟩, h3⟩, h4⟩, h5⟩, h6⟩, h7⟩, h8⟩ := h
  obtain ⟨i, rfl⟩ := nat_of h3
  obtain ⟨j, rfl⟩ := nat_of h5
  refine ⟨i, j, by omega, by omega, by omega, ?_⟩
  by_cases k0 : k = 0
  · subst k0
    rw [if_pos rfl] at h8
    simp only [Bool.and_eq_true, decide_eq_true_eq] at h8
    obtain ⟨a, rfl⟩ := h8
    exact .inl ⟨rfl, by omega⟩
  · rw [if_neg k0] at h8
    by_cases k1 : k = 1
    · subst k1
      rw [if_pos rfl] at h8
      simp only [Bool.and_eq_true, decide_eq_true_eq] at h8
      obtain ⟨a, rfl⟩ := h8
      exact .inr (.inl ⟨rfl, by omega⟩)
    · rw [if_neg k1] at h8
      by_cases k2 : k = 2
      · subst k2
        rw [if_pos rfl] at h8
        simp only [decide_eq_true_eq] at h8
        exact .inr (.inr ⟨t, rfl, by omega, Num.of h7⟩)
      · rw [if_neg k2] at h8; cases h8
theorem rop_swap {R i j : Nat} (hR : R ≤ 24) (hi : i < R) (hj : j < R) (h : i ≠ j) : ropB R ⟨0, i, j, 0⟩ = true := by
  unfold ropB
  simp [isNum]; omega
theorem rop_neg {R i : Nat} (hR : R ≤ 24) (hi : i < R) : ropB R ⟨1, i, i, 0⟩ = true := by
  unfold ropB
  simp [isNum]; omega
theorem rop_add {R i j : Nat} {t : Int} (hR : R ≤ 24) (hi : i < R) (hj : j < R) (h : i ≠ j) (ht : Num t) : ropB R ⟨2, i, j, t⟩ = true := by
  have := ht.isN
  unfold ropB
  simp [this]; omega
/-- Row i plus t times row j. -/
def adF (f : Fn2) (i j : Nat) (t : Int) : Fn2 := fun a y => if a = i then f a y + f j y * t else f a y
def opF (f : Fn2) (x : Rop) : Fn2 := if x.k = 0 then swF f x.i.toNat x.j.toNat else if x.k = 1 then opN f x.i.toNat else adF f x.i.toNat x.j.toNat x.t
theorem opF_swap (f : Fn2) (i j : Nat) : opF f ⟨0, i, j, 0⟩ = swF f i j := rfl
theorem opF_neg (f : Fn2) (i j : Nat) : opF f ⟨1, i, j, 0⟩ = opN f i := rfl
theorem opF_add (f : Fn2) (i j : Nat) (t : Int) : opF f ⟨2, i, j, t⟩ = adF f i j t := rfl
/-- Whether its numbers stay numbers. -/
def numC (C : Nat) (f : Fn2) (x : Rop) : Bool := if x.k = 2 then (List.range C).all fun y => isNum (f x.j.toNat y * x.t) && isNum (f x.i.toNat y + f x.j.toNat y * x.t) else true
theorem numC_add {C i j : Nat} {f : Fn2} {t : Int} : numC C f ⟨2, i, j, t⟩ = true ↔ rowOk f i j t C := by
  unfold numC rowOk
  simp only [if_true, Int.toNat_natCast, List.all_eq_true, List.mem_range, Bool.and_eq_true]
  exact ⟨fun h y hy => ⟨Num.of (h y hy).1, Num.of (h y hy).2⟩, fun h y hy => ⟨(h y hy).1.isN, (h y hy).2.isN⟩⟩
def doX (R C : Nat) (f : Fn2) (x : Rop) : Option Fn2 := if ropB R x && numC C f x then some (opF f x) else none
def doXs (R C : Nat) : Fn2 → List Rop → Option Fn2
  | f, [] => some f
  | f, x :: l => (doX R C f x).bind fun g => doXs R C g l
theorem doX_yes {R C : Nat} {f : Fn2} {x : Rop} (h : ropB R x = true) (h2 : numC C f x = true) : doX R C f x = some (opF f x) := by unfold doX; rw [h, h2]; rfl
theorem doX_some {R C : Nat} {f g : Fn2} {x : Rop} (h : doX R C f x = some g) : ropB R x = true ∧ numC C f x = true ∧ g = opF f x := by
  unfold doX at h
  split at h
  · rename_i h1
    rw [Bool.and_eq_true] at h1
    injection h with h
    exact ⟨h1.1, h1.2, h.symm⟩
  · cases h
theorem doXs_cons {R C : Nat} {f : Fn2} {x : Rop} {l : List Rop} : doXs R C f (x :: l) = (doX R C f x).bind fun g => doXs R C g l := rfl
theorem doXs_app {R C : Nat} : ∀ (l m : List Rop) (f : Fn2), doXs R C f (l ++ m) = (doXs R C f l).bind fun g => doXs R C g m
  | [], m, f => rfl
  | x :: l, m, f => by
    show (doX R C f x).bind (fun g => doXs R C g (l ++ m)) = ((doX R C f x).bind fun g => doXs R C g l).bind _
    rcases doX R C f x with _ | g
    · rfl
    · exact doXs_app l m g
theorem OKF.op {R C : Nat} {f g : Fn2} {x : Rop} (h : OKF R C f) (e : doX R C f x = some g) : OKF R C g := by
  obtain ⟨h1, h2, rfl⟩ := doX_some e
  obtain ⟨i, j, K⟩ := rop_ok h1
  rcases K.kind with ⟨rfl, _⟩ | ⟨rfl, _⟩ | ⟨t, rfl, _, _⟩
  · rw [opF_swap]
    intro a y ha hy
    exact h _ y (by have := K.hi; have := K.hj; split <;> (try split) <;> omega) hy
  · rw [opF_neg]
    intro a y ha hy
    have := h a y ha hy
    have h3 := h i y K.hi hy
    unfold opN
    unfold Num at *
    split <;> omega
  · rw [opF_add]
    intro a y ha hy
    unfold adF
    split
    · rename_i e; rw [e]; exact (numC_add.1 h2 y hy).2
    · exact h a y ha hy
theorem OKF.ops {R C : Nat} : ∀ (l : List Rop) {f g : Fn2}, OKF R C f → doXs R C f l = some g → OKF R C g
  | [], f, g, h, e => by injection e with e; rw [← e]; exact h
  | x :: l, f, g, h, e => by
    rw [doXs_cons] at e
    rcases h1 : doX R C f x with _ | g1
    · rw [h1] at e; cases e
    · rw [h1] at e
      exact OKF.ops l (h.op h1) e
def undo (x : Rop) : Rop := if x.k = 2 then ⟨x.k, x.i, x.j, -x.t⟩ else x
def undos (l : List Rop) : List Rop := (l.map undo).reverse
theorem undos_cons (x : Rop) (l : List Rop) : undos (x :: l) = undos l ++ [undo x] := by unfold undos; simp
theorem undos_len (l : List Rop) : (undos l).length = l.length := by unfold undos; simp
theorem doX_undo {R C : Nat} {f g : Fn2} {x : Rop} (h : OKF R C f) (e : doX R C f x = some g) : doX R C g (undo x) = some f := by
  obtain ⟨h1, h2, rfl⟩ := doX_some e
  obtain ⟨i, j, K⟩ := rop_ok h1
  rcases K.kind with ⟨rfl, hij⟩ | ⟨rfl, hij⟩ | ⟨t, rfl, hij, ht⟩
  · rw [show undo ⟨0, (i : Int), (j : Int), 0⟩ = ⟨0, i, j, 0⟩ from rfl, doX_yes h1 rfl, opF_swap, opF_swap]
    congr 1
    funext a y
    unfold swF
    congr 1
    grind
  · rw [show undo ⟨1, (i : Int), (j : Int), 0⟩ = ⟨1, i, j, 0⟩ from rfl, doX_yes h1 rfl, opF_neg, opF_neg]
    congr 1
    funext a y
    unfold opN
    grind
  · rw [show undo ⟨2, (i : Int), (j : Int), t⟩ = ⟨2, i, j, -t⟩ from rfl, opF_add]
    have hr := numC_add.1 h2
    have hf : adF (adF f i j t) i j (-t) = f := by
      funext a y
      unfold adF
      by_cases e : a = i
      · subst e
        rw [if_pos rfl, if_pos rfl, if_neg (Ne.symm hij)]
        rw [Int.mul_neg]; omega
      · rw [if_neg e, if_neg e]
    rw [doX_yes (rop_add K.R24 K.hi K.hj hij (by unfold Num at *; omega)) (numC_add.2 fun y hy => ?_), opF_add, hf]
    obtain ⟨a1, a2⟩ := hr y hy
    have e1 : adF f i j t j y = f j y := by unfold adF; rw [if_neg (Ne.symm hij)]
    have e2 : adF f i j t i y = f i y + f j y * t := by unfold adF; rw [if_pos rfl]
    rw [e1, e2]
    have h3 := h i y K.hi hy
    rw [Int.mul_neg]
    unfold Num at *
    generalize f j y * t = m at *
    omega
theorem doXs_undo {R C : Nat} : ∀ (l : List Rop) {f g : Fn2}, OKF R C f → doXs R C f l = some g → doXs R C g (undos l) = some f
  | [], f, g, h, e => by injection e with e; rw [e]; rfl
  | x :: l, f, g, h, e => by
    rw [doXs_cons] at e
    rcases h1 : doX R C f x with _ | g1
    · rw [h1] at e; cases e
    · rw [h1] at e
      rw [undos_cons, doXs_app, doXs_undo l (h.op h1) e]
      show (doX R C g1 (undo x)).bind _ = _
      rw [doX_undo h h1]; rfl
/-- A product with u, kept under one operation on both. -/
theorem mm_op {R C : Nat} {u u' f g g' : Fn2} {x : Rop} (hu : doX R R u x = some u') (hg : doX R C g x = some g') (h : EqM R C g (mm R u f)) : EqM R C g' (mm R u' f) := by
  obtain ⟨h1, _, rfl⟩ := doX_some hu
  obtain ⟨_, _, rfl⟩ := doX_some hg
  obtain ⟨i, j, K⟩ := rop_ok h1
  intro a y ha hy
  rcases K.kind with ⟨rfl, hij⟩ | ⟨rfl, hij⟩ | ⟨t, rfl, hij, ht⟩
  · rw [opF_swap, opF_swap]
    exact h _ y (by have := K.hi; have := K.hj; split <;> (try split) <;> omega) hy
  · rw [opF_neg, opF_neg]
    unfold opN mm
    by_cases e : a = i
    · subst e
      rw [if_pos rfl, h a y ha hy]
      unfold mm
      rw [← sumTo_neg]
      exact sumTo_congr R fun k hk => by dsimp only; rw [if_pos rfl, Int.neg_mul]
    · rw [if_neg e, h a y ha hy]
      exact sumTo_congr R fun k hk => by dsimp only; rw [if_neg e]
  · rw [opF_add, opF_add]
    unfold adF mm
    by_cases e : a = i
    · subst e
      rw [if_pos rfl, h a y ha hy, h j y K.hj hy]
      unfold mm
      rw [← sumTo_mul, ← sumTo_add]
      exact sumTo_congr R fun k hk => by dsimp only; rw [if_pos rfl]; grind
    · rw [if_neg e, h a y ha hy]
      exact sumTo_congr R fun k hk => by dsimp only; rw [if_neg e]
theorem mm_ops {R C : Nat} {f : Fn2} : ∀ (l : List Rop) {u u' g g' : Fn2}, doXs R R u l = some u' → doXs R C g l = some g' → EqM R C g (mm R u f) → EqM R C g' (mm R u' f)
  | [], u, u', g, g', h1, h2, h => by
    injection h1 with h1; injection h2 with h2
    rw [← h1, ← h2]; exact h
  | x :: l, u, u', g, g', h1, h2, h => by
    rw [doXs_cons] at h1 h2
    rcases e1 : doX R R u x with _ | u1
    · rw [e1] at h1; cases h1
    · rcases e2 : doX R C g x with _ | g1
      · rw [e2] at h2; cases h2
      · rw [e1] at h1; rw [e2] at h2
        exact mm_ops l h1 h2 (mm_op e1 e2 h)
theorem mm_idF {R : Nat} (f : Fn2) (C : Nat) : EqM R C f (mm R idF f) := fun i y hi hy => by
  unfold mm
  rw [sumTo_one (i := i) R hi fun k hk hki => by unfold idF; rw [if_neg (Ne.symm hki), Int.zero_mul]]
  unfold idF
  rw [if_pos rfl, Int.one_mul]
theorem idF_numR (i j : Nat) : Num (idF i j) := by unfold idF Num; split <;> omega
theorem OKF.id (R : Nat) : OKF R R idF := fun i j _ _ => idF_numR i j
/-- The matrix of an operation. -/
theorem do_id {R : Nat} {x : Rop} (h : ropB R x = true) : doX R R idF x = some (opF idF x) := by
  refine doX_yes h ?_
  obtain ⟨i, j, K⟩ := rop_ok h
  rcases K.kind with ⟨rfl, hij⟩ | ⟨rfl, hij⟩ | ⟨t, rfl, hij, ht⟩
  · rfl
  · rfl
  · refine numC_add.2 fun y hy => ?_
    unfold idF Num at *
    by_cases e1 : i = y
    · rw [if_pos e1, if_neg (by omega)]; omega
    · rw [if_neg e1]
      split <;> omega
theorem Dt_op {R : Nat} {u u' : Fn2} {x : Rop} (h : doX R R u x = some u') : Dt R u' = Dt R u ∨ Dt R u' = -Dt R u := by
  obtain ⟨h1, _, rfl⟩ := doX_some h
  obtain ⟨i, j, K⟩ := rop_ok h1
  rcases K.kind with ⟨rfl, hij⟩ | ⟨rfl, hij⟩ | ⟨t, rfl, hij, ht⟩
  · rw [opF_swap]; exact .inr ((Dt_alt R).swap K.hi K.hj hij u)
  · rw [opF_neg]
    refine .inr ?_
    rw [(Dt_alt R).scale (t := -1) (f := u) K.hi (fun y _ => by unfold opN; rw [if_pos rfl]; omega) (fun a y _ _ hne => by unfold opN; rw [if_neg hne])]
    omega
  · rw [opF_add]
    exact .inl ((Dt_alt R).add (t := t) (f := u) K.hi K.hj hij (fun y _ => by unfold adF; rw [if_pos rfl]) (fun a y _ _ hne => by unfold adF; rw [if_neg hne]))
theorem Dt_ops {R : Nat} : ∀ (l : List Rop) {u u' : Fn2}, doXs R R u l = some u' → (Dt R u = 1 ∨ Dt R u = -1) → (Dt R u' = 1 ∨ Dt R u' = -1)
  | [], u, u', h, hd => by injection h with h; rw [← h]; exact hd
  | x :: l, u, u', h, hd => by
    rw [doXs_cons] at h
    rcases e1 : doX R R u x with _ | u1
    · rw [e1] at h; cases h
    · rw [e1] at h
      refine Dt_ops l h ?_
      rcases Dt_op e1 with e | e <;> rw [e] <;> omega
theorem isMat_tbR {R C : Nat} {f : Fn2} (hR : R ≤ 24) (hC : C ≤ 24) (h : OKF R C f) : isMat R C (tb R C f) = true :=
  isMat_iff.2 ⟨by omega, by omega, by omega, by omega, by rw [tb_len]; simp, by
    rw [List.all_eq_true]
    exact tb_mem fun i j hi hj => (h i j hi hj).isN⟩
theorem mul_tb {R n C : Nat} {f g h : Fn2} (e : EqM R C h (mm n f g)) : mulL (tb R n f) R n (tb n C g) C = tb R C h := by
  rw [tb_of (xs := mulL (tb R n f) R n (tb n C g) C) (mulL_len _ _ _ _ _)]
  refine tb_ext fun i j hi hj => ?_
  rw [mul_fn hi hj, e i j hi hj]
  unfold mm
  exact sumTo_congr n fun k hk => by dsimp only; rw [cel_tb hk hj]
/-- The product of an operation's matrix and what is done so far. -/
theorem mul_step {R : Nat} {x : Rop} {u u' : Fn2} (hR : R ≤ 24) (hu : OKF R R u) (h : doX R R u x = some u') : mulB R R (tb R R (opF idF x)) R R (tb R R u) = true ∧ mulM R R (tb R R (opF idF x)) R R (tb R R u) = ⟨R, R, tb R R u'⟩ := by
  have h1 := (doX_some h).1
  have h2 := do_id h1
  have e := mm_op h2 h (mm_idF u R)
  have hl : mulL (tb R R (opF idF x)) R R (tb R R u) R = tb R R u' := mul_tb e
  have hb : mulB R R (tb R R (opF idF x)) R R (tb R R u) = true := by
    unfold mulB
    simp only [Int.toNat_natCast]
    rw [hl, isMat_tbR hR hR ((OKF.id R).op h2), isMat_tbR hR hR hu, isMat_tbR hR hR (hu.op h)]
    simp
  refine ⟨hb, ?_⟩
  unfold mulM
  rw [hb, if_pos rfl]
  simp only [Int.toNat_natCast]
  rw [hl]
/-- What is done to the unit, times the matrix, is what is done to the matrix. -/
theorem mul_all {R C : Nat} {f u g : Fn2} {l : List Rop} (h1 : doXs R R idF l = some u) (h2 : doXs R C f l = some g) : mulL (tb R R u) R R (tb R C f) C = tb R C g :=
  mul_tb (mm_ops l h1 h2 (mm_idF f C))
end Go.Proofs.Ytlggfmfelakadaa

/-
  DERIVED. Slices of operations on rows: their cells, flat; append.
-/
namespace Go.Proofs.Ytlggfmfelakadaa
open Go.RowKit
set_option linter.unusedVariables false
set_option linter.unusedSimpArgs false
/-- From block B on, the slice value v owns just n operations, whose cells are xs. -/
def OG (w : World) (B : Nat) (v : Value) (n : Nat) (xs : List Int) : Prop := w.ownsRow B 38 4 v n (xs.map (Value.int .i64))
section
variable {w w' : World} {B n : Nat} {v : Value} {xs : List Int}
theorem OG.len (h : OG w B v n xs) : xs.length = n * 4 := by have := h.1; simpa using this
theorem OG.form (h : OG w B v n xs) : (v = .slice none 0 0 ∧ n = 0) ∨ ∃ g cap, v = .slice (some ⟨g, 0, none⟩) n cap ∧ B ≤ g ∧ g < w.heap.size ∧ n ≤ cap ∧ cap ≤ maxLen := by
  rcases h.2 with ⟨h1, h2⟩ | ⟨g, cap, cur, h1, h2, h3, h4, h5, _⟩
  · exact .inl ⟨h1, h2⟩
  · refine .inr ⟨g, cap, h1, h2, ?_, h4, h5⟩
    rcases Nat.lt_or_ge g w.heap.size with hlt | hge
    · exact hlt
    · rw [Array.getElem?_eq_none hge] at h3; cases h3
theorem OG.kept {row : Option Nat} (h : OG w B v n xs) (hg : w.grownBy w' row) (hne : v.ownBlock = none ∨ v.ownBlock ≠ row) : OG w' B v n xs := World.ownsRow.kept h hg hne
theorem OG.alloc (h : OG w B v n xs) (o : Obj) : OG (w.alloc o) B v n xs := World.ownsRow.alloc h o
theorem OG.drew (h : OG w B v n xs) : OG w.drew B v n xs := h
theorem OG.drewN (h : OG w B v n xs) (k : Nat) : OG (w.drewN k) B v n xs := h
theorem OG.below {C : Nat} (h : OG w B v n xs) (hb : Below C w w') (hC : w.heap.size ≤ C) : OG w' B v n xs :=
  h.kept (row := none) ⟨hb.os, hb.tape, hb.output, hb.size, fun k hk _ => hb.block k (by omega)⟩ (by cases v.ownBlock <;> simp)
theorem OG.far (h : OG w B v n xs) {p : Addr} (hp : v.ownBlock ≠ some p.block) (u : Value) : OG (w.setCell p u) B v n xs :=
  h.kept (row := some p.block) ⟨rfl, rfl, rfl, by simp [World.setCell], fun k hk hne => Below.heap_setCell w p u k (fun e => hne (by rw [e]))⟩ (.inr hp)
theorem OG.mono {B' : Nat} (h : OG w B v n xs) (hB : B' ≤ B) : OG w B' v n xs := by
  refine ⟨h.1, ?_⟩
  rcases h.2 with h1 | ⟨g, cap, cur, h1, h2, h3⟩
  · exact .inl h1
  · exact .inr ⟨g, cap, cur, h1, by omega, h3⟩
theorem OG.low (h : OG w B v n xs) {p : Addr} (hp : p.block < B) (u : Value) : OG (w.setCell p u) B v n xs := ownsRow_setCell_below h hp u
theorem OG.own (h : OG w B v n xs) : Own v B w.heap.size := by
  intro g hg
  rcases h.form with ⟨h1, h2⟩ | ⟨g', cap', h1, h2, h3, _⟩
  · subst h1; cases hg
  · subst h1
    have e : g' = g := by simpa [Value.ownBlock] using hg
    subst e; exact ⟨h2, h3⟩
theorem OG.keptOwn {sv : Value} {lo hi lo' hi' : Nat} (h : OG w B v n xs) (hg : w.grownBy w' sv.ownBlock) (a : Own v lo hi) (b : Own sv lo' hi') (hd : hi ≤ lo' ∨ hi' ≤ lo) : OG w' B v n xs := by
  refine h.kept hg ?_
  cases h1 : v.ownBlock with
  | none => exact .inl rfl
  | some g =>
    refine .inr fun e => ?_
    have h2 := a g h1
    have h3 := b g e.symm
    omega
theorem OG.as {ys : List Int} (h : OG w B v n xs) (e : xs = ys) : OG w B v n ys := e ▸ h
theorem OG.nil_ (w : World) (B : Nat) : OG w B (.slice none 0 0) 0 [] := World.ownsRow_nil w B _ _
variable {g cap : Nat} {A : Option Addr} {m : Nat}
theorem OG.lenEq (h : OG w B (.slice A m cap) n xs) : m = n := by
  rcases h.form with ⟨h1, h2⟩ | ⟨g, cap', h1, h2, h3, _⟩
  · injection h1 with e1 e2 e3; omega
  · injection h1
theorem OG.cnt (h : OG w B (.slice A m cap) n xs) : OG w B (.slice A m cap) m xs := by
  have h1 := h.lenEq
  subst h1
  exact h
theorem OG.caps (h : OG w B (.slice A m cap) n xs) : m ≤ cap ∧ cap ≤ 9223372036854775807 := by
  rcases h.form with ⟨h1, h2⟩ | ⟨g, cap', h1, h2, h3, h4, h5⟩
  · injection h1 with e1 e2 e3; omega
  · injection h1 with e1 e2 e3
    unfold maxLen at h5
    omega
theorem OG.begins (h : OG w B (.slice A m cap) n xs) (hp : 0 < n) : ∃ g, A = some ⟨g, 0, none⟩ ∧ B ≤ g ∧ g < w.heap.size := by
  rcases h.form with ⟨h1, h2⟩ | ⟨g, cap', h1, h2, h3, _⟩
  · omega
  · injection h1 with e1 e2 e3
    exact ⟨g, e1, h2, h3⟩
theorem OG.cell (h : OG w B (.slice (some ⟨g, 0, none⟩) m cap) n xs) (k : Nat) (hk : k < n * 4) : w.cell? ⟨g, k, none⟩ = some (.int .i64 (xs.getD k 0)) := by
  have hn := h.lenEq
  subst hn
  have hl := h.len
  have := World.ownsRow.cellAt h k hk
  rw [this]
  simp [show k < xs.length by omega]
theorem OG.frozen (h : OG w B (.slice (some ⟨g, 0, none⟩) m cap) n xs) (k : Nat) : w.frozen? ⟨g, k, none⟩ = false := by
  have hn := h.lenEq
  subst hn
  exact World.ownsRow.frozenAt h k
theorem OG.set_ (h : OG w B (.slice (some ⟨g, 0, none⟩) m cap) n xs) (k : Nat) (u : Int) : OG (w.setCell ⟨g, k, none⟩ (.int .i64 u)) B (.slice (some ⟨g, 0, none⟩) m cap) n (xs.set k u) := by
  have hn := h.lenEq
  subst hn
  have := (World.ownsRow.stored h k (.int .i64 u)).1
  unfold OG
  rw [List.map_set]
  exact this
theorem OG.reads (h : OG w B (.slice A m cap) n xs) : RI w w.heap.size A (m * 4) xs := by
  have hl := h.len
  have hm := h.lenEq
  rcases h.form with ⟨h1, h2⟩ | ⟨g, cap', h1, h2, h3, _⟩
  · injection h1 with e1 e2 e3
    subst e2
    have hx : xs = [] := List.eq_nil_of_length_eq_zero (by omega)
    subst hx
    exact RI.nil_ _ _ _
  · injection h1 with e1 e2 e3
    subst e1; subst e2
    exact ⟨hl, fun hn => ⟨g, 0, rfl, h3, fun k hk => by rw [Nat.zero_add]; exact h.cell k hk⟩⟩
end
theorem rop_info : (Try.prog.info? 38).map (fun i => (i.zero, i.size, i.bytes)) = some (some (.agg #[.int .i64 0, .int .i64 0, .int .i64 0, .int .i64 0]), 4, 32) := by kernel_rfl
theorem run_append_rop (w : World) (B : Nat) (ty : TypeId) (v : Value) (n : Nat) (xs : List Int) (hown : OG w B v n xs) (g : Nat) (x0 x1 x2 x3 : Int) (c0 : w.cell? ⟨g, 0, none⟩ = some (.int .i64 x0)) (c1 : w.cell? ⟨g, 1, none⟩ = some (.int .i64 x1)) (c2 : w.cell? ⟨g, 2, none⟩ = some (.int .i64 x2)) (c3 : w.cell? ⟨g, 3, none⟩ = some (.int .i64 x3)) (h63 : n ≤ 1000000000) (hbase : B ≤ w.heap.size) :
    ∃ v' w', (Builtin.append_ #[27, 27] ty #[v, .slice (some ⟨g, 0, none⟩) 1 1]).run Try.prog w = .ok v' w' ∧ OG w' B v' (n + 1) (xs ++ [x0, x1, x2, x3]) ∧ w.grownBy w' v.ownBlock ∧ (v'.ownBlock = v.ownBlock ∨ v'.ownBlock = some w.heap.size) := by
  obtain ⟨i0, hi, hz0, hz1, hz2⟩ := info_parts rop_info
  have hcells : ∀ j u, ([Value.int .i64 x0, Value.int .i64 x1, Value.int .i64 x2, Value.int .i64 x3] : List Value)[j]? = some u → w.cell? ((⟨g, 0, none⟩ : Addr).add j) = some u := by
    intro j u hu
    rw [addr_add, Nat.zero_add]
    match j, hu with
    | 0, hu => simp at hu; subst hu; exact c0
    | 1, hu => simp at hu; subst hu; exact c1
    | 2, hu => simp at hu; subst hu; exact c2
    | 3, hu => simp at hu; subst hu; exact c3
    | j + 4, hu => simp at hu
  obtain ⟨v', w', hrun, h2, h3, _, h5⟩ := run_append_own_at (P := Try.prog) w B 27 ty 38 i0 (.agg #[.int .i64 0, .int .i64 0, .int .i64 0, .int .i64 0]) 4 32 Try.underlying27 hi hz0 hz1 hz2 rfl (by omega) v n (xs.map (Value.int .i64)) hown ⟨g, 0, none⟩ 1 1 [.int .i64 x0, .int .i64 x1, .int .i64 x2, .int .i64 x3] rfl hcells (by
    intro u hu
    simp at hu
    rcases hu with rfl | rfl | rfl | rfl <;> rfl) (by unfold maxLen; omega) (by omega) hbase
  refine ⟨v', w', hrun, ?_, h3, h5⟩
  unfold OG
  rw [List.map_append]
  exact h2
theorem wpList_append_rop (w : World) {ops : Array Oper} {rest : List Oper} {o : Oper} {a : Act} {Q : Exit → Act → World → Prop} (hgd : o.guard = none) (s z : Operand)
    (ho : o.op = .call { callee := .builtin .append, args := #[s, z], argTypes := #[27, 27] })
    (B : Nat) (v : Value) (n : Nat) (xs : List Int) (hs : a.eval s = v) (hown : OG w B v n xs) (g : Nat) (x0 x1 x2 x3 : Int) (hz : a.eval z = .slice (some ⟨g, 0, none⟩) 1 1) (c0 : w.cell? ⟨g, 0, none⟩ = some (.int .i64 x0)) (c1 : w.cell? ⟨g, 1, none⟩ = some (.int .i64 x1)) (c2 : w.cell? ⟨g, 2, none⟩ = some (.int .i64 x2)) (c3 : w.cell? ⟨g, 3, none⟩ = some (.int .i64 x3)) (h63 : n ≤ 1000000000) (hbase : B ≤ w.heap.size)
    (h : ∀ v' w', OG w' B v' (n + 1) (xs ++ [x0, x1, x2, x3]) → w.grownBy w' v.ownBlock → (v'.ownBlock = v.ownBlock ∨ v'.ownBlock = some w.heap.size) → wpList Try.prog ops Q rest (a.put o.dst v') w') : wpList Try.prog ops Q (o :: rest) a w :=
  wpList_plain hgd fun _ hK => by
    obtain ⟨v', w', hrun, h2, h3, h4⟩ := run_append_rop w B o.type v n xs hown g x0 x1 x2 x3 c0 c1 c2 c3 h63 hbase
    unfold Oper.wp execOp
    simp only [ho, resolve, invoke, builtin, Sem.run_bind, Sem.run_pure, Result.andThen_ok, List.map_toArray, List.map_cons, List.map_nil, hs, hz, hrun]
    exact hK _ _ (h v' w' h2 h3 h4)
theorem OG.shape {w : World} {B n : Nat} {v : Value} {xs : List Int} (h : OG w B v n xs) : ∃ A c, v = .slice A n c := by
  rcases h.form with ⟨h1, h2⟩ | ⟨g, c, h1, _⟩
  · subst h2; exact ⟨_, _, h1⟩
  · exact ⟨_, _, h1⟩
theorem OG.empty (w : World) (g : Nat) (hg : g = w.heap.size) {B : Nat} (hB : B ≤ w.heap.size) : OG (w.alloc (.cells #[] 38)) B (.slice (some ⟨g, 0, none⟩) 0 0) 0 [] := by
  subst hg
  exact World.ownsRow_made (base := B) (e := 38) (size := 4) w #[] 0 hB (by unfold maxLen; omega) rfl
theorem OG.ne_low {w : World} {B n b : Nat} {v : Value} {xs : List Int} (h : OG w B v n xs) (hb : b < B) : some b ≠ v.ownBlock := fun e => by
  have := (h.own b e.symm).1; omega
theorem OG.below_grown {w w' : World} {B n : Nat} {v : Value} {xs : List Int} (h : OG w B v n xs) (hg : w.grownBy w' v.ownBlock) (hB : B ≤ w.heap.size) : Below B w w' :=
  only_below hg hB fun g e => (h.own g e).1
/-- An operation's variable. -/
def BO (w : World) (b : Nat) (x : Rop) : Prop := Blk w b 38 #[.int .i64 x.k, .int .i64 x.i, .int .i64 x.j, .int .i64 x.t]
theorem BO.cells {w : World} {b : Nat} {x : Rop} (h : BO w b x) : w.cell? ⟨b, 0, none⟩ = some (.int .i64 x.k) ∧ w.cell? ⟨b, 1, none⟩ = some (.int .i64 x.i) ∧ w.cell? ⟨b, 2, none⟩ = some (.int .i64 x.j) ∧ w.cell? ⟨b, 3, none⟩ = some (.int .i64 x.t) ∧ (∀ o, w.frozen? ⟨b, o, none⟩ = false) ∧ b < w.heap.size :=
  ⟨Blk.cell h 0, Blk.cell h 1, Blk.cell h 2, Blk.cell h 3, Blk.frozen h, Blk.lt h⟩
/-- A slice of operations reads as l. -/
def RL (w : World) (B : Nat) (A : Option Addr) (n : Nat) (l : List Rop) : Prop := RI w B A (n * 4) (flat4 l) ∧ l.length = n
theorem RL.ri {w : World} {B n : Nat} {A : Option Addr} {l : List Rop} (h : RL w B A n l) : RI w B A (n * 4) (flat4 l) := h.1
theorem RL.below {w w' : World} {B C n : Nat} {A : Option Addr} {l : List Rop} (h : RL w B A n l) (hb : Below C w w') (hC : B ≤ C) : RL w' B A n l := ⟨RI.below h.1 hb hC, h.2⟩
theorem RL.more {w : World} {B B' n : Nat} {A : Option Addr} {l : List Rop} (h : RL w B A n l) (hB : B ≤ B') : RL w B' A n l := ⟨RI.more h.1 hB, h.2⟩
theorem OG.rl {w : World} {B m cap : Nat} {A : Option Addr} {l : List Rop} (h : OG w B (.slice A m cap) l.length (flat4 l)) : RL w w.heap.size A m l := ⟨h.reads, h.lenEq.symm⟩
/-- The call returned operations of its own. -/
def OGR (l : List Rop) (w : World) (e : Ending) (w' : World) : Prop := ∃ A m cap, e = .returned (.slice A m cap) ∧ OG w' w.heap.size (.slice A m cap) l.length (flat4 l) ∧ Below w.heap.size w w'
/-- An operation as a value. -/
def oV (x : Rop) : Value := .agg #[.int .i64 x.k, .int .i64 x.i, .int .i64 x.j, .int .i64 x.t]
end Go.Proofs.Ytlggfmfelakadaa

/-
  DERIVED. Several small texts in one: Rap, RowB, SmC, Times, DrL, SmT, IsSol, Fac, PlSi, SiT, SiW, SiVd, SiRd.
-/
import Derived.Test.YtmcbhpaajjlmmaaRatsq
import Derived.Test.YtmcbhpaajjlmmaaZ1
import Derived.Test.YtmcbhpaajjlmmaaDrwq
import Derived.Test.YtmcbhpaajjlmmaaSm0q
import Derived.Test.YtmcbhpaajjlmmaaMulS2q
import Derived.Test.YtmcbhpaajjlmmaaZ2
import Derived.Test.YtmcbhpaajjlmmaaZ3
import Derived.Deep.LoopGhost
/-
  DERIVED. append of a ratio, in a region that keeps its order.
-/
namespace Go.Proofs.Ytmcbhpaajjlmmaa
open Go.RowKit
set_option linter.unusedVariables false
set_option linter.unusedSimpArgs false
theorem wpList_append_ratio (w : World) {ops : Array Oper} {rest : List Oper} {o : Oper} {a : Act} {Q : Exit → Act → World → Prop} (hgd : o.guard = none) (s z : Operand)
    (ho : o.op = .call { callee := .builtin .append, args := #[s, z], argTypes := #[36, 36] })
    (B : Nat) (v : Value) (n : Nat) (xs : List Int) (hs : a.eval s = v) (hown : OF w B v n xs) (g : Nat) (x y : Int) (hz : a.eval z = .slice (some ⟨g, 0, none⟩) 1 1) (c0 : w.cell? ⟨g, 0, none⟩ = some (.int .i64 x)) (c1 : w.cell? ⟨g, 1, none⟩ = some (.int .i64 y)) (h63 : n ≤ 1000000000) (hbase : B ≤ w.heap.size)
    (h : ∀ v' w', OF w' B v' (n + 1) (xs ++ [x, y]) → w.grownBy w' v.ownBlock → (v'.ownBlock = v.ownBlock ∨ v'.ownBlock = some w.heap.size) → wpList Try.prog ops Q rest (a.put o.dst v') w') : wpList Try.prog ops Q (o :: rest) a w :=
  wpList_plain hgd fun _ hK => by
    obtain ⟨v', w', hrun, h2, h3, h4⟩ := run_append_ratio w B o.type v n xs hown g x y c0 c1 h63 hbase
    unfold Oper.wp execOp
    simp only [ho, resolve, invoke, builtin, Sem.run_bind, Sem.run_pure, Result.andThen_ok, List.map_toArray, List.map_cons, List.map_nil, hs, hz, hrun]
    exact hK _ _ (h v' w' h2 h3 h4)
end Go.Proofs.Ytmcbhpaajjlmmaa

/-
  DERIVED. A slice of bytes that came in, read.
-/
namespace Go.Proofs.Ytmcbhpaajjlmmaa
open Go.ChangeShapes Go.WideShapes Go.ChangeAt Go.RowKit Go.Joins
set_option linter.unusedVariables false
section
variable {H : Type} {enc : TypeId × Value → H} {P : Program}
theorem reads_bytes {w : World} {base : Nat} {spare : Nat → Bool} {held : Bool} {t e : TypeId} {fuel : Nat} {v : Value} {x : DataW H × List MemPlace}
    (ht : P.underlying t = some (.slice e)) (he : P.underlying e = some (.int .u8)) (hc : P.cellsOf e = 1) (h : DataW.trod enc P w base spare held fuel t [v] = some x)
    (hlt : ∀ p ∈ x.2, p.block < w.heap.size) :
    ∃ A n cap xs, v = .slice A n cap ∧ n ≤ cap ∧ cap ≤ maxLen ∧ RB w w.heap.size A n xs := by
  rcases open_ints ht he hc h with ⟨hcs, hx⟩ | ⟨a, len, cap, zs, hcs, hb, hl, hm, hz, hx, hcell, hwf⟩
  · injection hcs with hv
    exact ⟨none, 0, 0, [], hv, Nat.le_refl _, by unfold maxLen; omega, rfl, fun h => absurd h (by omega), fun k => by simp⟩
  · injection hcs with hv
    have hzl : len ≤ zs.length := by rw [hz]; split <;> omega
    refine ⟨some a, len, cap, zs.take len, hv, hl, hm, by simp; omega, fun hn => ?_, fun k => ?_⟩
    · obtain ⟨b, off, rfl, hc'⟩ := ints_at hcell (by omega)
      refine ⟨b, off, rfl, ?_, fun k hk => ?_⟩
      · have h0 : MemPlace.cell b off ∈ x.2 := by
          rw [hx]
          simp only [MemPlace.row, List.mem_map, List.mem_range]
          exact ⟨0, by omega, rfl⟩
        exact hlt _ h0
      · rw [hc' k (by omega)]
        simp [List.getD, hk]
    · by_cases hk : k < (zs.take len).length
      · have h1 : (zs.take len).getD k 0 ∈ zs := by
          have : (zs.take len).getD k 0 = (zs.take len)[k] := by unfold List.getD; rw [List.getElem?_eq_getElem hk]; rfl
          rw [this]
          exact List.mem_of_mem_take (List.getElem_mem hk)
        simpa [Lit.wf, IntKind.min, IntKind.max, IntKind.signed, IntKind.bits] using hwf _ h1
      · have : (zs.take len).getD k 0 = 0 := by simp [List.getD, List.getElem?_eq_none (show (zs.take len).length ≤ k by omega)]
        rw [this]; omega
end
end Go.Proofs.Ytmcbhpaajjlmmaa

/-
  DERIVED. What is left behind the two sweeps of a round, and whether another one follows: no program in sight.
-/
namespace Go.Proofs.Ytmcbhpaajjlmmaa
set_option linter.unusedVariables false
/-- What is left behind the two sweeps. -/
theorem clnS_of {R C t : Nat} {f : Fn2} (h1 : ∀ x, t < x → x < R → f x t = 0) (h2 : ∀ y, t < y → y < C → f t y = 0) : clnS R C t f = true := by
  unfold clnS
  have a1 : oth R f t t t = false := by
    refine Bool.eq_false_iff.2 fun h => ?_
    obtain ⟨i, a, b, c, d⟩ := oth_iff.1 h
    exact d (h1 i (by omega) b)
  have a2 : oth C (tp f) t t t = false := by
    refine Bool.eq_false_iff.2 fun h => ?_
    obtain ⟨i, a, b, c, d⟩ := oth_iff.1 h
    exact d (h2 i (by omega) b)
  rw [a1, a2]; rfl
theorem clnS_not {R C t : Nat} {f : Fn2} (h : (∃ x, t < x ∧ x < R ∧ f x t ≠ 0) ∨ ∃ y, t < y ∧ y < C ∧ f t y ≠ 0) : clnS R C t f = false := by
  refine Bool.eq_false_iff.2 fun hc => ?_
  obtain ⟨z1, z2⟩ := clnS_yes hc
  rcases h with ⟨x, a, b, c⟩ | ⟨y, a, b, c⟩
  · exact c (z1 x a b)
  · exact c (z2 y a b)
theorem fdS_all {f : Fn2} {t C : Nat} : ∀ m i, (∀ k, i ≤ k → k < i + m → fdR f t C k = false) → fdS f t C i m = none
  | 0, i, _ => rfl
  | m + 1, i, h => by rw [fdS_no (h i (Nat.le_refl _) (by omega))]; exact fdS_all m (i + 1) fun k h1 h2 => h k (by omega) (by omega)
theorem fdS_first {f : Fn2} {t C k : Nat} : ∀ m i, i ≤ k → k < i + m → (∀ x, i ≤ x → x < k → fdR f t C x = false) → fdR f t C k = true → fdS f t C i m = some k
  | 0, i, h1, h2, _, _ => by omega
  | m + 1, i, h1, h2, h3, h4 => by
    by_cases e : i = k
    · subst e; exact fdS_yes h4
    · rw [fdS_no (h3 i (Nat.le_refl _) (by omega))]
      exact fdS_first m (i + 1) (by omega) (by omega) (fun x a b => h3 x (by omega) b) h4
theorem fd_none {f : Fn2} {R C t : Nat} (h : ∀ k, t < k → k < R → fdR f t C k = false) : fd R C t f = none := fdS_all _ _ fun k h1 h2 => h k (by omega) (by omega)
theorem fd_first {f : Fn2} {R C t k : Nat} (h1 : t < k) (h2 : k < R) (h3 : ∀ x, t < x → x < k → fdR f t C x = false) (h4 : fdR f t C k = true) : fd R C t f = some k :=
  fdS_first _ _ (by omega) (by omega) (fun x a b => h3 x (by omega) b) h4
theorem sfD_left {R C t : Nat} {s : SS} (h : clnS R C t s.f = false) : sfD R C t s = (s, false) := by unfold sfD; rw [h]; rfl
theorem sfD_done {R C t : Nat} {s : SS} (h : clnS R C t s.f = true) (h2 : fd R C t s.f = none) : sfD R C t s = (s, true) := by unfold sfD; rw [h, if_pos rfl, h2]
theorem sfD_next {R C t i : Nat} {s : SS} (h : clnS R C t s.f = true) (h2 : fd R C t s.f = some i) : sfD R C t s = (s.wr (s.row.add t i 1), false) := by unfold sfD; rw [h, if_pos rfl, h2]
theorem rnd_of {R C t p q : Nat} {s : SS} (e : ls2 R C s.f t = ((p : Int), (q : Int))) : rnd R C t s = sfD R C t (sfC C t (sfB R t (sfA2 t q (sfA1 t p s)))) := by
  unfold rnd sfA
  rw [e]
  rfl
end Go.Proofs.Ytmcbhpaajjlmmaa

/-
  DERIVED. l14Times, IsSolution of the reference.
-/
namespace Go.Proofs.Ytmcbhpaajjlmmaa
open Go.RowKit
set_option linter.unusedVariables false
set_option linter.unusedSimpArgs false
/-- The call returned an own slice and a flag. -/
def IBR (ys : List Int) (b : Bool) (w : World) (e : Ending) (w' : World) : Prop :=
  ∃ A n cap, e = .returned (.tuple #[.slice A n cap, .bool b]) ∧ OR w' w.heap.size (.slice A n cap) ys ∧ Below w.heap.size w w'
theorem IBR.mk {ys zs : List Int} {b : Bool} {A : Option Addr} {n cap : Nat} {w w' : World} (hz : ys = zs) (ho : OR w' w.heap.size (.slice A n cap) zs) (hb : Below w.heap.size w w') :
    IBR ys b w (.returned (.tuple #[.slice A n cap, .bool b])) w' := by subst hz; exact ⟨A, n, cap, rfl, ho, hb⟩
/-- Numbers solve a system. -/
def solB (r c : Int) (xs b x : List Int) : Bool := mulB r c xs x.length 1 x && eqB (mulM r c xs x.length 1 x).xs b
theorem mulM_len (r c : Int) (xs : List Int) (r2 c2 : Int) (ys : List Int) : (mulM r c xs r2 c2 ys).xs.length ≤ 576 := by
  unfold mulM
  split
  · rename_i h
    unfold mulB at h
    simp only [Bool.and_eq_true] at h
    have M := isMat_iff.1 h.1.1.1
    have M2 := isMat_iff.1 h.1.1.2
    show (mulL xs r.toNat c.toNat ys c2.toNat).length ≤ 576
    rw [mulL_len]
    have := Nat.mul_le_mul (show r.toNat ≤ 24 by have := M.r1; omega) (show c2.toNat ≤ 24 by have := M2.c1; omega)
    omega
  · simp [Mx.none]
set_option maxRecDepth 100000 in
set_option maxHeartbeats 4000000 in
theorem spec_l14Times (r c : Int) (A A3 : Option Addr) (n cap n3 cap3 : Nat) (xs x : List Int) (w : World) {B B3' : Nat} (h : RI w B A n xs) (h3 : RI w B3' A3 n3 x) (hB : B ≤ w.heap.size) (hB3 : B3' ≤ w.heap.size) (hn : n ≤ 1048576) (hn3 : n3 ≤ 1048576) :
    Calls Try.prog 88 #[.agg #[.int .i64 r, .int .i64 c, .slice A n cap], .slice A3 n3 cap3] w (IBR (mulM r c xs n3 1 x).xs (mulB r c xs n3 1 x) w) := by
  have H1 := Lib.hid (h.more hB)
  have H3 := Lib.hid (h3.more hB3)
  clear h h3 hB hB3
  rcases hres : mulB r c xs n3 1 x with _ | _
  all_goals
    have HRES := Lib.hid hres
    have HN := mulM_no (r := r) (c := c) (xs := xs) (r2 := n3) (c2 := 1) (ys := x)
    clear hres
    have HNO := Lib.hid HN
    clear HN
    go_enter Try.func88, Try.ntmps88
    go_wp2_with fail
    refine (spec_MultiplyMatrices r c n3 1 A A3 n cap n3 cap3 xs x _ (B := w.heap.size) (B' := w.heap.size) (by (with_reducible (repeat (first | exact H1.out | refine RI.drew ?_ | refine RI.drewN ?_ _ | refine RI.a_ ?_ | refine RI.s_ ?_ | refine RI.b_ ?_)))) (by (with_reducible (repeat (first | exact H3.out | refine RI.drew ?_ | refine RI.drewN ?_ _ | refine RI.a_ ?_ | refine RI.s_ ?_ | refine RI.b_ ?_)))) (by first | omega | (simp; done) | (simp; omega)) (by first | omega | (simp; done) | (simp; omega)) hn hn3).mono ?_
    rw [HRES.out]
    rintro e w2 ⟨Ar, nr, cr, rfl, ho, hb2⟩
    have hs2 := hb2.size
    simp at hs2
    have hbw2 : Below w.heap.size w w2 := by (repeat (first | (with_reducible (first | exact Below.refl _ _ | assumption | refine below_drewN ?_ _ | refine Below.drew ?_ | refine Below.alloc ?_ ?_ _ | refine Below.setCell ?_ ?_ _ | refine below_i ?_)) | go_size))
    have hown : OR w2 w.heap.size (.slice Ar nr cr) (mulM r c xs n3 1 x).xs := ho.mono (by first | omega | (simp; done) | (simp; omega))
    clear ho hb2
    go_wp2_with fail
    go_ret2
  · exact IBR.mk (by rw [HNO.out HRES.out]; rfl) (OR.empty' _ _ (by simp) (by first | omega | (simp; done) | (simp; omega))) (by (repeat (first | (with_reducible (first | exact Below.refl _ _ | assumption | refine below_drewN ?_ _ | refine Below.drew ?_ | refine Below.alloc ?_ ?_ _ | refine Below.setCell ?_ ?_ _ | refine below_i ?_)) | go_size)))
  · exact IBR.mk rfl (by (with_reducible (repeat (first | exact hown | refine OR.drew ?_ | refine OR.drewN ?_ _ | refine OR.alloc ?_ _ | refine OR.b_ ?_ | refine OR.l_ ?_)))) (by (repeat (first | (with_reducible (first | exact Below.refl _ _ | assumption | refine below_drewN ?_ _ | refine Below.drew ?_ | refine Below.alloc ?_ ?_ _ | refine Below.setCell ?_ ?_ _ | refine below_i ?_)) | go_size)))
end Go.Proofs.Ytmcbhpaajjlmmaa

/-
  DERIVED. Slices of ints that are drawn: moduli, right sides.
-/
namespace Go.Proofs.Ytmcbhpaajjlmmaa
open Go.RowKit
set_option linter.unusedVariables false
set_option linter.unusedSimpArgs false
/-- What the call lays from block B0 on is a slice of at most lim ints. -/
def OIs (B0 lim : Nat) (w' : World) (v : Value) : Prop := ∃ A m c ys, v = .slice A m c ∧ OR w' B0 (.slice A m c) ys ∧ ys.length ≤ lim
theorem OIs.mk {B0 lim : Nat} {w' : World} {v : Value} {ys : List Int} (h : OR w' B0 v ys) (hl : ys.length ≤ lim) : OIs B0 lim w' v := by
  rcases h.form with ⟨h1, h2⟩ | ⟨g, cap, h1, _⟩ <;> subst h1 <;> exact ⟨_, _, _, ys, rfl, h, hl⟩
theorem CT.own {w0 w w' : World} {B b n cap : Nat} {A : Option Addr} {xs : List Int} {v : Value} {B1 : Nat} {ys : List Int} (h : CT w0 w B b n cap A xs) (hg : w.grownBy w' v.ownBlock) (ho : OR w B1 v ys) (hB : w0.heap.size ≤ B1) : CT w0 w' B b n cap A xs :=
  h.below (only_below hg (Nat.le_trans h.size (Nat.le_refl _)) fun g e => by have := (ho.own g e).1; omega) (Nat.le_refl _)
/-- The turning of the cursor keeps what is owned above it. -/
theorem OR.turned {w w' : World} {B B1 b n cap : Nat} {A : Option Addr} {xs ys : List Int} {v : Value} (h : OR w B1 v ys) (hc : CT w w' B b n cap A xs) (hb : b < B1) : OR w' B1 v ys :=
  h.kept hc.gr (.inr fun e => by have := (h.own b e).1; omega)
set_option maxRecDepth 100000 in
set_option maxHeartbeats 4000000 in
theorem spec_l8Right (b n cap : Nat) (A : Option Addr) (xs : List Int) (m : Int) (w : World) {B : Nat} (hct : CT w w B b n cap A xs) (hm : m ≤ 1000) :
    Calls Try.prog 133 #[.pointer (some ⟨b, 0, none⟩), .int .i64 m] w (DRV (OIs w.heap.size (m.toNat + 1)) B b n cap A xs w) := by
  have hsz := hct.size
  have hb := hct.hb
  go_enter Try.func133, Try.ntmps133
  go_wp2_with fail
  have ho : OR (w.alloc (.cells #[] 3)) w.heap.size (.slice (some ⟨w.heap.size, 0, none⟩) 0 0) [] := OR.empty w (Nat.le_refl _)
  go_loopw [5, 6] (fun u v wr => ∃ (k : Nat) (ys : List Int), v = .int .i64 k ∧ k ≤ m.toNat ∧ OR wr w.heap.size u ys ∧ ys.length = k ∧ CT w wr B b n cap A xs) (fun _ v _ => m.toNat - (intOf v).toNat)
  case atStart => exact ⟨0, [], rfl, by omega, ho, rfl, by (with_reducible (repeat (first | exact hct | refine CT.drew ?_ | refine CT.drewN ?_ _ | refine CT.alloc ?_ _ | refine CT.far ?_ (by first | omega | (simp; done) | (simp; omega)) _ | refine CT.below ?_ (by assumption) (by first | omega | (simp; done) | (simp; omega)))))⟩
  case round =>
    clear hct ho
    obtain ⟨k, ys, rfl, hk0, ho, hl, hct⟩ := hrel
    have HL := Lib.hid hl
    have hl2 : ys.length ≤ 1000 := by omega
    clear hl
    have hsz := hct.size
    by_cases hk : (k : Int) < m
    · go_wp2_with (first | (go_at_call 196; refine (spec_l1Num b n cap A xs 9 _ (CT.self (w0 := w) (B := B) (by (with_reducible (repeat (first | exact hct | refine CT.drew ?_ | refine CT.drewN ?_ _ | refine CT.alloc ?_ _ | refine CT.far ?_ (by first | omega | (simp; done) | (simp; omega)) _ | refine CT.below ?_ (by assumption) (by first | omega | (simp; done) | (simp; omega))))))) (by omega)).mono ?_; rintro e w1 ⟨v, rfl, ⟨x, rfl, hx0, hx1⟩, hc1⟩; have hct_1 : CT w w1 B b n cap A xs := CT.trans (by (with_reducible (repeat (first | exact hct | refine CT.drew ?_ | refine CT.drewN ?_ _ | refine CT.alloc ?_ _ | refine CT.far ?_ (by first | omega | (simp; done) | (simp; omega)) _ | refine CT.below ?_ (by assumption) (by first | omega | (simp; done) | (simp; omega)))))) hc1; (first | have ho_1 := OR.turned ho hc1 hb | have ho_1 := OR.turned (OR.alloc ho _) hc1 hb | have ho_1 := OR.turned (OR.drew ho) hc1 hb); clear hct ho hc1; have hct := hct_1; have ho := ho_1; clear hct_1 ho_1; have hsz := hct.size) | (at_builtin; refine wpList_append_one _ rfl (.tmp 13) (.tmp 16) rfl w.heap.size _ _ rfl (ho.alloc _) _ x rfl ?f1 ?f2 ?f3 ?_; (case f1 => (simp [go_sem])); (case f2 => omega); (case f3 => (simp; omega)); intro v1 w2 hown1 hgr hat; (have hct_1 : CT w w2 B b n cap A xs := CT.own (by (with_reducible (repeat (first | exact hct | refine CT.drew ?_ | refine CT.drewN ?_ _ | refine CT.alloc ?_ _ | refine CT.far ?_ (by first | omega | (simp; done) | (simp; omega)) _ | refine CT.below ?_ (by assumption) (by first | omega | (simp; done) | (simp; omega)))))) hgr (ho.alloc _) (Nat.le_refl _)); clear hct ho hgr hat; have hct := hct_1; have ho := hown1; clear hct_1 hown1; have hsz := hct.size))
      go_roundw
      case rel => exact ⟨k + 1, _, by go_num, by omega, ho, by simp [HL.out], hct⟩
      case measure => simp only [intOf]; omega
    · go_wp2_with (first | (go_at_call 172; refine (spec_l1Once b n cap A xs 24 _ (CT.self (w0 := w) (B := B) (by (with_reducible (repeat (first | exact hct | refine CT.drew ?_ | refine CT.drewN ?_ _ | refine CT.alloc ?_ _ | refine CT.far ?_ (by first | omega | (simp; done) | (simp; omega)) _ | refine CT.below ?_ (by assumption) (by first | omega | (simp; done) | (simp; omega)))))))).mono ?_; rintro e w1 ⟨v, rfl, ⟨q, rfl⟩, hc1⟩; have hct_1 : CT w w1 B b n cap A xs := CT.trans (by (with_reducible (repeat (first | exact hct | refine CT.drew ?_ | refine CT.drewN ?_ _ | refine CT.alloc ?_ _ | refine CT.far ?_ (by first | omega | (simp; done) | (simp; omega)) _ | refine CT.below ?_ (by assumption) (by first | omega | (simp; done) | (simp; omega)))))) hc1; (first | have ho_1 := OR.turned ho hc1 hb | have ho_1 := OR.turned (OR.alloc ho _) hc1 hb | have ho_1 := OR.turned (OR.drew ho) hc1 hb); clear hct ho hc1; have hct := hct_1; have ho := ho_1; clear hct_1 ho_1; have hsz := hct.size) | (at_builtin; refine wpList_append_one _ rfl (.tmp 20) (.tmp 21) rfl w.heap.size _ _ rfl (ho.alloc _) _ 1 rfl ?f1 ?f2 ?f3 ?_; (case f1 => (simp [go_sem])); (case f2 => omega); (case f3 => (simp; omega)); intro v1 w2 hown1 hgr hat; (have hct_1 : CT w w2 B b n cap A xs := CT.own (by (with_reducible (repeat (first | exact hct | refine CT.drew ?_ | refine CT.drewN ?_ _ | refine CT.alloc ?_ _ | refine CT.far ?_ (by first | omega | (simp; done) | (simp; omega)) _ | refine CT.below ?_ (by assumption) (by first | omega | (simp; done) | (simp; omega)))))) hgr (ho.alloc _) (Nat.le_refl _)); clear hct ho hgr hat; have hct := hct_1; have ho := hown1; clear hct_1 hown1; have hsz := hct.size))
      all_goals go_ret
      all_goals exact ⟨_, rfl, OIs.mk ho (by have := HL.out; first | omega | (simp; omega)), by (with_reducible (repeat (first | exact hct | refine CT.drew ?_ | refine CT.drewN ?_ _ | refine CT.alloc ?_ _ | refine CT.far ?_ (by first | omega | (simp; done) | (simp; omega)) _ | refine CT.below ?_ (by assumption) (by first | omega | (simp; done) | (simp; omega)))))⟩
end Go.Proofs.Ytmcbhpaajjlmmaa

/-
  DERIVED. What SmithForm of both answers: three matrices and a flag.
-/
namespace Go.Proofs.Ytmcbhpaajjlmmaa
open Go.RowKit
set_option linter.unusedVariables false
def sfDO (r c : Int) : Option SS → Mx
  | some s => ⟨r, c, tb r.toNat c.toNat s.f⟩
  | none => .none
def sfUO (r : Int) : Option SS → Mx
  | some s => ⟨r, r, tb r.toNat r.toNat s.g⟩
  | none => .none
def sfVO (c : Int) : Option SS → Mx
  | some s => ⟨c, c, tb c.toNat c.toNat s.h⟩
  | none => .none
/-- The call returned three matrices, their cells their own, and the flag. -/
def M3R (m m' m'' : Mx) (b : Bool) (w : World) (e : Ending) (w' : World) : Prop :=
  ∃ A n cap A2 n2 cap2 A3 n3 cap3, e = .returned (.tuple #[.agg #[.int .i64 m.r, .int .i64 m.c, .slice A n cap], .agg #[.int .i64 m'.r, .int .i64 m'.c, .slice A2 n2 cap2], .agg #[.int .i64 m''.r, .int .i64 m''.c, .slice A3 n3 cap3], .bool b]) ∧
    OR w' w.heap.size (.slice A n cap) m.xs ∧ OR w' w.heap.size (.slice A2 n2 cap2) m'.xs ∧ OR w' w.heap.size (.slice A3 n3 cap3) m''.xs ∧ Apart (.slice A n cap) (.slice A2 n2 cap2) ∧ Apart (.slice A n cap) (.slice A3 n3 cap3) ∧ Apart (.slice A2 n2 cap2) (.slice A3 n3 cap3) ∧ Below w.heap.size w w'
theorem apart_nil {v : Value} : Apart (.slice none 0 0) v := by
  intro g h1
  simp [Value.ownBlock] at h1
theorem M3R.none_ {r c : Int} {X : Option SS} {w w' : World} (hX : X = none) (hb : Below w.heap.size w w') :
    M3R (sfDO r c X) (sfUO r X) (sfVO c X) X.isSome w (.returned (.tuple #[.agg #[.int .i64 0, .int .i64 0, .slice none 0 0], .agg #[.int .i64 0, .int .i64 0, .slice none 0 0], .agg #[.int .i64 0, .int .i64 0, .slice none 0 0], .bool false])) w' := by
  subst hX
  exact ⟨none, 0, 0, none, 0, 0, none, 0, 0, rfl, OR.nil_ _ _, OR.nil_ _ _, OR.nil_ _ _, apart_nil, apart_nil, apart_nil, hb⟩
theorem M3R.some_ {R C : Nat} {s : SS} {X : Option SS} {w w' : World} {A A2 A3 : Option Addr} {n cap n2 cap2 n3 cap3 : Nat} (hX : X = some s) (h1 : OR w' w.heap.size (.slice A n cap) (tb R C s.f)) (h2 : OR w' w.heap.size (.slice A2 n2 cap2) (tb R R s.g)) (h3 : OR w' w.heap.size (.slice A3 n3 cap3) (tb C C s.h))
    (ha : Apart (.slice A n cap) (.slice A2 n2 cap2)) (ha2 : Apart (.slice A n cap) (.slice A3 n3 cap3)) (ha3 : Apart (.slice A2 n2 cap2) (.slice A3 n3 cap3)) (hb : Below w.heap.size w w') :
    M3R (sfDO R C X) (sfUO R X) (sfVO C X) X.isSome w (.returned (.tuple #[.agg #[.int .i64 R, .int .i64 C, .slice A n cap], .agg #[.int .i64 R, .int .i64 R, .slice A2 n2 cap2], .agg #[.int .i64 C, .int .i64 C, .slice A3 n3 cap3], .bool true])) w' := by
  subst hX
  exact ⟨A, n, cap, A2, n2, cap2, A3, n3, cap3, rfl, h1, h2, h3, ha, ha2, ha3, hb⟩
theorem ret_M3 {fn : Func} {R : Ending → World → Prop} {a : Act} {w : World} {t t' t'' s : Tmp} {b n cap b' n' cap' b'' n'' cap'' : Nat} {r c r' c' r'' c'' : Int} {A A' A'' : Option Addr} (hr : fn.results = #[.cell t 28, .cell t' 28, .cell t'' 28, .tmp s])
    (ht : a.tmps.getD t undef = .pointer (some ⟨b, 0, none⟩)) (ht' : a.tmps.getD t' undef = .pointer (some ⟨b', 0, none⟩)) (ht'' : a.tmps.getD t'' undef = .pointer (some ⟨b'', 0, none⟩)) (h : BM w b r c A n cap) (h' : BM w b' r' c' A' n' cap') (h'' : BM w b'' r'' c'' A'' n'' cap'') (hd : a.defers = [])
    (hR : R (.returned (.tuple #[.agg #[.int .i64 r, .int .i64 c, .slice A n cap], .agg #[.int .i64 r', .int .i64 c', .slice A' n' cap'], .agg #[.int .i64 r'', .int .i64 c'', .slice A'' n'' cap''], a.tmps.getD s undef])) w) : bodyPost Try.prog fn R .ret a w :=
  bodyPost_ret (v := .tuple #[.agg #[.int .i64 r, .int .i64 c, .slice A n cap], .agg #[.int .i64 r', .int .i64 c', .slice A' n' cap'], .agg #[.int .i64 r'', .int .i64 c'', .slice A'' n'' cap''], a.tmps.getD s undef]) (by
    obtain ⟨r0, r1, r2, rf, rl⟩ := h.mx
    obtain ⟨s0, s1, s2, sf, sl⟩ := h'.mx
    obtain ⟨t0, t1, t2, tf, tl⟩ := h''.mx
    simp only [Array.getD_eq_getD_getElem?] at ht ht' ht''
    simp [results, hr, ht, ht', ht'', go_sem, r0, r1, r2, s0, s1, s2, t0, t1, t2]) hd hR
/-- The call's own variables: its argument and its three results. -/
structure HV3 (w wr : World) (r c : Int) (A : Option Addr) (n cap : Nat) : Prop where
  m : BM wr w.heap.size r c A n cap
  r1 : BM wr (w.heap.size + 1) 0 0 none 0 0
  r2 : BM wr (w.heap.size + 1 + 1) 0 0 none 0 0
  r3 : BM wr (w.heap.size + 1 + 1 + 1) 0 0 none 0 0
  b : Below w.heap.size w wr
section
variable {w wr w' : World} {r c : Int} {A : Option Addr} {n cap : Nat}
theorem HV3.lt (h : HV3 w wr r c A n cap) : w.heap.size + 1 + 1 + 1 < wr.heap.size := h.r3.lt
theorem HV3.below {D : Nat} (h : HV3 w wr r c A n cap) (hD : Below D wr w') (hs : w.heap.size + 1 + 1 + 1 + 1 ≤ D) : HV3 w w' r c A n cap :=
  ⟨h.m.below hD (by omega), h.r1.below hD (by omega), h.r2.below hD (by omega), h.r3.below hD (by omega), h.b.trans (hD.mono (by omega))⟩
theorem HV3.drew (h : HV3 w wr r c A n cap) : HV3 w wr.drew r c A n cap := ⟨h.m.drew, h.r1.drew, h.r2.drew, h.r3.drew, h.b.drew⟩
theorem HV3.b_ {w wr w' : World} {r c : Int} {A : Option Addr} {n cap D : Nat} (h : HV3 w wr r c A n cap) (hD : Below D wr w' := by assumption) (hs : w.heap.size + 1 + 1 + 1 + 1 ≤ D := by first | omega | (simp; done) | (simp; omega)) : HV3 w w' r c A n cap := HV3.below h hD hs
theorem HV3.drewN (h : HV3 w wr r c A n cap) (q : Nat) : HV3 w (wr.drewN q) r c A n cap := ⟨h.m.drewN q, h.r1.drewN q, h.r2.drewN q, h.r3.drewN q, below_drewN h.b q⟩
theorem HV3.alloc (h : HV3 w wr r c A n cap) (o : Obj) : HV3 w (wr.alloc o) r c A n cap :=
  have hl := h.lt
  ⟨h.m.alloc o, h.r1.alloc o, h.r2.alloc o, h.r3.alloc o, Below.alloc h.b (by omega) o⟩
end
/-- A Smith form that came to be has numbers only. -/
theorem rnd_gd {R C t p q : Nat} {s : SS} (h : SGD R C s) (e : ls2 R C s.f t = ((p : Int), (q : Int))) (hp : p < R) (hq : q < C) (ht : t < R) (htC : t < C) (hk : (rnd R C t s).1.OK R C) : SGD R C (rnd R C t s).1 := by
  refine ⟨hk, ?_⟩
  have hA : SGD R C (sfA R C t s) := by
    unfold sfA
    rw [e]
    exact (h.a1 hp ht).a2 hq htC
  exact sfD_nb (sfC_nb (sfB_nb hA.nb))
theorem sfIn_gd {R C t : Nat} (ht : t < R) (htC : t < C) : ∀ (k : Nat) (s : SS), sfMs R C t s ≤ k → SGD R C s → ¬ (ls2 R C s.f t).1 < 0 → ∀ s', sfIn R C t s = some s' → SGD R C s' := by
  intro k
  induction k with
  | zero =>
    intro s hk hg hn s' he
    rcases ls2_cases R C s.f t with ⟨e, _⟩ | ⟨p, q, e, ⟨a1, a2, a3, a4⟩, h3, h4, h5⟩
    · rw [e] at hn; exact absurd (by decide) hn
    · have hV : lsV R C t s = (s.f p q).natAbs := by unfold lsV; rw [e]; rfl
      unfold sfMs at hk
      omega
  | succ k ih =>
    intro s hk hg hn s' he
    rcases ls2_cases R C s.f t with ⟨e, _⟩ | ⟨p, q, e, ⟨a1, a2, a3, a4⟩, h3, h4, h5⟩
    · rw [e] at hn; exact absurd (by decide) hn
    · rw [sfIn] at he
      have hA : SGD R C (sfA R C t s) := by
        unfold sfA
        rw [e]
        exact (hg.a1 a2 ht).a2 a4 htC
      have hnb : (rnd R C t s).1.NBS := sfD_nb (sfC_nb (sfB_nb hA.nb))
      split at he
      · rename_i hok
        have hk' := (SS.ok_iff hnb).1 hok
        split at he
        · cases he
          exact rnd_gd hg e a2 a4 ht htC hk'
        · rename_i hd
          split at he
          · rename_i hlt
            obtain ⟨_, hne⟩ := rnd_lt hg ht htC e a2 a4 h3 (h5 ht htC) hk' (by simpa using hd)
            refine ih _ (by omega) (rnd_gd hg e a2 a4 ht htC hk') ?_ s' he
            obtain ⟨p2, q2, e2, _⟩ := ls2_some (R := R) (C := C) (Nat.le_refl t) ht (Nat.le_refl t) htC hne
            rw [e2]
            dsimp only
            omega
          · cases he
      · cases he
theorem sfOut_gd {R C : Nat} : ∀ (m t : Nat) (s s' : SS), t + m ≤ R → t + m ≤ C → SGD R C s → sfOut R C m t s = some s' → SGD R C s'
  | 0, t, s, s', _, _, hg, he => by cases he; exact hg
  | m + 1, t, s, s', h1, h2, hg, he => by
    by_cases hn : (ls2 R C s.f t).1 < 0
    · rw [sfOut_stop hn] at he; cases he; exact hg
    · rw [sfOut_go hn] at he
      unfold sfGo at he
      rcases hi : sfIn R C t s with _ | s2
      · rw [hi] at he; cases he
      · rw [hi] at he
        exact sfOut_gd m (t + 1) (sfN t s2) s' (by omega) (by omega) ((sfIn_gd (by omega) (by omega) _ s (Nat.le_refl _) hg hn s2 hi).n (by omega)) he
theorem idF_ok (R C : Nat) : OKF R C idF := by
  intro i j _ _
  unfold idF Num
  split <;> omega
theorem idF_nb : NBF idF := by
  intro i j
  refine .inr ?_
  unfold idF
  split <;> omega
theorem sfX_gd {R C : Nat} {xs : List Int} {s : SS} (h : sfX R C xs = some s) : isMat R C xs = true ∧ R ≤ 24 ∧ C ≤ 24 ∧ SGD R C s := by
  rcases hm : isMat (R : Int) (C : Int) xs with _ | _
  · rw [sfX_no hm] at h; cases h
  · rw [sfX_yes hm] at h
    have M := isMat_iff.1 hm
    have hs := start_gd (R := R) (C := C) M.num
    refine ⟨rfl, by have := M.r1; omega, by have := M.c1; omega, sfOut_gd _ _ _ _ (by omega) (by omega) ⟨⟨hs.ok.f, hs.ok.g, idF_ok C C⟩, ⟨hs.nb.f, hs.nb.g, idF_nb⟩⟩ h⟩
end Go.Proofs.Ytmcbhpaajjlmmaa

/-
  DERIVED. IsSolution of the program.
-/
namespace Go.Proofs.Ytmcbhpaajjlmmaa
open Go.RowKit
set_option linter.unusedVariables false
set_option linter.unusedSimpArgs false
set_option maxRecDepth 100000 in
set_option maxHeartbeats 4000000 in
theorem impl_IsSolution (r c : Int) (A A2 A3 : Option Addr) (n cap n2 cap2 n3 cap3 : Nat) (xs b x : List Int) (w : World) {B B2 B3' : Nat} (h : RI w B A n xs) (h2 : RI w B2 A2 n2 b) (h3 : RI w B3' A3 n3 x) (hB : B ≤ w.heap.size) (hB2 : B2 ≤ w.heap.size) (hB3 : B3' ≤ w.heap.size)
    (hn : n ≤ 1048576) (hn2 : n2 ≤ 1048576) (hn3 : n3 ≤ 1048576) :
    Calls Try.prog 34 #[.agg #[.int .i64 r, .int .i64 c, .slice A n cap], .slice A2 n2 cap2, .slice A3 n3 cap3] w (BV (.bool (solB r c xs b x)) w) := by
  have hl3 := h3.len
  have H1 := Lib.hid (h.more hB)
  have H2 := Lib.hid (h2.more hB2)
  have H3 := Lib.hid (h3.more hB3)
  have HE : Hid (solB r c xs b x = (mulB r c xs n3 1 x && eqB (mulM r c xs n3 1 x).xs b)) := Lib.hid (by rw [← hl3]; rfl)
  have hml := mulM_len r c xs n3 1 x
  clear h h2 h3 hB hB2 hB3 hl3
  rw [HE.out]
  rcases hres : mulB r c xs n3 1 x with _ | _
  · rw [Bool.false_and]
    have HRES := Lib.hid hres
    clear hres
    go_enter Try.func34, Try.ntmps34
    go_wp2_with fail
    have hA : BM (w.alloc (.cells #[.int .i64 r, .int .i64 c, .slice A n cap] 28)) w.heap.size r c A n cap := by (with_reducible (repeat (first | assumption | refine BX.n_ | refine BX.b_ ?_ | apply BX.drew | apply BX.drewN | refine BX.put ?_ | refine BX.put2 ?_ | refine BX.f_ ?_ | apply BX.alloc | refine B3.n_ | refine B3.of (by assumption) | refine B3.b_ ?_ | apply B3.drew | apply B3.drewN | refine B3.f_ ?_ | apply B3.alloc)))
    go_region_held3 (fun w' => w'.cell? ⟨w.heap.size, 0, none⟩ = some (.int .i64 r) ∧ w'.cell? ⟨w.heap.size, 1, none⟩ = some (.int .i64 c) ∧ w'.cell? ⟨w.heap.size, 2, none⟩ = some (.slice A n cap)) (first | go_keep | (simp [go_sem]; done)) (first | (go_at_call 92; refine (impl_columnOf A3 n3 cap3 x _ (B := w.heap.size) (by (with_reducible (repeat (first | exact H3.out | refine RI.drew ?_ | refine RI.drewN ?_ _ | refine RI.a_ ?_ | refine RI.s_ ?_ | refine RI.b_ ?_)))) (by first | omega | (simp; done) | (simp; omega)) hn3).mono ?_; rintro e w1 ⟨Ac, nc, cc, rfl, hc, hb1⟩; have hs1 := hb1.size; (try simp at hs1); have hnc : nc ≤ 1048576 := (by have h8 : nc = x.length := hc.lenEq; have h9 := H3.out.len; omega); have hA1 : BM w1 w.heap.size r c A n cap := (by (with_reducible (repeat (first | exact hA | refine BX.n_ | refine BX.b_ ?_ | apply BX.drew | apply BX.drewN | refine BX.put ?_ | refine BX.put2 ?_ | refine BX.f_ ?_ | apply BX.alloc | refine B3.n_ | exact B3.of hA | refine B3.b_ ?_ | apply B3.drew | apply B3.drewN | refine B3.f_ ?_ | apply B3.alloc)))); have hbw1 : Below w.heap.size w w1 := (by (repeat (first | (with_reducible (first | exact Below.refl _ _ | assumption | refine below_drewN ?_ _ | refine Below.drew ?_ | refine Below.alloc ?_ ?_ _ | refine Below.setCell ?_ ?_ _ | refine below_i ?_)) | go_size))); have HC := Lib.hid hc.reads; have ne1 : ¬ (w1.heap.size = w.heap.size) := (by have h7 := hA1.lt; omega); have ne0 : ¬ (w.heap.size + 1 = w.heap.size) := (by omega); (first | (have hz1 : B3 28 w1 (w.heap.size + 1) := B3.below (B3.drew (B3.new _ _ _ _ _ _ (by simp))) hb1 (by first | omega | (simp; done) | (simp; omega)); obtain ⟨x0, x1, x2, hx⟩ := id hz1; have z0 := hx.cell 0; have z1 := hx.cell 1; have z2 := hx.cell 2; have zf := hx.frozen; have zl := hx.lt; simp at z0 z1 z2) | skip); obtain ⟨aa, ab, ac, af, al⟩ := hA1.mx) | (go_at_call 32; refine (impl_MultiplyMatrices r c n3 1 A Ac n cap nc cc xs x _ (B := w.heap.size) (B' := w1.heap.size) (by (with_reducible (repeat (first | exact H1.out | refine RI.drew ?_ | refine RI.drewN ?_ _ | refine RI.a_ ?_ | refine RI.s_ ?_ | refine RI.b_ ?_)))) (by (with_reducible (repeat (first | exact HC.out | refine RI.drew ?_ | refine RI.drewN ?_ _ | refine RI.a_ ?_ | refine RI.s_ ?_ | refine RI.b_ ?_)))) (by first | omega | (simp; done) | (simp; omega)) (by first | omega | (simp; done) | (simp; omega)) hn hnc).mono ?_; rw [HRES.out]; rintro e w2 ⟨Ar, nr, cr, rfl, ho, hb2⟩; have hs2 := hb2.size; (try simp at hs2); have hA2 : BM w2 w.heap.size r c A n cap := (by (with_reducible (repeat (first | exact hA1 | refine BX.n_ | refine BX.b_ ?_ | apply BX.drew | apply BX.drewN | refine BX.put ?_ | refine BX.put2 ?_ | refine BX.f_ ?_ | apply BX.alloc | refine B3.n_ | exact B3.of hA1 | refine B3.b_ ?_ | apply B3.drew | apply B3.drewN | refine B3.f_ ?_ | apply B3.alloc)))); have hbw2 : Below w.heap.size w w2 := (by (repeat (first | (with_reducible (first | exact Below.refl _ _ | assumption | refine below_drewN ?_ _ | refine Below.drew ?_ | refine Below.alloc ?_ ?_ _ | refine Below.setCell ?_ ?_ _ | refine below_i ?_)) | go_size))); obtain ⟨ba, bb, bc, bf, bl⟩ := hA2.mx; have ne2 : ¬ (w2.heap.size = w.heap.size) := (by omega); (first | (have hz2 : B3 28 w2 (w.heap.size + 1) := (by exact B3.below hz1 hb2 (by first | omega | (simp; done) | (simp; omega))); clear z0 z1 z2 zf zl; obtain ⟨x0, x1, x2, hx⟩ := hz2; have z0 := hx.cell 0; have z1 := hx.cell 1; have z2 := hx.cell 2; have zf := hx.frozen; have zl := hx.lt; simp at z0 z1 z2) | (have hz2 : B3 28 w2 w1.heap.size := B3.below (B3.new _ _ _ _ _ _ rfl) hb2 (by first | omega | (simp; done) | (simp; omega)); obtain ⟨x0, x1, x2, hx⟩ := hz2; have z0 := hx.cell 0; have z1 := hx.cell 1; have z2 := hx.cell 2; have zf := hx.frozen; have zl := hx.lt; simp at z0 z1 z2) | skip)))
    all_goals go_wp2
    all_goals go_ret
    all_goals exact BV.mk rfl (by (repeat (first | (with_reducible (first | exact Below.refl _ _ | assumption | refine below_drewN ?_ _ | refine Below.drew ?_ | refine Below.alloc ?_ ?_ _ | refine Below.setCell ?_ ?_ _ | refine below_i ?_)) | go_size)))
  · rw [Bool.true_and]
    have HRES := Lib.hid hres
    clear hres
    go_enter Try.func34, Try.ntmps34
    go_wp2_with fail
    have hA : BM (w.alloc (.cells #[.int .i64 r, .int .i64 c, .slice A n cap] 28)) w.heap.size r c A n cap := by (with_reducible (repeat (first | assumption | refine BX.n_ | refine BX.b_ ?_ | apply BX.drew | apply BX.drewN | refine BX.put ?_ | refine BX.put2 ?_ | refine BX.f_ ?_ | apply BX.alloc | refine B3.n_ | refine B3.of (by assumption) | refine B3.b_ ?_ | apply B3.drew | apply B3.drewN | refine B3.f_ ?_ | apply B3.alloc)))
    go_region_held3 (fun w' => w'.cell? ⟨w.heap.size, 0, none⟩ = some (.int .i64 r) ∧ w'.cell? ⟨w.heap.size, 1, none⟩ = some (.int .i64 c) ∧ w'.cell? ⟨w.heap.size, 2, none⟩ = some (.slice A n cap)) (first | go_keep | (simp [go_sem]; done)) (first | (go_at_call 92; refine (impl_columnOf A3 n3 cap3 x _ (B := w.heap.size) (by (with_reducible (repeat (first | exact H3.out | refine RI.drew ?_ | refine RI.drewN ?_ _ | refine RI.a_ ?_ | refine RI.s_ ?_ | refine RI.b_ ?_)))) (by first | omega | (simp; done) | (simp; omega)) hn3).mono ?_; rintro e w1 ⟨Ac, nc, cc, rfl, hc, hb1⟩; have hs1 := hb1.size; (try simp at hs1); have hnc : nc ≤ 1048576 := (by have h8 : nc = x.length := hc.lenEq; have h9 := H3.out.len; omega); have hA1 : BM w1 w.heap.size r c A n cap := (by (with_reducible (repeat (first | exact hA | refine BX.n_ | refine BX.b_ ?_ | apply BX.drew | apply BX.drewN | refine BX.put ?_ | refine BX.put2 ?_ | refine BX.f_ ?_ | apply BX.alloc | refine B3.n_ | exact B3.of hA | refine B3.b_ ?_ | apply B3.drew | apply B3.drewN | refine B3.f_ ?_ | apply B3.alloc)))); have hbw1 : Below w.heap.size w w1 := (by (repeat (first | (with_reducible (first | exact Below.refl _ _ | assumption | refine below_drewN ?_ _ | refine Below.drew ?_ | refine Below.alloc ?_ ?_ _ | refine Below.setCell ?_ ?_ _ | refine below_i ?_)) | go_size))); have HC := Lib.hid hc.reads; have ne1 : ¬ (w1.heap.size = w.heap.size) := (by have h7 := hA1.lt; omega); have ne0 : ¬ (w.heap.size + 1 = w.heap.size) := (by omega); (first | (have hz1 : B3 28 w1 (w.heap.size + 1) := B3.below (B3.drew (B3.new _ _ _ _ _ _ (by simp))) hb1 (by first | omega | (simp; done) | (simp; omega)); obtain ⟨x0, x1, x2, hx⟩ := id hz1; have z0 := hx.cell 0; have z1 := hx.cell 1; have z2 := hx.cell 2; have zf := hx.frozen; have zl := hx.lt; simp at z0 z1 z2) | skip); obtain ⟨aa, ab, ac, af, al⟩ := hA1.mx) | (go_at_call 32; refine (impl_MultiplyMatrices r c n3 1 A Ac n cap nc cc xs x _ (B := w.heap.size) (B' := w1.heap.size) (by (with_reducible (repeat (first | exact H1.out | refine RI.drew ?_ | refine RI.drewN ?_ _ | refine RI.a_ ?_ | refine RI.s_ ?_ | refine RI.b_ ?_)))) (by (with_reducible (repeat (first | exact HC.out | refine RI.drew ?_ | refine RI.drewN ?_ _ | refine RI.a_ ?_ | refine RI.s_ ?_ | refine RI.b_ ?_)))) (by first | omega | (simp; done) | (simp; omega)) (by first | omega | (simp; done) | (simp; omega)) hn hnc).mono ?_; rw [HRES.out]; rintro e w2 ⟨Ar, nr, cr, rfl, ho, hb2⟩; have hs2 := hb2.size; (try simp at hs2); have hA2 : BM w2 w.heap.size r c A n cap := (by (with_reducible (repeat (first | exact hA1 | refine BX.n_ | refine BX.b_ ?_ | apply BX.drew | apply BX.drewN | refine BX.put ?_ | refine BX.put2 ?_ | refine BX.f_ ?_ | apply BX.alloc | refine B3.n_ | exact B3.of hA1 | refine B3.b_ ?_ | apply B3.drew | apply B3.drewN | refine B3.f_ ?_ | apply B3.alloc)))); have hbw2 : Below w.heap.size w w2 := (by (repeat (first | (with_reducible (first | exact Below.refl _ _ | assumption | refine below_drewN ?_ _ | refine Below.drew ?_ | refine Below.alloc ?_ ?_ _ | refine Below.setCell ?_ ?_ _ | refine below_i ?_)) | go_size))); obtain ⟨ba, bb, bc, bf, bl⟩ := hA2.mx; have ne2 : ¬ (w2.heap.size = w.heap.size) := (by omega); (first | (have hz2 : B3 28 w2 (w.heap.size + 1) := (by exact B3.below hz1 hb2 (by first | omega | (simp; done) | (simp; omega))); clear z0 z1 z2 zf zl; obtain ⟨x0, x1, x2, hx⟩ := hz2; have z0 := hx.cell 0; have z1 := hx.cell 1; have z2 := hx.cell 2; have zf := hx.frozen; have zl := hx.lt; simp at z0 z1 z2) | (have hz2 : B3 28 w2 w1.heap.size := B3.below (B3.new _ _ _ _ _ _ rfl) hb2 (by first | omega | (simp; done) | (simp; omega)); obtain ⟨x0, x1, x2, hx⟩ := hz2; have z0 := hx.cell 0; have z1 := hx.cell 1; have z2 := hx.cell 2; have zf := hx.frozen; have zl := hx.lt; simp at z0 z1 z2) | skip)))
    all_goals
      have hnr : nr ≤ 576 := by have h8 := ho.lenEq; omega
      have hl2 := H2.out.len
      have hn2' : n2 ≤ 1048576 := hn2
      clear hl2
      go_wp2_with fail
      refine (impl_sameInts Ar A2 nr n2 cr cap2 (mulM r c xs n3 1 x).xs b _ (C' := w.heap.size) (by first | exact OR.reads (OR.alloc ho _) | exact OR.reads (OR.low (OR.low (OR.low ho (by first | omega | (simp; done) | (simp; omega)) _) (by first | omega | (simp; done) | (simp; omega)) _) (by first | omega | (simp; done) | (simp; omega)) _)) (by (with_reducible (repeat (first | exact H2.out | refine RI.drew ?_ | refine RI.drewN ?_ _ | refine RI.a_ ?_ | refine RI.s_ ?_ | refine RI.b_ ?_)))) (by omega) (by omega)).mono ?_
      rintro e w' ⟨rfl, nd, rfl⟩
      go_wp2_with fail
      go_ret
      exact BV.mk rfl (by (repeat (first | (with_reducible (first | exact Below.refl _ _ | assumption | refine below_drewN ?_ _ | refine Below.drew ?_ | refine Below.alloc ?_ ?_ _ | refine Below.setCell ?_ ?_ _ | refine below_i ?_)) | go_size)))
end Go.Proofs.Ytmcbhpaajjlmmaa

/-
  DERIVED. FactorsOf of both.
-/
namespace Go.Proofs.Ytmcbhpaajjlmmaa
open Go.RowKit
set_option linter.unusedVariables false
set_option linter.unusedSimpArgs false
theorem OR.shapeF {w : World} {B : Nat} {v : Value} {xs : List Int} (h : OR w B v xs) : ∃ A c, v = .slice A xs.length c := by
  rcases h.form with ⟨h1, h2⟩ | ⟨g, cap, h1, _⟩
  · subst h2; exact ⟨none, 0, h1⟩
  · exact ⟨_, _, h1⟩
/-- A number of the diagonal; 0 beyond it. -/
def dgF (R C : Nat) (f : Fn2) (i : Nat) : Int := if i < R ∧ i < C then f i i else 0
theorem dgF_in {R C i : Nat} {f : Fn2} (h : i < R) (h2 : i < C) : dgF R C f i = f i i := by unfold dgF; rw [if_pos ⟨h, h2⟩]
theorem dgF_out {R C i : Nat} {f : Fn2} (h : ¬ (i < R ∧ i < C)) : dgF R C f i = 0 := by unfold dgF; rw [if_neg h]
theorem dgF_num {R C i : Nat} {f : Fn2} (h : OKF R C f) : Num (dgF R C f i) := by
  unfold dgF
  split
  · rename_i h2; exact h i i h2.1 h2.2
  · unfold Num; omega
def facK (d : Nat → Int) : Nat → List Int
  | 0 => []
  | n + 1 => facK d n ++ (if d n = 0 then [] else [d n])
theorem facK_skip {d : Nat → Int} {n : Nat} (h : d n = 0) : facK d (n + 1) = facK d n := by
  show facK d n ++ (if _ then _ else _) = _
  rw [if_pos h, List.append_nil]
theorem facK_add {d : Nat → Int} {n : Nat} (h : d n ≠ 0) : facK d (n + 1) = facK d n ++ [d n] := by
  show facK d n ++ (if _ then _ else _) = _
  rw [if_neg h]
theorem facK_len (d : Nat → Int) : ∀ n, (facK d n).length ≤ n
  | 0 => Nat.le_refl _
  | n + 1 => by
    have := facK_len d n
    by_cases h : d n = 0
    · rw [facK_skip h]; omega
    · rw [facK_add h, List.length_append, List.length_singleton]; omega
theorem facK_beyond {d : Nat → Int} {m : Nat} (h : ∀ i, m ≤ i → d i = 0) : ∀ k, facK d (m + k) = facK d m
  | 0 => rfl
  | k + 1 => by rw [show m + (k + 1) = m + k + 1 by omega, facK_skip (h _ (by omega)), facK_beyond h k]
def facO (r c : Int) : Option SS → List Int
  | some s => facK (dgF r.toNat c.toNat s.f) (min r.toNat c.toNat)
  | none => []
def facV (r c : Int) (xs : List Int) : List Int := facO r c (sfX r c xs)
theorem facO_rows (R C : Nat) (s : SS) : facO R C (some s) = facK (dgF R C s.f) R := by
  show facK (dgF R C s.f) (min R C) = _
  have := facK_beyond (d := dgF R C s.f) (m := min R C) (fun i hi => dgF_out (by omega)) (R - min R C)
  rw [show min R C + (R - min R C) = R by omega] at this
  exact this.symm
theorem facV_len (r c : Int) (xs : List Int) : (facV r c xs).length ≤ 1048576 := by
  unfold facV
  rcases h : sfX r c xs with _ | s
  · exact Nat.zero_le _
  · rcases hm : isMat r c xs with _ | _
    · rw [sfX_no hm] at h; cases h
    · have M := isMat_iff.1 hm
      have h1 := facK_len (dgF r.toNat c.toNat s.f) (min r.toNat c.toNat)
      have := M.r1
      show (facK _ _).length ≤ _
      omega
theorem impl_diagonal (R C i : Nat) (A : Option Addr) (n cap : Nat) (f : Fn2) (w : World) {B : Nat} (h : OR w B (.slice A n cap) (tb R C f)) (hi : i ≤ 100) (hR : R ≤ 24) (hC : C ≤ 24) :
    Calls Try.prog 91 #[.agg #[.int .i64 R, .int .i64 C, .slice A n cap], .int .i64 i] w (BV (.int .i64 (dgF R C f i)) w) := by
  by_cases h1 : i < R
  · by_cases h2 : i < C
    · rw [dgF_in h1 h2]
      generalize hv : f i i = v
      have HV := Lib.hid hv
      clear hv
      go_enter Try.func91, Try.ntmps91
      go_wp2_with fail
      refine (impl_at_tb R C i i A n cap f v HV.out _ (B := B) (by (with_reducible (repeat (first | exact h | refine OR.drew ?_ | refine OR.drewN ?_ _ | refine OR.alloc ?_ _ | refine OR.b_ ?_ | refine OR.l_ ?_)))) (by omega) (by omega) h1 h2).mono ?_
      rintro e w1 ⟨rfl, hb1⟩
      go_wp2_with fail
      go_ret
      exact BV.mk rfl (by (repeat (first | (with_reducible (first | exact Below.refl _ _ | assumption | refine below_drewN ?_ _ | refine Below.drew ?_ | refine Below.alloc ?_ ?_ _ | refine Below.setCell ?_ ?_ _ | refine below_i ?_)) | go_size)))
    · rw [dgF_out (by omega)]
      go_enter Try.func91, Try.ntmps91
      go_wp2_with fail
      go_ret
      exact BV.mk rfl (by (repeat (first | (with_reducible (first | exact Below.refl _ _ | assumption | refine below_drewN ?_ _ | refine Below.drew ?_ | refine Below.alloc ?_ ?_ _ | refine Below.setCell ?_ ?_ _ | refine below_i ?_)) | go_size)))
  · rw [dgF_out (by omega)]
    go_enter Try.func91, Try.ntmps91
    go_wp2_with fail
    go_ret
    exact BV.mk rfl (by (repeat (first | (with_reducible (first | exact Below.refl _ _ | assumption | refine below_drewN ?_ _ | refine Below.drew ?_ | refine Below.alloc ?_ ?_ _ | refine Below.setCell ?_ ?_ _ | refine below_i ?_)) | go_size)))
end Go.Proofs.Ytmcbhpaajjlmmaa

/-
  DERIVED. What SolveInteger and RefuteInteger answer: no program in sight.
-/
namespace Go.Proofs.Ytmcbhpaajjlmmaa
set_option linter.unusedVariables false
theorem dropF_cons {xs : List Int} {k : Nat} (h : k < xs.length) : xs.drop k = xs.getD k 0 :: xs.drop (k + 1) := by
  rw [List.drop_eq_getElem_cons h]
  simp [List.getD, h]
/-- The first place whose number is no multiple. -/
def fwF (d : Nat → Int) : Nat → List Int → Option Nat
  | _, [] => none
  | k, x :: l => if d k ∣ x then fwF d (k + 1) l else some k
def fwV : Option Nat → Int
  | none => -1
  | some k => k
theorem fwF_yes {d : Nat → Int} {cs : List Int} {k : Nat} (hk : k < cs.length) (h : d k ∣ cs.getD k 0) : fwF d k (cs.drop k) = fwF d (k + 1) (cs.drop (k + 1)) := by
  rw [dropF_cons hk]
  show (if _ then _ else _) = _
  rw [if_pos h]
theorem fwF_no {d : Nat → Int} {cs : List Int} {k : Nat} (hk : k < cs.length) (h : ¬ d k ∣ cs.getD k 0) : fwF d k (cs.drop k) = some k := by
  rw [dropF_cons hk]
  show (if _ then _ else _) = _
  rw [if_neg h]
theorem fwF_end {d : Nat → Int} {cs : List Int} {k : Nat} (hk : cs.length ≤ k) : fwF d k (cs.drop k) = none := by
  rw [List.drop_of_length_le hk]; rfl
theorem fwF_none {d : Nat → Int} : ∀ (cs : List Int) (k : Nat), fwF d k cs = none → ∀ i, i < cs.length → d (k + i) ∣ cs.getD i 0
  | [], k, _, i, hi => absurd hi (Nat.not_lt_zero _)
  | x :: l, k, h, i, hi => by
    have h' : (if d k ∣ x then fwF d (k + 1) l else some k) = none := h
    split at h'
    · rename_i hd
      match i, hi with
      | 0, _ => simpa using hd
      | i + 1, hi =>
        have := fwF_none l (k + 1) h' i (by simpa using hi)
        rw [show k + (i + 1) = k + 1 + i by omega]
        simpa using this
    · cases h'
theorem fwF_some {d : Nat → Int} : ∀ (cs : List Int) (k q : Nat), fwF d k cs = some q → k ≤ q ∧ q < k + cs.length ∧ ¬ d q ∣ cs.getD (q - k) 0
  | [], k, q, h => by cases h
  | x :: l, k, q, h => by
    have h' : (if d k ∣ x then fwF d (k + 1) l else some k) = some q := h
    split at h'
    · obtain ⟨a, b, c⟩ := fwF_some l (k + 1) q h'
      refine ⟨by omega, by simp; omega, ?_⟩
      rw [show q - k = (q - (k + 1)) + 1 by omega]
      simpa using c
    · rename_i hd
      cases h'
      exact ⟨Nat.le_refl _, by simp, by rw [Nat.sub_self]; simpa using hd⟩
/-- The Smith form and the right side that belongs to it. -/
def siS (r c : Int) (xs bs : List Int) : Option (SS × List Int) := (sfX r c xs).bind fun s => if (bs.length : Int) = r ∧ mulB r r (tb r.toNat r.toNat s.g) bs.length 1 bs = true then some (s, mulL (tb r.toNat r.toNat s.g) r.toNat r.toNat bs 1) else none
/-- The image of the solution under the Smith form. -/
def siY (R C : Nat) (s : SS) (cs : List Int) : List Int := tab C fun i => (cs.getD i 0).tdiv (dgF R C s.f i)
def siR (r c : Int) (xs bs : List Int) : List Int × Int :=
  match siS r c xs bs with
  | none => ([], 2)
  | some (s, cs) =>
    match fwF (dgF r.toNat c.toNat s.f) 0 cs with
    | some _ => ([], 1)
    | none => if mulB c c (tb c.toNat c.toNat s.h) c 1 (siY r.toNat c.toNat s cs) then ((mulM c c (tb c.toNat c.toNat s.h) c 1 (siY r.toNat c.toNat s cs)).xs, 0) else ([], 2)
/-- The number that a refutation divides by. -/
def riN (d x : Int) : Int := if d = 0 then 2 * x else d
/-- The ratios of row k over n. -/
def riL (R : Nat) (g : Fn2) (k : Nat) (n : Int) : Nat → List Int
  | 0 => []
  | j + 1 => riL R g k n j ++ [(lowR (g k j) n).1, (lowR (g k j) n).2]
theorem riL_len (R : Nat) (g : Fn2) (k : Nat) (n : Int) : ∀ j, (riL R g k n j).length = j * 2
  | 0 => rfl
  | j + 1 => by
    show (riL R g k n j ++ [_, _]).length = _
    rw [List.length_append, riL_len R g k n j]
    simp; omega
def riR (r c : Int) (xs bs : List Int) : Nat × List Int × Int :=
  match siS r c xs bs with
  | none => (0, [], 2)
  | some (s, cs) =>
    match fwF (dgF r.toNat c.toNat s.f) 0 cs with
    | none => (0, [], 1)
    | some k => if isNum (riN (dgF r.toNat c.toNat s.f k) (cs.getD k 0)) then (r.toNat, riL r.toNat s.g k (riN (dgF r.toNat c.toNat s.f k) (cs.getD k 0)) r.toNat, 0) else (0, [], 2)
theorem siS_some {R C : Nat} {xs bs : List Int} {s : SS} {cs : List Int} (h : siS R C xs bs = some (s, cs)) :
    sfX R C xs = some s ∧ bs.length = R ∧ mulB R R (tb R R s.g) bs.length 1 bs = true ∧ cs = mulL (tb R R s.g) R R bs 1 := by
  unfold siS at h
  rcases hx : sfX R C xs with _ | s'
  · rw [hx] at h; cases h
  · rw [hx] at h
    simp only [Option.bind_some, Int.toNat_natCast] at h
    split at h
    · rename_i hc
      cases h
      exact ⟨rfl, by omega, hc.2, rfl⟩
    · cases h
end Go.Proofs.Ytmcbhpaajjlmmaa

/-
  DERIVED. What smithFor of the program and l14Ready of the reference answer.
-/
namespace Go.Proofs.Ytmcbhpaajjlmmaa
open Go.RowKit
set_option linter.unusedVariables false
set_option linter.unusedSimpArgs false
/-- Something failed: three matrices, a slice, and the flag false. -/
def SFN (w : World) (e : Ending) (w' : World) : Prop :=
  ∃ (r1 c1 r2 c2 r3 c3 : Int) (A1 A2 A3 A4 : Option Addr) (n1 k1 n2 k2 n3 k3 n4 k4 : Nat), e = .returned (.tuple #[.agg #[.int .i64 r1, .int .i64 c1, .slice A1 n1 k1], .agg #[.int .i64 r2, .int .i64 c2, .slice A2 n2 k2], .agg #[.int .i64 r3, .int .i64 c3, .slice A3 n3 k3], .slice A4 n4 k4, .bool false]) ∧ Below w.heap.size w w'
/-- The Smith form, the right side that belongs to it, and the flag true. -/
def SFY (R C : Nat) (s : SS) (cs : List Int) (w : World) (e : Ending) (w' : World) : Prop :=
  ∃ A1 n1 k1 A2 n2 k2 A3 n3 k3 A4 n4 k4, e = .returned (.tuple #[.agg #[.int .i64 R, .int .i64 C, .slice A1 n1 k1], .agg #[.int .i64 R, .int .i64 R, .slice A2 n2 k2], .agg #[.int .i64 C, .int .i64 C, .slice A3 n3 k3], .slice A4 n4 k4, .bool true]) ∧
    OR w' w.heap.size (.slice A1 n1 k1) (tb R C s.f) ∧ OR w' w.heap.size (.slice A2 n2 k2) (tb R R s.g) ∧ OR w' w.heap.size (.slice A3 n3 k3) (tb C C s.h) ∧ OR w' w.heap.size (.slice A4 n4 k4) cs ∧ Below w.heap.size w w'
theorem ret_M3C {fn : Func} {R : Ending → World → Prop} {a : Act} {w : World} {t t' t'' s s2 : Tmp} {b n cap b' n' cap' b'' n'' cap'' : Nat} {r c r' c' r'' c'' : Int} {A A' A'' : Option Addr} (hr : fn.results = #[.cell t 28, .cell t' 28, .cell t'' 28, .tmp s, .tmp s2])
    (ht : a.tmps.getD t undef = .pointer (some ⟨b, 0, none⟩)) (ht' : a.tmps.getD t' undef = .pointer (some ⟨b', 0, none⟩)) (ht'' : a.tmps.getD t'' undef = .pointer (some ⟨b'', 0, none⟩)) (h : BM w b r c A n cap) (h' : BM w b' r' c' A' n' cap') (h'' : BM w b'' r'' c'' A'' n'' cap'') (hd : a.defers = [])
    (hR : R (.returned (.tuple #[.agg #[.int .i64 r, .int .i64 c, .slice A n cap], .agg #[.int .i64 r', .int .i64 c', .slice A' n' cap'], .agg #[.int .i64 r'', .int .i64 c'', .slice A'' n'' cap''], a.tmps.getD s undef, a.tmps.getD s2 undef])) w) : bodyPost Try.prog fn R .ret a w :=
  bodyPost_ret (v := .tuple #[.agg #[.int .i64 r, .int .i64 c, .slice A n cap], .agg #[.int .i64 r', .int .i64 c', .slice A' n' cap'], .agg #[.int .i64 r'', .int .i64 c'', .slice A'' n'' cap''], a.tmps.getD s undef, a.tmps.getD s2 undef]) (by
    obtain ⟨r0, r1, r2, rf, rl⟩ := h.mx
    obtain ⟨s0, s1, s2, sf, sl⟩ := h'.mx
    obtain ⟨t0, t1, t2, tf, tl⟩ := h''.mx
    simp only [Array.getD_eq_getD_getElem?] at ht ht' ht''
    simp [results, hr, ht, ht', ht'', go_sem, r0, r1, r2, s0, s1, s2, t0, t1, t2]) hd hR
theorem siS_none {r c : Int} {xs bs : List Int} (h : sfX r c xs = none) : siS r c xs bs = none := by unfold siS; rw [h]; rfl
theorem siS_len {R C : Nat} {xs bs : List Int} {s : SS} (h : sfX R C xs = some s) (hl : bs.length ≠ R) : siS R C xs bs = none := by
  unfold siS
  rw [h]
  show (if _ then _ else _) = _
  rw [if_neg (fun k => hl (by have := k.1; omega))]
theorem siS_mul {R C : Nat} {xs bs : List Int} {s : SS} (h : sfX R C xs = some s) (hl : bs.length = R) (hm : mulB R R (tb R R s.g) bs.length 1 bs = false) : siS R C xs bs = none := by
  unfold siS
  rw [h]
  show (if _ then _ else _) = _
  rw [if_neg (fun k => by have := k.2; rw [Int.toNat_natCast, hm] at this; cases this)]
theorem siS_yes {R C : Nat} {xs bs : List Int} {s : SS} (h : sfX R C xs = some s) (hl : bs.length = R) (hm : mulB R R (tb R R s.g) bs.length 1 bs = true) : siS R C xs bs = some (s, mulL (tb R R s.g) R R bs 1) := by
  unfold siS
  rw [h]
  show (if _ then _ else _) = _
  rw [if_pos ⟨by omega, by rw [Int.toNat_natCast]; exact hm⟩, Int.toNat_natCast]
/-- What smithFor and l14Ready answer. -/
def SFR (r c : Int) (xs bs : List Int) (w : World) (e : Ending) (w' : World) : Prop :=
  match siS r c xs bs with
  | none => SFN w e w'
  | some (s, cs) => SFY r.toNat c.toNat s cs w e w'
theorem SFR.of_no {r c : Int} {xs bs : List Int} {w w' : World} {e : Ending} (h : siS r c xs bs = none) (k : SFN w e w') : SFR r c xs bs w e w' := by unfold SFR; rw [h]; exact k
theorem SFR.of_yes {R C : Nat} {xs bs : List Int} {s : SS} {cs : List Int} {w w' : World} {e : Ending} (h : siS R C xs bs = some (s, cs)) (k : SFY R C s cs w e w') : SFR R C xs bs w e w' := by unfold SFR; rw [h]; exact k
theorem SFR.no {r c : Int} {xs bs : List Int} {w w' : World} {e : Ending} (h : siS r c xs bs = none) (k : SFR r c xs bs w e w') : SFN w e w' := by unfold SFR at k; rw [h] at k; exact k
theorem SFR.yes {R C : Nat} {xs bs : List Int} {s : SS} {cs : List Int} {w w' : World} {e : Ending} (h : siS R C xs bs = some (s, cs)) (k : SFR R C xs bs w e w') : SFY R C s cs w e w' := by unfold SFR at k; rw [h] at k; exact k
theorem M3R.elim_some {R C : Nat} {s : SS} {w w' : World} {e : Ending} (h : M3R (sfDO R C (some s)) (sfUO R (some s)) (sfVO C (some s)) (some s).isSome w e w') :
    ∃ A1 n1 c1 A2 n2 c2 A3 n3 c3, e = .returned (.tuple #[.agg #[.int .i64 (R : Int), .int .i64 (C : Int), .slice A1 n1 c1], .agg #[.int .i64 (R : Int), .int .i64 (R : Int), .slice A2 n2 c2], .agg #[.int .i64 (C : Int), .int .i64 (C : Int), .slice A3 n3 c3], .bool true]) ∧
      OR w' w.heap.size (.slice A1 n1 c1) (tb R C s.f) ∧ OR w' w.heap.size (.slice A2 n2 c2) (tb R R s.g) ∧ OR w' w.heap.size (.slice A3 n3 c3) (tb C C s.h) ∧ Apart (.slice A1 n1 c1) (.slice A2 n2 c2) ∧ Apart (.slice A1 n1 c1) (.slice A3 n3 c3) ∧ Apart (.slice A2 n2 c2) (.slice A3 n3 c3) ∧ Below w.heap.size w w' := h
end Go.Proofs.Ytmcbhpaajjlmmaa

/-
  DERIVED. firstWrong of the program.
-/
namespace Go.Proofs.Ytmcbhpaajjlmmaa
open Go.RowKit
set_option linter.unusedVariables false
set_option linter.unusedSimpArgs false
set_option maxRecDepth 100000 in
set_option maxHeartbeats 4000000 in
theorem impl_firstWrong (R C : Nat) (A Ac : Option Addr) (n cap nc capc : Nat) (f : Fn2) (cs : List Int) (w : World) {B B' : Nat} (h : OR w B (.slice A n cap) (tb R C f)) (hc : RI w B' Ac nc cs) (hB' : B' ≤ w.heap.size) (hl : cs.length = R) (hf : OKF R C f) (hcn : ∀ k, Num (cs.getD k 0)) (hR : R ≤ 24) (hC : C ≤ 24) :
    Calls Try.prog 90 #[.agg #[.int .i64 R, .int .i64 C, .slice A n cap], .slice Ac nc capc] w (BV (.int .i64 (fwV (fwF (dgF R C f) 0 cs))) w) := by
  have hln := hc.len
  have hlx : cs.length ≤ R ∧ R ≤ cs.length ∧ nc ≤ R ∧ R ≤ nc := by omega
  have HOW : Hid (∀ w', Below w.heap.size w w' → OR w' B (.slice A n cap) (tb R C f)) := Lib.hid (fun w' hb => h.below hb (Nat.le_refl _))
  have HC := Lib.hid (hc.more hB')
  have HF := Lib.hid hf
  have HCN := Lib.hid hcn
  clear hc hl hln hf h hcn
  obtain ⟨X, hX⟩ : ∃ X, fwF (dgF R C f) 0 cs = X := ⟨_, rfl⟩
  rw [hX]
  have HX0 := Lib.hid hX
  clear hX
  go_enter Try.func90, Try.ntmps90
  go_wp2_with fail
  go_loopw [8] (fun v wr => ∃ k : Nat, v = .int .i64 k ∧ k ≤ R ∧ fwF (dgF R C f) k (cs.drop k) = X ∧ BM wr w.heap.size R C A n cap ∧ Below w.heap.size w wr) (fun v _ => R - (intOf v).toNat)
  case atStart => exact ⟨0, rfl, Nat.zero_le _, HX0.out, by (with_reducible (repeat (first | assumption | refine BX.n_ | refine BX.b_ ?_ | apply BX.drew | apply BX.drewN | refine BX.put ?_ | refine BX.put2 ?_ | refine BX.f_ ?_ | apply BX.alloc | refine B3.n_ | refine B3.of (by assumption) | refine B3.b_ ?_ | apply B3.drew | apply B3.drewN | refine B3.f_ ?_ | apply B3.alloc))), by (repeat (first | (with_reducible (first | exact Below.refl _ _ | assumption | refine below_drewN ?_ _ | refine Below.drew ?_ | refine Below.alloc ?_ ?_ _ | refine Below.setCell ?_ ?_ _ | refine below_i ?_)) | go_size))⟩
  case round =>
    obtain ⟨k, rfl, hk, hfw, hM, hbw⟩ := hrel
    have HX := Lib.hid hfw
    clear hfw
    obtain ⟨ma, mb, mc, mf, ml⟩ := hM.mx
    have hsw := hbw.size
    by_cases hlt : k < R
    · obtain ⟨b, o, rfl, hbb, hcells⟩ := HC.out.2 (by omega)
      have c1 := (hbw.cell (p := ⟨b, o + k, none⟩) hbb).trans (hcells k (by omega))
      have hbl := Nat.lt_of_lt_of_le hbb hbw.size
      clear hcells
      have hknc : k < nc := by omega
      have ho := HOW.out _ hbw
      obtain ⟨d1, d2⟩ := dgF_num (i := k) HF.out
      obtain ⟨x1, x2⟩ := HCN.out k
      by_cases hdv : dgF R C f k ∣ cs.getD k 0
      · have HNX : Hid (fwF (dgF R C f) (k + 1) (cs.drop (k + 1)) = X) := Lib.hid ((fwF_yes (k := k) (by omega) hdv).symm.trans HX.out)
        have HT : Hid (decide (dgF R C f k ∣ cs.getD k 0) = true) := Lib.hid (decide_eq_true hdv)
        clear hdv
        generalize cs.getD k 0 = x at *
        obtain ⟨z, hz⟩ : ∃ z, dgF R C f k = z := ⟨_, rfl⟩
        rw [hz] at d1 d2 HT
        have HZ := Lib.hid hz
        clear hz
        go_wp2_with fail
        ((refine wp_region_held_drew (S := (fun w' => w'.cell? ⟨b, o + k, none⟩ = some (.int .i64 x) ∧ w'.cell? ⟨w.heap.size, 0, none⟩ = some (.int .i64 R) ∧ w'.cell? ⟨w.heap.size, 1, none⟩ = some (.int .i64 C) ∧ w'.cell? ⟨w.heap.size, 2, none⟩ = some (.slice A n cap))) (by kernel_rfl) ?_ (fun hHeld => ?_)); ((focus ((try dsimp only); ((first | (go_keep; done) | exact ⟨c1, ma, mb, mc⟩))))); ((refine tk_ (i := 0) (v := ?_) (y := Or.inl ⟨by rfl, ?_⟩) (h := ?_); rotate_left; (focus (((intro w hSw; (try dsimp only at hSw); go_simp) <;> (try with_reducible rfl)); done)); (try simp only [Act.put, p1_, p2_, p3_]))); ((refine tk_ (i := 1) (v := ?_) (y := Or.inl ⟨by rfl, ?_⟩) (h := ?_); rotate_left; (focus (((intro w hSw; (try dsimp only at hSw); go_simp) <;> (try with_reducible rfl)); done)); (try simp only [Act.put, p1_, p2_, p3_]))); ((refine tk_ (i := 2) (v := ?_) (y := Or.inl ⟨by rfl, ?_⟩) (h := ?_); rotate_left; (focus (((intro w hSw; (try dsimp only at hSw); go_simp) <;> (try with_reducible rfl)); done)); (try simp only [Act.put, p1_, p2_, p3_]))); ((refine tk_ (i := 3) (v := ?_) (y := Or.inl ⟨by rfl, ?_⟩) (h := ?_); rotate_left; (focus (((intro w hSw; (try dsimp only at hSw); go_simp) <;> (try with_reducible rfl)); done)); (try simp only [Act.put, p1_, p2_, p3_]))); ((refine tk_ (i := 4) (v := ?_) (y := Or.inl ⟨by rfl, ?_⟩) (h := ?_); rotate_left; (focus (((intro w hSw; (try dsimp only at hSw); go_simp) <;> (try with_reducible rfl)); done)); (try simp only [Act.put, p1_, p2_, p3_]))); ((refine tk_ (i := 5) (v := ?_) (y := Or.inl ⟨by rfl, ?_⟩) (h := ?_); rotate_left; (focus (((intro w hSw; (try dsimp only at hSw); go_simp) <;> (try with_reducible rfl)); done)); (try simp only [Act.put, p1_, p2_, p3_]))); ((refine wpAnyH_ready (rs := [6]) (by kernel_rfl) (by simp) ?_; refine AllReadyH.cons (by simp only [e1_, e2_, e3_]; try rfl) (fun K hK => ?_) AllReadyH.nil; go_simp; (refine (impl_diagonal R C k A n cap f _ (B := B) (by (with_reducible (repeat (first | exact ho | refine OR.drew ?_ | refine OR.drewN ?_ _ | refine OR.alloc ?_ _ | refine OR.b_ ?_ | refine OR.l_ ?_)))) (by omega) hR hC).mono ?_; rw [HZ.out]; rintro e w5 ⟨rfl, hb5⟩; have hs5 := hb5.size; (try simp at hs5); (have hM_1 : BM w5 w.heap.size R C A n cap := (by (with_reducible (repeat (first | exact hM | refine BX.n_ | refine BX.b_ ?_ | apply BX.drew | apply BX.drewN | refine BX.put ?_ | refine BX.put2 ?_ | refine BX.f_ ?_ | apply BX.alloc | refine B3.n_ | exact B3.of hM | refine B3.b_ ?_ | apply B3.drew | apply B3.drewN | refine B3.f_ ?_ | apply B3.alloc))))); (have hbw_1 : Below w.heap.size w w5 := (by (repeat (first | (with_reducible (first | exact Below.refl _ _ | assumption | refine below_drewN ?_ _ | refine Below.drew ?_ | refine Below.alloc ?_ ?_ _ | refine Below.setCell ?_ ?_ _ | refine below_i ?_)) | go_size)))); (have c2 := (hb5.cell (p := ⟨b, o + k, none⟩) (by simpa using hbl)).trans c1); clear hM hbw c1 hb5 ma mb mc mf ml; have hM := hM_1; have hbw := hbw_1; have c1 := c2; clear hM_1 hbw_1 c2; obtain ⟨ma, mb, mc, mf, ml⟩ := hM.mx); (try go_wp2_with fail); refine hK.out _ _ ?_ (fun hHeld => ?_); (focus ((try dsimp only); ((first | (go_keep; done) | exact ⟨c1, ma, mb, mc⟩)))); clear hK K; (try simp only [Act.put, p1_, p2_, p3_]))); ((refine wpAnyH_ready (rs := [7]) (by kernel_rfl) (by simp) ?_; refine AllReadyH.cons (by simp only [e1_, e2_, e3_]; try rfl) (fun K hK => ?_) AllReadyH.nil; go_simp; (refine (impl_isMultiple x z _ ⟨x1, x2⟩ ⟨d1, d2⟩).mono ?_; rw [HT.out]; rintro e w' ⟨rfl, rfl⟩); (try go_wp2_with fail); refine hK.out _ _ ?_ (fun hHeld => ?_); (focus ((try dsimp only); ((first | (go_keep; done) | exact ⟨c1, ma, mb, mc⟩)))); clear hK K; (try simp only [Act.put, p1_, p2_, p3_]))); ((refine tk_ (i := 8) (v := ?_) (y := Or.inl ⟨by rfl, ?_⟩) (h := ?_); rotate_left; (focus (((intro w hSw; (try dsimp only at hSw); go_simp) <;> (try with_reducible rfl)); done)); (try simp only [Act.put, p1_, p2_, p3_]))); (refine wpAnyH_done (by kernel_rfl) ?_ _))
        go_wp2_with fail
        go_roundw
        case rel => exact ⟨k + 1, by go_num, by omega, HNX.out, by (with_reducible (repeat (first | exact hM | refine BX.n_ | refine BX.b_ ?_ | apply BX.drew | apply BX.drewN | refine BX.put ?_ | refine BX.put2 ?_ | refine BX.f_ ?_ | apply BX.alloc | refine B3.n_ | exact B3.of hM | refine B3.b_ ?_ | apply B3.drew | apply B3.drewN | refine B3.f_ ?_ | apply B3.alloc))), by (repeat (first | (with_reducible (first | exact Below.refl _ _ | assumption | refine below_drewN ?_ _ | refine Below.drew ?_ | refine Below.alloc ?_ ?_ _ | refine Below.setCell ?_ ?_ _ | refine below_i ?_)) | go_size))⟩
        case measure => simp only [intOf]; omega
      · have HFD : Hid (X = some k) := Lib.hid (by rw [← HX.out, fwF_no (by omega) hdv])
        have HT : Hid (decide (dgF R C f k ∣ cs.getD k 0) = false) := Lib.hid (decide_eq_false hdv)
        clear hdv
        generalize cs.getD k 0 = x at *
        obtain ⟨z, hz⟩ : ∃ z, dgF R C f k = z := ⟨_, rfl⟩
        rw [hz] at d1 d2 HT
        have HZ := Lib.hid hz
        clear hz
        go_wp2_with fail
        ((refine wp_region_held_drew (S := (fun w' => w'.cell? ⟨b, o + k, none⟩ = some (.int .i64 x) ∧ w'.cell? ⟨w.heap.size, 0, none⟩ = some (.int .i64 R) ∧ w'.cell? ⟨w.heap.size, 1, none⟩ = some (.int .i64 C) ∧ w'.cell? ⟨w.heap.size, 2, none⟩ = some (.slice A n cap))) (by kernel_rfl) ?_ (fun hHeld => ?_)); ((focus ((try dsimp only); ((first | (go_keep; done) | exact ⟨c1, ma, mb, mc⟩))))); ((refine tk_ (i := 0) (v := ?_) (y := Or.inl ⟨by rfl, ?_⟩) (h := ?_); rotate_left; (focus (((intro w hSw; (try dsimp only at hSw); go_simp) <;> (try with_reducible rfl)); done)); (try simp only [Act.put, p1_, p2_, p3_]))); ((refine tk_ (i := 1) (v := ?_) (y := Or.inl ⟨by rfl, ?_⟩) (h := ?_); rotate_left; (focus (((intro w hSw; (try dsimp only at hSw); go_simp) <;> (try with_reducible rfl)); done)); (try simp only [Act.put, p1_, p2_, p3_]))); ((refine tk_ (i := 2) (v := ?_) (y := Or.inl ⟨by rfl, ?_⟩) (h := ?_); rotate_left; (focus (((intro w hSw; (try dsimp only at hSw); go_simp) <;> (try with_reducible rfl)); done)); (try simp only [Act.put, p1_, p2_, p3_]))); ((refine tk_ (i := 3) (v := ?_) (y := Or.inl ⟨by rfl, ?_⟩) (h := ?_); rotate_left; (focus (((intro w hSw; (try dsimp only at hSw); go_simp) <;> (try with_reducible rfl)); done)); (try simp only [Act.put, p1_, p2_, p3_]))); ((refine tk_ (i := 4) (v := ?_) (y := Or.inl ⟨by rfl, ?_⟩) (h := ?_); rotate_left; (focus (((intro w hSw; (try dsimp only at hSw); go_simp) <;> (try with_reducible rfl)); done)); (try simp only [Act.put, p1_, p2_, p3_]))); ((refine tk_ (i := 5) (v := ?_) (y := Or.inl ⟨by rfl, ?_⟩) (h := ?_); rotate_left; (focus (((intro w hSw; (try dsimp only at hSw); go_simp) <;> (try with_reducible rfl)); done)); (try simp only [Act.put, p1_, p2_, p3_]))); ((refine wpAnyH_ready (rs := [6]) (by kernel_rfl) (by simp) ?_; refine AllReadyH.cons (by simp only [e1_, e2_, e3_]; try rfl) (fun K hK => ?_) AllReadyH.nil; go_simp; (refine (impl_diagonal R C k A n cap f _ (B := B) (by (with_reducible (repeat (first | exact ho | refine OR.drew ?_ | refine OR.drewN ?_ _ | refine OR.alloc ?_ _ | refine OR.b_ ?_ | refine OR.l_ ?_)))) (by omega) hR hC).mono ?_; rw [HZ.out]; rintro e w5 ⟨rfl, hb5⟩; have hs5 := hb5.size; (try simp at hs5); (have hM_1 : BM w5 w.heap.size R C A n cap := (by (with_reducible (repeat (first | exact hM | refine BX.n_ | refine BX.b_ ?_ | apply BX.drew | apply BX.drewN | refine BX.put ?_ | refine BX.put2 ?_ | refine BX.f_ ?_ | apply BX.alloc | refine B3.n_ | exact B3.of hM | refine B3.b_ ?_ | apply B3.drew | apply B3.drewN | refine B3.f_ ?_ | apply B3.alloc))))); (have hbw_1 : Below w.heap.size w w5 := (by (repeat (first | (with_reducible (first | exact Below.refl _ _ | assumption | refine below_drewN ?_ _ | refine Below.drew ?_ | refine Below.alloc ?_ ?_ _ | refine Below.setCell ?_ ?_ _ | refine below_i ?_)) | go_size)))); (have c2 := (hb5.cell (p := ⟨b, o + k, none⟩) (by simpa using hbl)).trans c1); clear hM hbw c1 hb5 ma mb mc mf ml; have hM := hM_1; have hbw := hbw_1; have c1 := c2; clear hM_1 hbw_1 c2; obtain ⟨ma, mb, mc, mf, ml⟩ := hM.mx); (try go_wp2_with fail); refine hK.out _ _ ?_ (fun hHeld => ?_); (focus ((try dsimp only); ((first | (go_keep; done) | exact ⟨c1, ma, mb, mc⟩)))); clear hK K; (try simp only [Act.put, p1_, p2_, p3_]))); ((refine wpAnyH_ready (rs := [7]) (by kernel_rfl) (by simp) ?_; refine AllReadyH.cons (by simp only [e1_, e2_, e3_]; try rfl) (fun K hK => ?_) AllReadyH.nil; go_simp; (refine (impl_isMultiple x z _ ⟨x1, x2⟩ ⟨d1, d2⟩).mono ?_; rw [HT.out]; rintro e w' ⟨rfl, rfl⟩); (try go_wp2_with fail); refine hK.out _ _ ?_ (fun hHeld => ?_); (focus ((try dsimp only); ((first | (go_keep; done) | exact ⟨c1, ma, mb, mc⟩)))); clear hK K; (try simp only [Act.put, p1_, p2_, p3_]))); ((refine tk_ (i := 8) (v := ?_) (y := Or.inl ⟨by rfl, ?_⟩) (h := ?_); rotate_left; (focus (((intro w hSw; (try dsimp only at hSw); go_simp) <;> (try with_reducible rfl)); done)); (try simp only [Act.put, p1_, p2_, p3_]))); (refine wpAnyH_done (by kernel_rfl) ?_ _))
        go_wp2_with fail
        go_ret
        exact BV.mk (vint (show (k : Int) = _ by rw [HFD.out]; rfl)) (by (repeat (first | (with_reducible (first | exact Below.refl _ _ | assumption | refine below_drewN ?_ _ | refine Below.drew ?_ | refine Below.alloc ?_ ?_ _ | refine Below.setCell ?_ ?_ _ | refine below_i ?_)) | go_size)))
    · have hkE : k = R := by omega
      have HE : Hid (X = none) := Lib.hid (by rw [← HX.out, fwF_end (by omega)])
      clear hkE
      go_wp2_with fail
      go_ret
      exact BV.mk (vint (show (-1 : Int) = _ by rw [HE.out]; rfl)) (by (repeat (first | (with_reducible (first | exact Below.refl _ _ | assumption | refine below_drewN ?_ _ | refine Below.drew ?_ | refine Below.alloc ?_ ?_ _ | refine Below.setCell ?_ ?_ _ | refine below_i ?_)) | go_size)))
end Go.Proofs.Ytmcbhpaajjlmmaa

/-
  DERIVED. What SolveInteger answers: the form of its result, the loop that makes it.
-/
namespace Go.Proofs.Ytmcbhpaajjlmmaa
open Go.RowKit
set_option linter.unusedVariables false
set_option linter.unusedSimpArgs false
/-- The call returned an own slice and a number. -/
def IIR (ys : List Int) (k : Int) (w : World) (e : Ending) (w' : World) : Prop :=
  ∃ A n cap, e = .returned (.tuple #[.slice A n cap, .int .i64 k]) ∧ OR w' w.heap.size (.slice A n cap) ys ∧ Below w.heap.size w w'
theorem IIR.mk {ys zs : List Int} {k k' : Int} {A : Option Addr} {n cap : Nat} {w w' : World} (hz : (ys, k) = (zs, k')) (ho : OR w' w.heap.size (.slice A n cap) zs) (hb : Below w.heap.size w w') :
    IIR ys k w (.returned (.tuple #[.slice A n cap, .int .i64 k'])) w' := by
  injection hz with h1 h2
  subst h1; subst h2; exact ⟨A, n, cap, rfl, ho, hb⟩
theorem siR_fail {r c : Int} {xs bs : List Int} (h : siS r c xs bs = none) : siR r c xs bs = ([], 2) := by unfold siR; rw [h]
theorem siR_none {R C : Nat} {xs bs : List Int} {s : SS} {cs : List Int} {k : Nat} (h : siS R C xs bs = some (s, cs)) (hk : fwF (dgF R C s.f) 0 cs = some k) : siR R C xs bs = ([], 1) := by
  unfold siR; rw [h]; simp only [Int.toNat_natCast]; rw [hk]
theorem siR_big {R C : Nat} {xs bs : List Int} {s : SS} {cs : List Int} (h : siS R C xs bs = some (s, cs)) (hk : fwF (dgF R C s.f) 0 cs = none) (hm : mulB C C (tb C C s.h) C 1 (siY R C s cs) = false) : siR R C xs bs = ([], 2) := by
  unfold siR; rw [h]; simp only [Int.toNat_natCast]; rw [hk]; dsimp only; rw [hm]; rfl
theorem siR_yes {R C : Nat} {xs bs : List Int} {s : SS} {cs : List Int} (h : siS R C xs bs = some (s, cs)) (hk : fwF (dgF R C s.f) 0 cs = none) (hm : mulB C C (tb C C s.h) C 1 (siY R C s cs) = true) : siR R C xs bs = (mulL (tb C C s.h) C C (siY R C s cs) 1, 0) := by
  unfold siR; rw [h]; simp only [Int.toNat_natCast]; rw [hk]; dsimp only; rw [hm, mulM_yes hm]; simp
theorem tab_cg {n : Nat} {f g : Nat → Int} (h : ∀ k, k < n → f k = g k) : tab n f = tab n g := List.map_congr_left fun k hk => h k (List.mem_range.1 hk)
/-- The y that the loop makes, up to place i. -/
def siK (R C : Nat) (s : SS) (cs : List Int) (i : Nat) : List Int := tab C fun j => if j < i then (cs.getD j 0).tdiv (dgF R C s.f j) else 0
theorem siK_zero (R C : Nat) (s : SS) (cs : List Int) : siK R C s cs 0 = List.replicate C 0 := by
  unfold siK tab
  apply List.ext_getElem?
  intro i
  by_cases h : i < C <;> simp [h]
theorem siK_end {R C : Nat} {s : SS} {cs : List Int} (hl : cs.length = R) : siK R C s cs (min R C) = siY R C s cs := by
  unfold siK siY
  refine tab_cg fun j hj => ?_
  by_cases h : j < min R C
  · rw [if_pos h]
  · rw [if_neg h, show cs.getD j 0 = 0 by simp only [List.getD, List.getElem?_eq_none (show cs.length ≤ j by omega)]; rfl, Int.zero_tdiv]
theorem siK_skip {R C : Nat} {s : SS} {cs : List Int} {i : Nat} (h : dgF R C s.f i = 0) : siK R C s cs (i + 1) = siK R C s cs i := by
  unfold siK
  refine tab_cg fun j hj => ?_
  by_cases h1 : j < i
  · rw [if_pos h1, if_pos (by omega)]
  · by_cases h2 : j < i + 1
    · obtain rfl : j = i := by omega
      rw [if_neg h1, if_pos h2, h, Int.tdiv_zero]
    · rw [if_neg h1, if_neg h2]
theorem siK_set {R C : Nat} {s : SS} {cs : List Int} {i : Nat} (hi : i < C) : (siK R C s cs i).set i ((cs.getD i 0).tdiv (dgF R C s.f i)) = siK R C s cs (i + 1) := by
  unfold siK tab
  apply List.ext_getElem?
  intro j
  by_cases hj : j < C
  · by_cases hji : j = i
    · subst hji
      simp [hj]
    · rw [List.getElem?_set_ne (Ne.symm hji)]
      by_cases h1 : j < i
      · simp [hj, h1, show j < i + 1 by omega]
      · simp [hj, h1, show ¬ j < i + 1 by omega]
  · rw [List.getElem?_eq_none (by simp; omega), List.getElem?_eq_none (by simp; omega)]
theorem siK_len (R C : Nat) (s : SS) (cs : List Int) (i : Nat) : (siK R C s cs i).length = C := by simp [siK, tab]
end Go.Proofs.Ytmcbhpaajjlmmaa

/-
  DERIVED. What RefuteInteger answers: the form of its result.
-/
namespace Go.Proofs.Ytmcbhpaajjlmmaa
open Go.RowKit
set_option linter.unusedVariables false
set_option linter.unusedSimpArgs false
/-- The call returned own ratios and a number. -/
def QIR (n : Nat) (qs : List Int) (k : Int) (w : World) (e : Ending) (w' : World) : Prop :=
  ∃ A m cap, e = .returned (.tuple #[.slice A m cap, .int .i64 k]) ∧ OF w' w.heap.size (.slice A m cap) n qs ∧ Below w.heap.size w w'
theorem QIR.mk {n n' : Nat} {qs qs' : List Int} {k k' : Int} {A : Option Addr} {m cap : Nat} {w w' : World} (hz : (n, qs, k) = (n', qs', k')) (ho : OF w' w.heap.size (.slice A m cap) n' qs') (hb : Below w.heap.size w w') :
    QIR n qs k w (.returned (.tuple #[.slice A m cap, .int .i64 k'])) w' := by
  injection hz with h1 h2
  injection h2 with h2 h3
  subst h1; subst h2; subst h3; exact ⟨A, m, cap, rfl, ho, hb⟩
theorem riR_fail {r c : Int} {xs bs : List Int} (h : siS r c xs bs = none) : riR r c xs bs = (0, [], 2) := by unfold riR; rw [h]
theorem riR_none {R C : Nat} {xs bs : List Int} {s : SS} {cs : List Int} (h : siS R C xs bs = some (s, cs)) (hk : fwF (dgF R C s.f) 0 cs = none) : riR R C xs bs = (0, [], 1) := by
  unfold riR; rw [h]; simp only [Int.toNat_natCast]; rw [hk]
theorem riR_big {R C : Nat} {xs bs : List Int} {s : SS} {cs : List Int} {k : Nat} (h : siS R C xs bs = some (s, cs)) (hk : fwF (dgF R C s.f) 0 cs = some k) (hm : isNum (riN (dgF R C s.f k) (cs.getD k 0)) = false) : riR R C xs bs = (0, [], 2) := by
  unfold riR; rw [h]; simp only [Int.toNat_natCast]; rw [hk]; dsimp only; rw [hm]; rfl
theorem riR_yes {R C : Nat} {xs bs : List Int} {s : SS} {cs : List Int} {k : Nat} (h : siS R C xs bs = some (s, cs)) (hk : fwF (dgF R C s.f) 0 cs = some k) (hm : isNum (riN (dgF R C s.f k) (cs.getD k 0)) = true) : riR R C xs bs = (R, riL R s.g k (riN (dgF R C s.f k) (cs.getD k 0)) R, 0) := by
  unfold riR; rw [h]; simp only [Int.toNat_natCast]; rw [hk]; dsimp only; rw [hm]; rfl
theorem makR_low {n d : Int} (h1 : Num n) (h2 : Num d) (h3 : d ≠ 0) : makR n d = lowR n d := by
  unfold makR; rw [h1.isN, h2.isN]; simp [h3]
theorem riL_succ (R : Nat) (g : Fn2) (k : Nat) (n : Int) (j : Nat) : riL R g k n (j + 1) = riL R g k n j ++ [(lowR (g k j) n).1, (lowR (g k j) n).2] := rfl
theorem riL_next {R : Nat} {g : Fn2} {k j : Nat} {x z : Int} {q : Int × Int} {qs : List Int} (h : riL R g k z j = qs) (hx : g k j = x) (hq : makR x z = q) (h1 : Num (g k j)) (h2 : Num z) (h3 : z ≠ 0) : riL R g k z (j + 1) = qs ++ [q.1, q.2] := by
  subst hx
  subst hq
  rw [riL_succ, h, makR_low h1 h2 h3]
/-- What has been asked for, found out ahead of the walk. -/
structure RiK (R C : Nat) (s : SS) (cs : List Int) (k : Nat) : Prop where
  kR : k < R
  nz : riN (dgF R C s.f k) (cs.getD k 0) ≠ 0
theorem RiK.of {R C : Nat} {s : SS} {cs : List Int} {k : Nat} (hl : cs.length = R) (h : fwF (dgF R C s.f) 0 cs = some k) : RiK R C s cs k := by
  obtain ⟨h1, h2, h3⟩ := fwF_some cs 0 k h
  rw [Nat.sub_zero] at h3
  refine ⟨by omega, fun e => ?_⟩
  unfold riN at e
  split at e
  · rename_i h0
    exact h3 (by rw [h0]; exact ⟨0, by omega⟩)
  · rename_i h0
    exact h0 e
theorem riR_cnt (r c : Int) (xs bs : List Int) : (riR r c xs bs).1 ≤ 1048576 := by
  rcases hS : siS r c xs bs with _ | ⟨s, cs⟩
  · rw [riR_fail hS]; exact Nat.zero_le _
  · have hm : isMat r c xs = true := by
      rcases hm : isMat r c xs with _ | _
      · rw [siS_none (sfX_no hm)] at hS; cases hS
      · rfl
    have M := isMat_iff.1 hm
    obtain ⟨R, rfl⟩ := nat_of M.r0
    obtain ⟨C, rfl⟩ := nat_of M.c0
    have hR : R ≤ 24 := by have := M.r1; omega
    rcases hF : fwF (dgF R C s.f) 0 cs with _ | k
    · rw [riR_none hS hF]; exact Nat.zero_le _
    · rcases hn : isNum (riN (dgF R C s.f k) (cs.getD k 0)) with _ | _
      · rw [riR_big hS hF hn]; exact Nat.zero_le _
      · rw [riR_yes hS hF hn]; show R ≤ _; omega
end Go.Proofs.Ytmcbhpaajjlmmaa

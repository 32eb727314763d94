/-
  DERIVED. Several small texts in one: Times, PlainU, PlSp, PlRk, PlainQ2, SmT, PlEc, PlEc2, PlSf, Fac, PlSi, PlRn, PlLb.
-/
import Derived.Test.YtlggfmfelakadaaGreatDoorc4
import Derived.Test.YtlggfmfelakadaaGreatDoorc2
import Derived.Deep.LoopGhost
import Derived.Test.YtlggfmfelakadaaGreatDoorc3
/-
  DERIVED. l14Times, IsSolution of the reference.
-/
namespace Go.Proofs.YtlggfmfelakadaaGreatDoor
open Go.RowKit
set_option linter.unusedVariables false
set_option linter.unusedSimpArgs false
/-- The call returned an own slice and a flag. -/
def IBR (ys : List Int) (b : Bool) (w : World) (e : Ending) (w' : World) : Prop :=
  ∃ A n cap, e = .returned (.tuple #[.slice A n cap, .bool b]) ∧ OR w' w.heap.size (.slice A n cap) ys ∧ Below w.heap.size w w'
theorem IBR.mk {ys zs : List Int} {b : Bool} {A : Option Addr} {n cap : Nat} {w w' : World} (hz : ys = zs) (ho : OR w' w.heap.size (.slice A n cap) zs) (hb : Below w.heap.size w w') :
    IBR ys b w (.returned (.tuple #[.slice A n cap, .bool b])) w' := by subst hz; exact ⟨A, n, cap, rfl, ho, hb⟩
/-- Numbers solve a system. -/
def solB (r c : Int) (xs b x : List Int) : Bool := mulB r c xs x.length 1 x && eqB (mulM r c xs x.length 1 x).xs b
theorem mulM_len (r c : Int) (xs : List Int) (r2 c2 : Int) (ys : List Int) : (mulM r c xs r2 c2 ys).xs.length ≤ 576 := by
  unfold mulM
  split
  · rename_i h
    unfold mulB at h
    simp only [Bool.and_eq_true] at h
    have M := isMat_iff.1 h.1.1.1
    have M2 := isMat_iff.1 h.1.1.2
    show (mulL xs r.toNat c.toNat ys c2.toNat).length ≤ 576
    rw [mulL_len]
    have := Nat.mul_le_mul (show r.toNat ≤ 24 by have := M.r1; omega) (show c2.toNat ≤ 24 by have := M2.c1; omega)
    omega
  · simp [Mx.none]
end Go.Proofs.YtlggfmfelakadaaGreatDoor

/-
  DERIVED. A part of a row anew; a matrix of zeros. No program in sight.
-/
namespace Go.Proofs.YtlggfmfelakadaaGreatDoor
set_option linter.unusedVariables false
theorem splL_get {xs ys : List Int} {off q : Nat} (h : off + ys.length ≤ xs.length) : (splL xs off ys).getD q 0 = if off ≤ q ∧ q < off + ys.length then ys.getD (q - off) 0 else xs.getD q 0 := by
  by_cases h1 : off ≤ q ∧ q < off + ys.length
  · rw [if_pos h1]
    have := splL_getD (xs := xs) (ys := ys) (off := off) (k := q - off) h (by omega)
    rw [show off + (q - off) = q by omega] at this
    exact this
  · rw [if_neg h1]
    have htl : (xs.take off).length = off := by rw [List.length_take]; omega
    unfold splL
    simp only [List.getD]
    congr 1
    by_cases h2 : q < off
    · rw [List.append_assoc, List.getElem?_append_left (by omega), List.getElem?_take_of_lt h2]
    · rw [List.getElem?_append_right (by rw [List.length_append, htl]; omega), List.getElem?_drop, List.length_append, htl]
      congr 1
      omega
/-- Row i anew from place o on. -/
def setW (f : Nat → Nat → Int) (i o : Nat) (ys : List Int) : Nat → Nat → Int := fun a c => if a = i ∧ o ≤ c ∧ c < o + ys.length then ys.getD (c - o) 0 else f a c
theorem spl_tbo {R C i o : Nat} {f : Nat → Nat → Int} {ys : List Int} (hi : i < R) (hy : o + ys.length ≤ C) : splL (tb R C f) (i * C + o) ys = tb R C (setW f i o ys) := by
  have hl : i * C + C ≤ R * C := by
    have h3 := Nat.mul_le_mul_right C (show i + 1 ≤ R by omega); rw [Nat.add_mul, Nat.one_mul] at h3; exact h3
  have hf : i * C + o + ys.length ≤ (tb R C f).length := by rw [tb_len]; omega
  have hlen : (splL (tb R C f) (i * C + o) ys).length = R * C := by rw [splL_len hf, tb_len]
  rw [tb_of hlen]
  apply tb_ext
  intro a c ha hc
  rw [cel_nat, splL_get hf]
  unfold setW
  rcases Nat.lt_trichotomy a i with h | h | h
  · have h3 := Nat.mul_le_mul_right C (show a + 1 ≤ i by omega)
    rw [Nat.add_mul, Nat.one_mul] at h3
    rw [if_neg (by omega), if_neg (by omega), tb_at ha hc]
  · subst h
    by_cases h4 : o ≤ c ∧ c < o + ys.length
    · rw [if_pos (by omega), if_pos ⟨rfl, h4⟩]
      congr 1
      omega
    · rw [if_neg (by omega), if_neg (by omega), tb_at ha hc]
  · have h3 := Nat.mul_le_mul_right C (show i + 1 ≤ a by omega)
    rw [Nat.add_mul, Nat.one_mul] at h3
    rw [if_neg (by omega), if_neg (by omega), tb_at ha hc]
theorem tb_zeros (R C : Nat) : tb R C (fun _ _ => 0) = List.replicate (R * C) 0 := by
  unfold tb tab
  apply List.ext_getElem?
  intro i
  by_cases h : i < R * C <;> simp [h]
end Go.Proofs.YtlggfmfelakadaaGreatDoor

/-
  DERIVED. Sums of rows; two matrices whose rows span the same. No program in sight.
-/
namespace Go.Proofs.YtlggfmfelakadaaGreatDoor
set_option linter.unusedVariables false
/-- v is a sum of rows. -/
def Sp (R C : Nat) (f : Fn2) (v : Nat → Int) : Prop := ∃ c : Nat → Int, ∀ y, y < C → v y = sumTo (fun k => c k * f k y) R
theorem Sp.row {R C : Nat} {f : Fn2} {i : Nat} (hi : i < R) : Sp R C f (f i) := ⟨idF i, fun y hy => by
  rw [sumTo_one (i := i) R hi (fun k hk hne => by unfold idF; rw [if_neg (fun e => hne e.symm), Int.zero_mul])]
  unfold idF; rw [if_pos rfl, Int.one_mul]⟩
theorem Sp.add {R C : Nat} {f : Fn2} {u v z : Nat → Int} {t : Int} (h : Sp R C f u) (h2 : Sp R C f v) (e : ∀ y, y < C → z y = u y + v y * t) : Sp R C f z := by
  obtain ⟨c, hc⟩ := h
  obtain ⟨d, hd⟩ := h2
  refine ⟨fun k => c k + d k * t, fun y hy => ?_⟩
  rw [e y hy, hc y hy, hd y hy, ← sumTo_mul, ← sumTo_add]
  exact sumTo_congr R fun k _ => by grind
theorem Sp.neg {R C : Nat} {f : Fn2} {u z : Nat → Int} (h : Sp R C f u) (e : ∀ y, y < C → z y = -u y) : Sp R C f z := by
  obtain ⟨c, hc⟩ := h
  refine ⟨fun k => -c k, fun y hy => ?_⟩
  rw [e y hy, hc y hy, ← sumTo_neg]
  exact sumTo_congr R fun k _ => by grind
theorem Sp.as {R C : Nat} {f : Fn2} {u z : Nat → Int} (h : Sp R C f u) (e : ∀ y, y < C → z y = u y) : Sp R C f z := by
  obtain ⟨c, hc⟩ := h
  exact ⟨c, fun y hy => by rw [e y hy, hc y hy]⟩
theorem Sp.trans {R R' C : Nat} {f g : Fn2} {v : Nat → Int} (h : Sp R C f v) (k : ∀ i, i < R → Sp R' C g (f i)) : Sp R' C g v := by
  obtain ⟨c, hc⟩ := h
  have hd : ∀ i, ∃ d : Nat → Int, i < R → ∀ y, y < C → f i y = sumTo (fun l => d l * g l y) R' := fun i => by
    by_cases hi : i < R
    · obtain ⟨d, hd⟩ := k i hi
      exact ⟨d, fun _ => hd⟩
    · exact ⟨fun _ => 0, fun h => absurd h hi⟩
  let d : Fn2 := fun i => Classical.choose (hd i)
  have hdd : ∀ i, i < R → ∀ y, y < C → f i y = sumTo (fun l => d i l * g l y) R' := fun i => Classical.choose_spec (hd i)
  refine ⟨fun l => sumTo (fun i => c i * d i l) R, fun y hy => ?_⟩
  rw [hc y hy]
  have e1 : sumTo (fun k => c k * f k y) R = sumTo (fun k => sumTo (fun l => c k * (d k l * g l y)) R') R := sumTo_congr R fun k hk => by
    rw [hdd k hk y hy, sumTo_mul']
  rw [e1, sumTo_swap]
  refine sumTo_congr R' fun l hl => ?_
  rw [← sumTo_mul]
  exact sumTo_congr R fun k hk => by grind
theorem Sp.mm {R n C : Nat} {a f : Fn2} {i : Nat} (hi : i < n) : Sp R C f (mm R a f i) := ⟨a i, fun y _ => rfl⟩
/-- Rows of both span the same. -/
def SPN (R C : Nat) (m f : Fn2) : Prop := (∀ i, i < R → Sp R C m (f i)) ∧ ∀ i, i < R → Sp R C f (m i)
theorem SPN.add {R C i j : Nat} {t : Int} {m f f' : Fn2} (h : SPN R C m f) (hi : i < R) (hj : j < R) (hij : i ≠ j) (h1 : ∀ y, y < C → f' i y = f i y + f j y * t) (h2 : ∀ x y, x < R → y < C → x ≠ i → f' x y = f x y) : SPN R C m f' := by
  have hr : ∀ x, x < R → Sp R C f' (f x) := fun x hx => by
    by_cases e : x = i
    · subst e
      exact Sp.add (t := -t) (Sp.row hi) (Sp.row (i := j) hj) fun y hy => by rw [h1 y hy, h2 j y hj hy (fun e => hij e.symm)]; grind
    · exact (Sp.row hx).as fun y hy => (h2 x y hx hy e).symm
  refine ⟨fun x hx => ?_, fun x hx => (h.2 x hx).trans hr⟩
  by_cases e : x = i
  · subst e
    exact Sp.add (h.1 x hx) (h.1 j hj) h1
  · exact (h.1 x hx).as fun y hy => h2 x y hx hy e
theorem SPN.neg {R C i : Nat} {m f f' : Fn2} (h : SPN R C m f) (hi : i < R) (h1 : ∀ y, y < C → f' i y = -f i y) (h2 : ∀ x y, x < R → y < C → x ≠ i → f' x y = f x y) : SPN R C m f' := by
  have hr : ∀ x, x < R → Sp R C f' (f x) := fun x hx => by
    by_cases e : x = i
    · subst e
      exact Sp.neg (Sp.row hx) fun y hy => by rw [h1 y hy]; omega
    · exact (Sp.row hx).as fun y hy => (h2 x y hx hy e).symm
  refine ⟨fun x hx => ?_, fun x hx => (h.2 x hx).trans hr⟩
  by_cases e : x = i
  · subst e
    exact Sp.neg (h.1 x hx) h1
  · exact (h.1 x hx).as fun y hy => h2 x y hx hy e
theorem SPN.swap {R C i j : Nat} {m f : Fn2} (h : SPN R C m f) (hi : i < R) (hj : j < R) : SPN R C m (swF f i j) := by
  have e1 : ∀ x, ∃ z, (x < R → z < R) ∧ swF f i j x = f z := fun x => ⟨if x = i then j else if x = j then i else x, fun hx => (by (split; exact hj; split; exact hi; exact hx)), rfl⟩
  have e2 : ∀ x, ∃ z, (x < R → z < R) ∧ f x = swF f i j z := fun x => by
    refine ⟨if x = i then j else if x = j then i else x, fun hx => (by (split; exact hj; split; exact hi; exact hx)), ?_⟩
    funext y
    unfold swF
    congr 1
    by_cases a : x = i
    · subst a
      rw [if_pos rfl]
      by_cases b : j = x
      · rw [if_pos b, b]
      · rw [if_neg b, if_pos rfl]
    · rw [if_neg a]
      by_cases b : x = j
      · subst b
        rw [if_pos rfl, if_pos rfl]
      · rw [if_neg b, if_neg a, if_neg b]
  refine ⟨fun x hx => ?_, fun x hx => (h.2 x hx).trans fun k hk => ?_⟩
  · obtain ⟨z, hz, e⟩ := e1 x
    rw [e]; exact h.1 z (hz hx)
  · obtain ⟨z, hz, e⟩ := e2 k
    rw [e]; exact Sp.row (hz hk)
theorem SPN.refl (R C : Nat) (m : Fn2) : SPN R C m m := ⟨fun i hi => Sp.row hi, fun i hi => Sp.row hi⟩
theorem SPN.symm {R C : Nat} {m f : Fn2} (h : SPN R C m f) : SPN R C f m := ⟨h.2, h.1⟩
theorem SPN.trans {R C : Nat} {m f g : Fn2} (h : SPN R C m f) (k : SPN R C f g) : SPN R C m g := ⟨fun i hi => (k.1 i hi).trans h.1, fun i hi => (h.2 i hi).trans k.2⟩
/-- A unimodular matrix times another one: the same rows are spanned. -/
theorem SPN.left {n C : Nat} {u m : Fn2} (h : SPN n n idF u) : SPN n C m (mm n u m) := by
  refine ⟨fun i hi => Sp.mm hi, fun i hi => ?_⟩
  obtain ⟨c, hc⟩ := h.2 i hi
  refine ⟨c, fun y hy => ?_⟩
  have e1 : m i y = sumTo (fun l => idF i l * m l y) n := by
    rw [sumTo_one (i := i) n hi (fun k hk hne => by unfold idF; rw [if_neg (fun e => hne e.symm), Int.zero_mul])]
    unfold idF; rw [if_pos rfl, Int.one_mul]
  rw [e1]
  have e2 : sumTo (fun l => idF i l * m l y) n = sumTo (fun l => sumTo (fun k => c k * (u k l * m l y)) n) n := sumTo_congr n fun l hl => by
    rw [hc l hl, ← sumTo_mul]
    exact sumTo_congr n fun k _ => by grind
  rw [e2, sumTo_swap]
  exact sumTo_congr n fun k hk => by rw [sumTo_mul']; rfl
end Go.Proofs.YtlggfmfelakadaaGreatDoor

/-
  DERIVED. More unknowns than equations have a solution that is not all zeros; how many rows can be independent. No program in sight.
-/
namespace Go.Proofs.YtlggfmfelakadaaGreatDoor
set_option linter.unusedVariables false
/-- The place that sk leaves out is put back. -/
def unsk (c : Nat) (v : Int) (z : Nat → Int) (j : Nat) : Int := if j < c then z j else if j = c then v else z (j - 1)
theorem unsk_sk (c : Nat) (v : Int) (z : Nat → Int) (k : Nat) : unsk c v z (sk c k) = z k := by
  unfold unsk sk
  by_cases h : k < c
  · rw [if_pos h, if_pos h]
  · rw [if_neg h, if_neg (by omega), if_neg (by omega), Nat.add_sub_cancel]
theorem unsk_at (c : Nat) (v : Int) (z : Nat → Int) : unsk c v z c = v := by
  unfold unsk
  rw [if_neg (Nat.lt_irrefl _), if_pos rfl]
/-- A sum with one place set apart. -/
theorem sumTo_out {g : Nat → Int} {c n : Nat} (hc : c < n + 1) : sumTo g (n + 1) = g c + sumTo (fun k => g (sk c k)) n := by
  rw [sumTo_skip n hc]
  have h1 : sumTo g (n + 1) = sumTo (fun b => (if b = c then g c else 0) + (if b = c then 0 else g b)) (n + 1) := sumTo_congr (n + 1) fun k _ => by
    by_cases h : k = c
    · rw [if_pos h, if_pos h, h, Int.add_zero]
    · rw [if_neg h, if_neg h, Int.zero_add]
  rw [h1, sumTo_add, sumTo_one (i := c) (n + 1) hc (fun k _ hne => if_neg hne), if_pos rfl]
/-- More unknowns than equations. -/
theorem sys_zero : ∀ (m : Nat) (f : Fn2), ∃ z : Nat → Int, (∃ k, k < m + 1 ∧ z k ≠ 0) ∧ ∀ i, i < m → mv (m + 1) f z i = 0
  | 0, f => ⟨fun _ => 1, ⟨0, by omega, by decide⟩, fun i hi => absurd hi (Nat.not_lt_zero _)⟩
  | m + 1, f => by
    by_cases hp : ∃ c, c < m + 2 ∧ f 0 c ≠ 0
    · obtain ⟨c, hc, hne⟩ := hp
      obtain ⟨z, ⟨k, hk, hkz⟩, hz⟩ := sys_zero m fun i j => f 0 c * f (i + 1) (sk c j) - f (i + 1) c * f 0 (sk c j)
      refine ⟨unsk c (-sumTo (fun k => f 0 (sk c k) * z k) (m + 1)) fun k => f 0 c * z k, ⟨sk c k, sk_lt hk, ?_⟩, fun i hi => ?_⟩
      · rw [unsk_sk]
        exact Int.mul_ne_zero hne hkz
      · unfold mv
        rw [sumTo_out (n := m + 1) hc, unsk_at]
        have e1 : sumTo (fun k => f i (sk c k) * unsk c (-sumTo (fun k => f 0 (sk c k) * z k) (m + 1)) (fun k => f 0 c * z k) (sk c k)) (m + 1) = sumTo (fun k => f 0 c * (f i (sk c k) * z k)) (m + 1) := sumTo_congr (m + 1) fun k _ => by
          rw [unsk_sk]; grind
        rw [e1, sumTo_mul']
        rcases Nat.eq_zero_or_pos i with h0 | h0
        · subst h0
          grind
        · obtain ⟨i', rfl⟩ : ∃ i', i = i' + 1 := ⟨i - 1, by omega⟩
          have h2 := hz i' (by omega)
          unfold mv at h2
          have e2 : sumTo (fun k => (f 0 c * f (i' + 1) (sk c k) - f (i' + 1) c * f 0 (sk c k)) * z k) (m + 1) = f 0 c * sumTo (fun k => f (i' + 1) (sk c k) * z k) (m + 1) - f (i' + 1) c * sumTo (fun k => f 0 (sk c k) * z k) (m + 1) := by
            rw [← sumTo_mul', ← sumTo_mul', ← sumTo_sub]
            exact sumTo_congr (m + 1) fun k _ => by grind
          rw [e2] at h2
          grind
    · have h0 : ∀ c, c < m + 2 → f 0 c = 0 := fun c hc => Decidable.byContradiction fun hne => hp ⟨c, hc, hne⟩
      obtain ⟨z, ⟨k, hk, hkz⟩, hz⟩ := sys_zero m fun i j => f (i + 1) j
      refine ⟨fun j => if j < m + 1 then z j else 0, ⟨k, by omega, by show (if _ then _ else _) ≠ _; rw [if_pos hk]; exact hkz⟩, fun i hi => ?_⟩
      show sumTo (fun k => f i k * (if k < m + 1 then z k else 0)) (m + 1 + 1) = 0
      rw [sumTo_succ, if_neg (by omega), Int.mul_zero, Int.add_zero]
      have e1 : sumTo (fun k => f i k * (if k < m + 1 then z k else 0)) (m + 1) = sumTo (fun k => f i k * z k) (m + 1) := sumTo_congr (m + 1) fun k hk => by rw [if_pos hk]
      rw [e1]
      rcases Nat.eq_zero_or_pos i with hi0 | hi0
      · subst hi0
        exact sumTo_null (m + 1) fun k hk => by rw [h0 k (by omega), Int.zero_mul]
      · obtain ⟨i', rfl⟩ : ∃ i', i = i' + 1 := ⟨i - 1, by omega⟩
        exact hz i' (by omega)
/-- The first n rows of C cells are independent. -/
def Ind (n C : Nat) (v : Fn2) : Prop := ∀ z : Nat → Int, (∀ y, y < C → sumTo (fun k => z k * v k y) n = 0) → ∀ k, k < n → z k = 0
/-- Each of the first n rows of v, some times, is a sum of the first m rows of u. -/
def Span (n m C : Nat) (v u : Fn2) : Prop := ∀ i, i < n → ∃ (d : Int) (c : Nat → Int), d ≠ 0 ∧ ∀ y, y < C → d * v i y = sumTo (fun k => c k * u k y) m
theorem Ind.take {n m C : Nat} {v : Fn2} (h : Ind n C v) (hm : m ≤ n) : Ind m C v := fun z hz k hk => by
  have hs : ∀ y (q : Nat), m ≤ q → sumTo (fun k => (if k < m then z k else 0) * v k y) q = sumTo (fun k => z k * v k y) m := fun y q => by
    induction q with
    | zero => intro hq; obtain rfl : m = 0 := by omega
              rfl
    | succ q ih =>
      intro hq
      by_cases e : m = q + 1
      · subst e
        exact sumTo_congr (q + 1) fun k hk => by rw [if_pos hk]
      · rw [sumTo_succ, ih (by omega), if_neg (by omega), Int.zero_mul, Int.add_zero]
  have := h (fun k => if k < m then z k else 0) (fun y hy => by rw [hs y n hm]; exact hz y hy) k (by omega)
  simpa [hk] using this
/-- There are no more independent rows than rows that they are sums of. -/
theorem Ind.le {n m C : Nat} {v u : Fn2} (hi : Ind n C v) (hs : Span n m C v u) : n ≤ m := by
  refine Nat.le_of_not_lt fun hlt => ?_
  have hi' := hi.take (show m + 1 ≤ n by omega)
  have hch : ∀ i, ∃ (d : Int) (c : Nat → Int), i < m + 1 → d ≠ 0 ∧ ∀ y, y < C → d * v i y = sumTo (fun k => c k * u k y) m := fun i => by
    by_cases h : i < m + 1
    · obtain ⟨d, c, h1, h2⟩ := hs i (by omega)
      exact ⟨d, c, fun _ => ⟨h1, h2⟩⟩
    · exact ⟨0, fun _ => 0, fun h2 => absurd h2 h⟩
  obtain ⟨d, hd⟩ := Classical.axiomOfChoice hch
  obtain ⟨c, hc⟩ := Classical.axiomOfChoice hd
  obtain ⟨z, ⟨k, hk, hkz⟩, hz⟩ := sys_zero m fun k i => c i k
  have h0 := hi' (fun i => z i * d i) (fun y hy => by
    have e1 : sumTo (fun i => z i * d i * v i y) (m + 1) = sumTo (fun i => sumTo (fun k => z i * c i k * u k y) m) (m + 1) := sumTo_congr (m + 1) fun i hi => by
      rw [Int.mul_assoc, (hc i hi).2 y hy, ← sumTo_mul']
      exact sumTo_congr m fun k _ => by rw [Int.mul_assoc]
    rw [e1, sumTo_swap]
    refine sumTo_null m fun k hk => ?_
    have e2 : sumTo (fun i => z i * c i k * u k y) (m + 1) = sumTo (fun i => c i k * z i) (m + 1) * u k y := by
      rw [← sumTo_mul]
      exact sumTo_congr (m + 1) fun i _ => by grind
    rw [e2]
    have := hz k hk
    unfold mv at this
    rw [this, Int.zero_mul]) k hk
  exact (Int.mul_ne_zero hkz (hc k hk).1) h0
end Go.Proofs.YtlggfmfelakadaaGreatDoor

/-
  DERIVED. Elimination with primitive rows, step by step: no program in sight.
-/
namespace Go.Proofs.YtlggfmfelakadaaGreatDoor
set_option linter.unusedVariables false
def cbV (f : Nat → Nat → Int) (t j i k : Nat) : Int := (f t j).tdiv (Int.gcd (f i j) (f t j) : Nat) * f i k - (f i j).tdiv (Int.gcd (f i j) (f t j) : Nat) * f t k
def cbK (f : Nat → Nat → Int) (t j i k : Nat) : Nat → Nat → Int := fun a c => if a = i ∧ c < k then cbV f t j i c else f a c
theorem cbK_zero (f : Nat → Nat → Int) (t j i : Nat) : cbK f t j i 0 = f := by funext a c; simp [cbK]
theorem cbK_at (f : Nat → Nat → Int) (t j i k c : Nat) (h : k ≤ c) : cbK f t j i k i c = f i c := by unfold cbK; rw [if_neg (by omega)]
theorem cbK_t (f : Nat → Nat → Int) (t j i k c : Nat) (h : i ≠ t) : cbK f t j i k t c = f t c := by unfold cbK; rw [if_neg (by omega)]
theorem cbK_step (f : Nat → Nat → Int) (t j i k : Nat) : upd (cbK f t j i k) i k (cbV f t j i k) = cbK f t j i (k + 1) := by
  funext a c
  unfold upd cbK
  grind
def okQ (C : Nat) (f : Nat → Nat → Int) (t j i : Nat) : Bool := (List.range C).all fun k => isNum (cbV f t j i k)
def stQ (C : Nat) (f : Nat → Nat → Int) (t j i : Nat) : Nat → Nat → Int := prF C (cbK f t j i C) i
def rowsQ (C t j : Nat) : Nat → Nat → (Nat → Nat → Int) → Option (Nat → Nat → Int)
  | 0, _, f => some f
  | n + 1, i, f => if i = t ∨ f i j = 0 then rowsQ C t j n (i + 1) f else if okQ C f t j i = true then rowsQ C t j n (i + 1) (stQ C f t j i) else none
theorem rowsQ_skip {C t j R i : Nat} {f : Nat → Nat → Int} (hi : i < R) (h : i = t ∨ f i j = 0) : rowsQ C t j (R - i) i f = rowsQ C t j (R - (i + 1)) (i + 1) f := by
  rw [show R - i = (R - (i + 1)) + 1 by omega]
  conv => lhs; unfold rowsQ
  rw [if_pos h]
theorem rowsQ_do {C t j R i : Nat} {f : Nat → Nat → Int} (hi : i < R) (h : i ≠ t) (h0 : f i j ≠ 0) (hk : okQ C f t j i = true) : rowsQ C t j (R - i) i f = rowsQ C t j (R - (i + 1)) (i + 1) (stQ C f t j i) := by
  rw [show R - i = (R - (i + 1)) + 1 by omega]
  conv => lhs; unfold rowsQ
  rw [if_neg (by rintro (e | e); exact h e; exact h0 e), if_pos hk]
theorem rowsQ_bad {C t j R i : Nat} {f : Nat → Nat → Int} (hi : i < R) (h : i ≠ t) (h0 : f i j ≠ 0) (hk : okQ C f t j i = false) : rowsQ C t j (R - i) i f = none := by
  rw [show R - i = (R - (i + 1)) + 1 by omega]
  unfold rowsQ
  rw [if_neg (by rintro (e | e); exact h e; exact h0 e), if_neg (by rw [hk]; simp)]
theorem rowsQ_end (C t j R : Nat) (f : Nat → Nat → Int) : rowsQ C t j (R - R) R f = some f := by rw [Nat.sub_self]; rfl
structure QSt where
  f : Nat → Nat → Int
  ps : List Int
def colsQ (R C : Nat) : Nat → Nat → QSt → Option QSt
  | 0, _, s => some s
  | n + 1, j, s =>
    if R ≤ fnd s.f j (R - s.ps.length) s.ps.length then colsQ R C n (j + 1) s else
    match rowsQ C s.ps.length j (R - 0) 0 (swF s.f (fnd s.f j (R - s.ps.length) s.ps.length) s.ps.length) with
    | none => none
    | some f' => colsQ R C n (j + 1) ⟨f', s.ps ++ [(j : Int)]⟩
theorem colsQ_no {R C j : Nat} {f : Nat → Nat → Int} {ps : List Int} (hj : j < C) (hP : fnd f j (R - ps.length) ps.length = R) : colsQ R C (C - j) j ⟨f, ps⟩ = colsQ R C (C - (j + 1)) (j + 1) ⟨f, ps⟩ := by
  rw [show C - j = (C - (j + 1)) + 1 by omega]
  conv => lhs; unfold colsQ
  simp only [hP]
  rw [if_pos (Nat.le_refl _)]
theorem colsQ_none {R C j k : Nat} {f : Nat → Nat → Int} {ps : List Int} (hj : j < C) (hP : fnd f j (R - ps.length) ps.length = k) (hk : k < R) (hr : rowsQ C ps.length j (R - 0) 0 (swF f k ps.length) = none) : colsQ R C (C - j) j ⟨f, ps⟩ = none := by
  rw [show C - j = (C - (j + 1)) + 1 by omega]
  unfold colsQ
  simp only [hP]
  rw [if_neg (by omega), hr]
theorem colsQ_some {R C j k : Nat} {f f' : Nat → Nat → Int} {ps : List Int} (hj : j < C) (hP : fnd f j (R - ps.length) ps.length = k) (hk : k < R) (hr : rowsQ C ps.length j (R - 0) 0 (swF f k ps.length) = some f') : colsQ R C (C - j) j ⟨f, ps⟩ = colsQ R C (C - (j + 1)) (j + 1) ⟨f', ps ++ [(j : Int)]⟩ := by
  rw [show C - j = (C - (j + 1)) + 1 by omega]
  conv => lhs; unfold colsQ
  simp only [hP]
  rw [if_neg (by omega), hr]
theorem colsQ_end (R C : Nat) (s : QSt) : colsQ R C (C - C) C s = some s := by rw [Nat.sub_self]; rfl
theorem colsQ_full {R C : Nat} {s : QSt} (h : R ≤ s.ps.length) : ∀ n j, colsQ R C n j s = some s
  | 0, _ => rfl
  | n + 1, j => by
    unfold colsQ
    have := fnd_le s.f j (R - s.ps.length) s.ps.length
    rw [if_pos (by omega)]
    exact colsQ_full h n (j + 1)
/-- What holds of the rows between the steps: numbers, and primitive. -/
structure QOk (R C : Nat) (f : Nat → Nat → Int) : Prop where
  bd : ∀ i c, i < R → c < C → -400000000 ≤ f i c ∧ f i c ≤ 400000000
  pr : ∀ i, i < R → primL (rw_ C f i) = rw_ C f i
theorem rw_bd {C i : Nat} {f : Nat → Nat → Int} (h : ∀ c, c < C → -400000000 ≤ f i c ∧ f i c ≤ 400000000) (k : Nat) : ((rw_ C f i).getD k 0).natAbs ≤ 400000000 := by
  by_cases hk : k < C
  · rw [rw_at hk]; have := h k hk; omega
  · simp [List.getD, List.getElem?_eq_none (show (rw_ C f i).length ≤ k by rw [rw_len]; omega)]
theorem QOk.sw {R C k t : Nat} {f : Nat → Nat → Int} (h : QOk R C f) (hk : k < R) (ht : t < R) : QOk R C (swF f k t) := by
  have hx : ∀ i, i < R → (if i = k then t else if i = t then k else i) < R := fun i hi => by split; exact ht; split; exact hk; exact hi
  refine ⟨fun i c hi hc => h.bd _ c (hx i hi) hc, fun i hi => ?_⟩
  have e : rw_ C (swF f k t) i = rw_ C f (if i = k then t else if i = t then k else i) := rw_ext fun c hc => rfl
  rw [e]
  exact h.pr _ (hx i hi)
theorem QOk.all {R C : Nat} {f : Nat → Nat → Int} (h : ∀ i c, i < R → c < C → -400000000 ≤ f i c ∧ f i c ≤ 400000000) : QOk R C (prK C f R) := by
  refine ⟨fun i c hi hc => ?_, fun i hi => ?_⟩
  · have h1 := primL_bd (rw_bd (fun c hc => h i c hi hc)) c
    have e : prK C f R i c = (primL (rw_ C f i)).getD c 0 := by simp [prK, hi]
    rw [e]; omega
  · rw [rw_prK hi, primL_idem]
theorem QOk.st {R C t j i : Nat} {f : Nat → Nat → Int} (h : QOk R C f) (hi : i < R) (hk : okQ C f t j i = true) : QOk R C (stQ C f t j i) := by
  have hrow : ∀ c, c < C → -400000000 ≤ cbK f t j i C i c ∧ cbK f t j i C i c ≤ 400000000 := fun c hc => by
    have h1 : isNum (cbV f t j i c) = true := List.all_eq_true.1 hk c (List.mem_range.2 hc)
    have e : cbK f t j i C i c = cbV f t j i c := by unfold cbK; rw [if_pos ⟨rfl, hc⟩]
    rw [e]; exact (isNum_iff _).1 h1
  have hoth : ∀ a c, a ≠ i → cbK f t j i C a c = f a c := fun a c ha => by unfold cbK; rw [if_neg (fun e => ha e.1)]
  refine ⟨fun a c ha hc => ?_, fun a ha => ?_⟩
  · unfold stQ prF setR
    by_cases hai : a = i
    · rw [if_pos hai]
      have := primL_bd (rw_bd hrow) c
      omega
    · rw [if_neg hai, hoth a c hai]; exact h.bd a c ha hc
  · unfold stQ prF
    by_cases hai : a = i
    · subst hai
      rw [rw_setR (by rw [primL_len, rw_len]), primL_idem]
    · rw [rw_setR_ne hai, show rw_ C (cbK f t j i C) a = rw_ C f a from rw_ext fun c hc => hoth a c hai]
      exact h.pr a ha
/-- A row that is primitive stays as it is. -/
theorem prF_same {R C i : Nat} {f : Nat → Nat → Int} (h : primL (rw_ C f i) = rw_ C f i) : tb R C (prF C f i) = tb R C f := tb_ext fun a c ha hc => by
  unfold prF setR
  by_cases hai : a = i
  · rw [if_pos hai, h, rw_at hc, hai]
  · rw [if_neg hai]
/-- The whole. -/
def echQ (R C : Nat) (f : Nat → Nat → Int) : Option QSt := colsQ R C (C - 0) 0 ⟨prK C f R, []⟩
end Go.Proofs.YtlggfmfelakadaaGreatDoor

/-
  DERIVED. What SmithForm of both answers: three matrices and a flag.
-/
namespace Go.Proofs.YtlggfmfelakadaaGreatDoor
open Go.RowKit
set_option linter.unusedVariables false
def sfDO (r c : Int) : Option SS → Mx
  | some s => ⟨r, c, tb r.toNat c.toNat s.f⟩
  | none => .none
def sfUO (r : Int) : Option SS → Mx
  | some s => ⟨r, r, tb r.toNat r.toNat s.g⟩
  | none => .none
def sfVO (c : Int) : Option SS → Mx
  | some s => ⟨c, c, tb c.toNat c.toNat s.h⟩
  | none => .none
/-- The call returned three matrices, their cells their own, and the flag. -/
def M3R (m m' m'' : Mx) (b : Bool) (w : World) (e : Ending) (w' : World) : Prop :=
  ∃ A n cap A2 n2 cap2 A3 n3 cap3, e = .returned (.tuple #[.agg #[.int .i64 m.r, .int .i64 m.c, .slice A n cap], .agg #[.int .i64 m'.r, .int .i64 m'.c, .slice A2 n2 cap2], .agg #[.int .i64 m''.r, .int .i64 m''.c, .slice A3 n3 cap3], .bool b]) ∧
    OR w' w.heap.size (.slice A n cap) m.xs ∧ OR w' w.heap.size (.slice A2 n2 cap2) m'.xs ∧ OR w' w.heap.size (.slice A3 n3 cap3) m''.xs ∧ Apart (.slice A n cap) (.slice A2 n2 cap2) ∧ Apart (.slice A n cap) (.slice A3 n3 cap3) ∧ Apart (.slice A2 n2 cap2) (.slice A3 n3 cap3) ∧ Below w.heap.size w w'
theorem apart_nil {v : Value} : Apart (.slice none 0 0) v := by
  intro g h1
  simp [Value.ownBlock] at h1
theorem M3R.none_ {r c : Int} {X : Option SS} {w w' : World} (hX : X = none) (hb : Below w.heap.size w w') :
    M3R (sfDO r c X) (sfUO r X) (sfVO c X) X.isSome w (.returned (.tuple #[.agg #[.int .i64 0, .int .i64 0, .slice none 0 0], .agg #[.int .i64 0, .int .i64 0, .slice none 0 0], .agg #[.int .i64 0, .int .i64 0, .slice none 0 0], .bool false])) w' := by
  subst hX
  exact ⟨none, 0, 0, none, 0, 0, none, 0, 0, rfl, OR.nil_ _ _, OR.nil_ _ _, OR.nil_ _ _, apart_nil, apart_nil, apart_nil, hb⟩
theorem M3R.some_ {R C : Nat} {s : SS} {X : Option SS} {w w' : World} {A A2 A3 : Option Addr} {n cap n2 cap2 n3 cap3 : Nat} (hX : X = some s) (h1 : OR w' w.heap.size (.slice A n cap) (tb R C s.f)) (h2 : OR w' w.heap.size (.slice A2 n2 cap2) (tb R R s.g)) (h3 : OR w' w.heap.size (.slice A3 n3 cap3) (tb C C s.h))
    (ha : Apart (.slice A n cap) (.slice A2 n2 cap2)) (ha2 : Apart (.slice A n cap) (.slice A3 n3 cap3)) (ha3 : Apart (.slice A2 n2 cap2) (.slice A3 n3 cap3)) (hb : Below w.heap.size w w') :
    M3R (sfDO R C X) (sfUO R X) (sfVO C X) X.isSome w (.returned (.tuple #[.agg #[.int .i64 R, .int .i64 C, .slice A n cap], .agg #[.int .i64 R, .int .i64 R, .slice A2 n2 cap2], .agg #[.int .i64 C, .int .i64 C, .slice A3 n3 cap3], .bool true])) w' := by
  subst hX
  exact ⟨A, n, cap, A2, n2, cap2, A3, n3, cap3, rfl, h1, h2, h3, ha, ha2, ha3, hb⟩
theorem ret_M3 {fn : Func} {R : Ending → World → Prop} {a : Act} {w : World} {t t' t'' s : Tmp} {b n cap b' n' cap' b'' n'' cap'' : Nat} {r c r' c' r'' c'' : Int} {A A' A'' : Option Addr} (hr : fn.results = #[.cell t 26, .cell t' 26, .cell t'' 26, .tmp s])
    (ht : a.tmps.getD t undef = .pointer (some ⟨b, 0, none⟩)) (ht' : a.tmps.getD t' undef = .pointer (some ⟨b', 0, none⟩)) (ht'' : a.tmps.getD t'' undef = .pointer (some ⟨b'', 0, none⟩)) (h : BM w b r c A n cap) (h' : BM w b' r' c' A' n' cap') (h'' : BM w b'' r'' c'' A'' n'' cap'') (hd : a.defers = [])
    (hR : R (.returned (.tuple #[.agg #[.int .i64 r, .int .i64 c, .slice A n cap], .agg #[.int .i64 r', .int .i64 c', .slice A' n' cap'], .agg #[.int .i64 r'', .int .i64 c'', .slice A'' n'' cap''], a.tmps.getD s undef])) w) : bodyPost Tryz.prog fn R .ret a w :=
  bodyPost_ret (v := .tuple #[.agg #[.int .i64 r, .int .i64 c, .slice A n cap], .agg #[.int .i64 r', .int .i64 c', .slice A' n' cap'], .agg #[.int .i64 r'', .int .i64 c'', .slice A'' n'' cap''], a.tmps.getD s undef]) (by
    obtain ⟨r0, r1, r2, rf, rl⟩ := h.mx
    obtain ⟨s0, s1, s2, sf, sl⟩ := h'.mx
    obtain ⟨t0, t1, t2, tf, tl⟩ := h''.mx
    simp only [Array.getD_eq_getD_getElem?] at ht ht' ht''
    simp [results, hr, ht, ht', ht'', go_sem, r0, r1, r2, s0, s1, s2, t0, t1, t2]) hd hR
/-- The call's own variables: its argument and its three results. -/
structure HV3 (w wr : World) (r c : Int) (A : Option Addr) (n cap : Nat) : Prop where
  m : BM wr w.heap.size r c A n cap
  r1 : BM wr (w.heap.size + 1) 0 0 none 0 0
  r2 : BM wr (w.heap.size + 1 + 1) 0 0 none 0 0
  r3 : BM wr (w.heap.size + 1 + 1 + 1) 0 0 none 0 0
  b : Below w.heap.size w wr
section
variable {w wr w' : World} {r c : Int} {A : Option Addr} {n cap : Nat}
theorem HV3.lt (h : HV3 w wr r c A n cap) : w.heap.size + 1 + 1 + 1 < wr.heap.size := h.r3.lt
theorem HV3.below {D : Nat} (h : HV3 w wr r c A n cap) (hD : Below D wr w') (hs : w.heap.size + 1 + 1 + 1 + 1 ≤ D) : HV3 w w' r c A n cap :=
  ⟨h.m.below hD (by omega), h.r1.below hD (by omega), h.r2.below hD (by omega), h.r3.below hD (by omega), h.b.trans (hD.mono (by omega))⟩
theorem HV3.drew (h : HV3 w wr r c A n cap) : HV3 w wr.drew r c A n cap := ⟨h.m.drew, h.r1.drew, h.r2.drew, h.r3.drew, h.b.drew⟩
theorem HV3.b_ {w wr w' : World} {r c : Int} {A : Option Addr} {n cap D : Nat} (h : HV3 w wr r c A n cap) (hD : Below D wr w' := by assumption) (hs : w.heap.size + 1 + 1 + 1 + 1 ≤ D := by first | omega | (simp; done) | (simp; omega)) : HV3 w w' r c A n cap := HV3.below h hD hs
theorem HV3.drewN (h : HV3 w wr r c A n cap) (q : Nat) : HV3 w (wr.drewN q) r c A n cap := ⟨h.m.drewN q, h.r1.drewN q, h.r2.drewN q, h.r3.drewN q, below_drewN h.b q⟩
theorem HV3.alloc (h : HV3 w wr r c A n cap) (o : Obj) : HV3 w (wr.alloc o) r c A n cap :=
  have hl := h.lt
  ⟨h.m.alloc o, h.r1.alloc o, h.r2.alloc o, h.r3.alloc o, Below.alloc h.b (by omega) o⟩
end
/-- A Smith form that came to be has numbers only. -/
theorem rnd_gd {R C t p q : Nat} {s : SS} (h : SGD R C s) (e : ls2 R C s.f t = ((p : Int), (q : Int))) (hp : p < R) (hq : q < C) (ht : t < R) (htC : t < C) (hk : (rnd R C t s).1.OK R C) : SGD R C (rnd R C t s).1 := by
  refine ⟨hk, ?_⟩
  have hA : SGD R C (sfA R C t s) := by
    unfold sfA
    rw [e]
    exact (h.a1 hp ht).a2 hq htC
  exact sfD_nb (sfC_nb (sfB_nb hA.nb))
theorem sfIn_gd {R C t : Nat} (ht : t < R) (htC : t < C) : ∀ (k : Nat) (s : SS), sfMs R C t s ≤ k → SGD R C s → ¬ (ls2 R C s.f t).1 < 0 → ∀ s', sfIn R C t s = some s' → SGD R C s' := by
  intro k
  induction k with
  | zero =>
    intro s hk hg hn s' he
    rcases ls2_cases R C s.f t with ⟨e, _⟩ | ⟨p, q, e, ⟨a1, a2, a3, a4⟩, h3, h4, h5⟩
    · rw [e] at hn; exact absurd (by decide) hn
    · have hV : lsV R C t s = (s.f p q).natAbs := by unfold lsV; rw [e]; rfl
      unfold sfMs at hk
      omega
  | succ k ih =>
    intro s hk hg hn s' he
    rcases ls2_cases R C s.f t with ⟨e, _⟩ | ⟨p, q, e, ⟨a1, a2, a3, a4⟩, h3, h4, h5⟩
    · rw [e] at hn; exact absurd (by decide) hn
    · rw [sfIn] at he
      have hA : SGD R C (sfA R C t s) := by
        unfold sfA
        rw [e]
        exact (hg.a1 a2 ht).a2 a4 htC
      have hnb : (rnd R C t s).1.NBS := sfD_nb (sfC_nb (sfB_nb hA.nb))
      split at he
      · rename_i hok
        have hk' := (SS.ok_iff hnb).1 hok
        split at he
        · cases he
          exact rnd_gd hg e a2 a4 ht htC hk'
        · rename_i hd
          split at he
          · rename_i hlt
            obtain ⟨_, hne⟩ := rnd_lt hg ht htC e a2 a4 h3 (h5 ht htC) hk' (by simpa using hd)
            refine ih _ (by omega) (rnd_gd hg e a2 a4 ht htC hk') ?_ s' he
            obtain ⟨p2, q2, e2, _⟩ := ls2_some (R := R) (C := C) (Nat.le_refl t) ht (Nat.le_refl t) htC hne
            rw [e2]
            dsimp only
            omega
          · cases he
      · cases he
theorem sfOut_gd {R C : Nat} : ∀ (m t : Nat) (s s' : SS), t + m ≤ R → t + m ≤ C → SGD R C s → sfOut R C m t s = some s' → SGD R C s'
  | 0, t, s, s', _, _, hg, he => by cases he; exact hg
  | m + 1, t, s, s', h1, h2, hg, he => by
    by_cases hn : (ls2 R C s.f t).1 < 0
    · rw [sfOut_stop hn] at he; cases he; exact hg
    · rw [sfOut_go hn] at he
      unfold sfGo at he
      rcases hi : sfIn R C t s with _ | s2
      · rw [hi] at he; cases he
      · rw [hi] at he
        exact sfOut_gd m (t + 1) (sfN t s2) s' (by omega) (by omega) ((sfIn_gd (by omega) (by omega) _ s (Nat.le_refl _) hg hn s2 hi).n (by omega)) he
theorem idF_ok (R C : Nat) : OKF R C idF := by
  intro i j _ _
  unfold idF Num
  split <;> omega
theorem idF_nb : NBF idF := by
  intro i j
  refine .inr ?_
  unfold idF
  split <;> omega
theorem sfX_gd {R C : Nat} {xs : List Int} {s : SS} (h : sfX R C xs = some s) : isMat R C xs = true ∧ R ≤ 24 ∧ C ≤ 24 ∧ SGD R C s := by
  rcases hm : isMat (R : Int) (C : Int) xs with _ | _
  · rw [sfX_no hm] at h; cases h
  · rw [sfX_yes hm] at h
    have M := isMat_iff.1 hm
    have hs := start_gd (R := R) (C := C) M.num
    refine ⟨rfl, by have := M.r1; omega, by have := M.c1; omega, sfOut_gd _ _ _ _ (by omega) (by omega) ⟨⟨hs.ok.f, hs.ok.g, idF_ok C C⟩, ⟨hs.nb.f, hs.nb.g, idF_nb⟩⟩ h⟩
end Go.Proofs.YtlggfmfelakadaaGreatDoor

/-
  DERIVED. The echelon form with primitive rows: its shape, what its rows span, that two of one space are equal. No program in sight.
-/
namespace Go.Proofs.YtlggfmfelakadaaGreatDoor
set_option linter.unusedVariables false
/-- Some multiple of v is a sum of rows. -/
def QS (R C : Nat) (f : Fn2) (v : Nat → Int) : Prop := ∃ (d : Int) (c : Nat → Int), d ≠ 0 ∧ ∀ y, y < C → d * v y = sumTo (fun k => c k * f k y) R
section
variable {R S C r s : Nat} {p q : Nat → Nat} {f g : Fn2} {u v z : Nat → Int}
theorem QS.row {i : Nat} (hi : i < R) : QS R C f (f i) := ⟨1, idF i, by decide, fun y hy => by
  rw [sumTo_one (i := i) R hi (fun k hk hne => by unfold idF; rw [if_neg (fun e => hne e.symm), Int.zero_mul])]
  unfold idF; rw [if_pos rfl]⟩
/-- a u + b v, divided by d. -/
theorem QS.lin (h : QS R C f u) (h2 : QS R C f v) {a b d : Int} (hd : d ≠ 0) (e : ∀ y, y < C → d * z y = a * u y + b * v y) : QS R C f z := by
  obtain ⟨d1, c1, h1, hc1⟩ := h
  obtain ⟨d2, c2, h2, hc2⟩ := h2
  refine ⟨d1 * d2 * d, fun k => a * d2 * c1 k + b * d1 * c2 k, Int.mul_ne_zero (Int.mul_ne_zero h1 h2) hd, fun y hy => ?_⟩
  have e1 : sumTo (fun k => (a * d2 * c1 k + b * d1 * c2 k) * f k y) R = a * d2 * sumTo (fun k => c1 k * f k y) R + b * d1 * sumTo (fun k => c2 k * f k y) R := by
    rw [← sumTo_mul', ← sumTo_mul', ← sumTo_add]
    exact sumTo_congr R fun k _ => by grind
  rw [e1, ← hc1 y hy, ← hc2 y hy, show d1 * d2 * d * z y = d1 * d2 * (d * z y) by grind, e y hy]
  grind
theorem QS.zero (h : ∀ y, y < C → v y = 0) : QS R C f v := ⟨1, fun _ => 0, by decide, fun y hy => by
  rw [h y hy, sumTo_null R fun k _ => Int.zero_mul _]; rfl⟩
theorem QS.as {d : Int} (h : QS R C f u) (hd : d ≠ 0) (e : ∀ y, y < C → d * z y = u y) : QS R C f z :=
  h.lin h (a := 1) (b := 0) hd fun y hy => by rw [e y hy]; omega
theorem QS.sum {c : Nat → Int} {g : Fn2} : ∀ n, (∀ k, k < n → QS R C f (g k)) → QS R C f (fun y => sumTo (fun k => c k * g k y) n)
  | 0, _ => QS.zero fun _ _ => rfl
  | n + 1, h => (QS.sum (c := c) n fun k hk => h k (by omega)).lin (h n (by omega)) (a := 1) (b := c n) (d := 1) (by decide) fun y _ => by rw [sumTo_succ]; omega
theorem QS.trans (h : QS S C g v) (k : ∀ i, i < S → QS R C f (g i)) : QS R C f v := by
  obtain ⟨d, c, hd, hc⟩ := h
  exact (QS.sum (c := c) S k).as hd hc
/-- The rows of f and of g span one space. -/
def QSP (R S C : Nat) (f g : Fn2) : Prop := (∀ i, i < R → QS S C g (f i)) ∧ ∀ i, i < S → QS R C f (g i)
theorem QSP.refl (R C : Nat) (f : Fn2) : QSP R R C f f := ⟨fun i hi => QS.row hi, fun i hi => QS.row hi⟩
theorem QSP.symm (h : QSP R S C f g) : QSP S R C g f := ⟨h.2, h.1⟩
theorem QSP.trans {T : Nat} {h : Fn2} (a : QSP R S C f g) (b : QSP S T C g h) : QSP R T C f h := ⟨fun i hi => (a.1 i hi).trans b.1, fun i hi => (b.2 i hi).trans a.2⟩
theorem QSP.swap {i j : Nat} (hi : i < R) (hj : j < R) : QSP R R C f (swF f i j) := by
  have hx : ∀ x, x < R → (if x = i then j else if x = j then i else x) < R := fun x hx => by split; exact hj; split; exact hi; exact hx
  refine ⟨fun x hx' => ?_, fun x hx' => QS.row (f := f) (hx x hx')⟩
  have e : f x = swF f i j (if x = i then j else if x = j then i else x) := by
    funext y
    unfold swF
    grind
  rw [e]
  exact QS.row (hx x hx')
/-- Row i was turned into a multiple of itself and of row t, divided. -/
structure CMB (C : Nat) (f f' : Fn2) (i t : Nat) (d a b : Int) : Prop where
  d0 : d ≠ 0
  a0 : a ≠ 0
  at_ : ∀ c, c < C → d * f' i c = a * f i c + b * f t c
  other : ∀ x, x ≠ i → f' x = f x
theorem CMB.span {f' : Fn2} {i t : Nat} {d a b : Int} (h : CMB C f f' i t d a b) (hi : i < R) (ht : t < R) (hit : i ≠ t) : QSP R R C f f' := by
  have hT : QS R C f' (f t) := by rw [← h.other t (fun e => hit e.symm)]; exact QS.row ht
  refine ⟨fun x hx => ?_, fun x hx => ?_⟩
  · by_cases e : x = i
    · subst e
      exact (QS.row (f := f') hx).lin hT (a := d) (b := -b) h.a0 fun y hy => by rw [h.at_ y hy]; grind
    · rw [← h.other x e]; exact QS.row hx
  · by_cases e : x = i
    · subst e
      exact (QS.row (f := f) hx).lin (QS.row ht) h.d0 fun y hy => h.at_ y hy
    · rw [h.other x e]; exact QS.row hx
/-- Echelon form with the pivots p 0 .. p (r - 1), as far as C columns. -/
structure EF (R C r : Nat) (p : Nat → Nat) (f : Fn2) : Prop where
  le : r ≤ R
  lt : ∀ i, i < r → p i < C
  mono : ∀ i k, i < k → k < r → p i < p k
  left : ∀ i y, i < r → y < p i → f i y = 0
  ne : ∀ i, i < r → f i (p i) ≠ 0
  oth : ∀ i k, i < r → k < R → k ≠ i → f k (p i) = 0
  zero : ∀ i y, r ≤ i → i < R → y < C → f i y = 0
theorem EF.congr (H : EF R C r p f) (e : EqM R C g f) : EF R C r p g where
  le := H.le
  lt := H.lt
  mono := H.mono
  left := fun i y hi hy => by rw [e i y (Nat.lt_of_lt_of_le hi H.le) (Nat.lt_trans hy (H.lt i hi))]; exact H.left i y hi hy
  ne := fun i hi => by rw [e i (p i) (Nat.lt_of_lt_of_le hi H.le) (H.lt i hi)]; exact H.ne i hi
  oth := fun i k hi hk hne => by rw [e k (p i) hk (H.lt i hi)]; exact H.oth i k hi hk hne
  zero := fun i y h1 h2 h3 => by rw [e i y h2 h3]; exact H.zero i y h1 h2 h3
theorem EF.piv (H : EF R C r p f) (e : ∀ i, i < r → q i = p i) : EF R C r q f where
  le := H.le
  lt := fun i hi => by rw [e i hi]; exact H.lt i hi
  mono := fun i k hik hk => by rw [e i (by omega), e k hk]; exact H.mono i k hik hk
  left := fun i y hi hy => H.left i y hi (by rw [← e i hi]; exact hy)
  ne := fun i hi => by rw [e i hi]; exact H.ne i hi
  oth := fun i k hi hk hne => by rw [e i hi]; exact H.oth i k hi hk hne
  zero := H.zero
/-- The value at a pivot of a sum of rows. -/
theorem EF.at_ (H : EF R C r p f) {c : Nat → Int} {i : Nat} (hi : i < r) : sumTo (fun k => c k * f k (p i)) R = c i * f i (p i) :=
  sumTo_one R (Nat.lt_of_lt_of_le hi H.le) fun k hk hne => by rw [H.oth i k hi hk hne, Int.mul_zero]
/-- Where a vector of the space is 0 at a pivot, the coefficient is 0. -/
theorem EF.coef (H : EF R C r p f) {c : Nat → Int} {d : Int} (hv : ∀ y, y < C → d * v y = sumTo (fun k => c k * f k y) R) {i : Nat} (hi : i < r) (h0 : v (p i) = 0) : c i = 0 := by
  have := hv _ (H.lt i hi)
  rw [H.at_ hi, h0, Int.mul_zero] at this
  rcases Int.mul_eq_zero.1 this.symm with h | h
  · exact h
  · exact absurd h (H.ne i hi)
theorem EF.ind (H : EF R C r p f) : Ind r C f := fun z hz k hk => by
  have h1 := hz _ (H.lt k hk)
  rw [sumTo_one r hk (fun i hi hne => by rw [H.oth k i hk (Nat.lt_of_lt_of_le hi H.le) hne, Int.mul_zero])] at h1
  rcases Int.mul_eq_zero.1 h1 with h | h
  · exact h
  · exact absurd h (H.ne k hk)
theorem EF.next (H : EF R C r p f) (K : EF S C s q g) (hf : ∀ i, i < R → QS S C g (f i)) {i : Nat} (hi : i < r) (hs : i ≤ s) (hpq : ∀ k, k < i → p k = q k) : i < s ∧ q i ≤ p i := by
  have hiR := Nat.lt_of_lt_of_le hi H.le
  obtain ⟨d, c, hd, hc⟩ := hf i hiR
  have h0 : ∀ k, k < i → c k = 0 := fun k hk => K.coef hc (show k < s by omega) (by rw [← hpq k hk]; exact H.oth k i (by omega) hiR (by omega))
  have hz : ∀ y, y < C → (∀ k, k < S → i ≤ k → g k y = 0) → f i y = 0 := fun y hy h => by
    have e := hc y hy
    rw [sumTo_null S fun k hk => by
      rcases Nat.lt_or_ge k i with h1 | h1
      · rw [h0 k h1, Int.zero_mul]
      · rw [h k hk h1, Int.mul_zero]] at e
    rcases Int.mul_eq_zero.1 e with h1 | h1
    · exact absurd h1 hd
    · exact h1
  have his : i < s := by
    refine Nat.lt_of_not_le fun h => H.ne i hi (hz _ (H.lt i hi) fun k hk hik => K.zero k _ (by omega) hk (H.lt i hi))
  refine ⟨his, Nat.le_of_not_lt fun h => H.ne i hi (hz _ (H.lt i hi) fun k hk hik => ?_)⟩
  rcases Nat.lt_or_ge k s with h1 | h1
  · refine K.left k _ h1 ?_
    rcases Nat.lt_or_ge i k with h2 | h2
    · exact Nat.lt_trans h (K.mono i k h2 h1)
    · obtain rfl : k = i := by omega
      exact h
  · exact K.zero k _ h1 hk (H.lt i hi)
theorem EF.pivs (H : EF R C r p f) (K : EF S C s q g) (h : QSP R S C f g) : ∀ i, i ≤ r → i ≤ s ∧ ∀ k, k < i → p k = q k
  | 0, _ => ⟨Nat.zero_le _, fun k hk => absurd hk (Nat.not_lt_zero _)⟩
  | i + 1, hi => by
    obtain ⟨h1, h2⟩ := EF.pivs H K h i (by omega)
    obtain ⟨h3, h4⟩ := H.next K h.1 (show i < r by omega) h1 h2
    obtain ⟨-, h5⟩ := K.next H h.2 h3 (by omega) (fun k hk => (h2 k hk).symm)
    refine ⟨h3, fun k hk => ?_⟩
    rcases Nat.lt_or_ge k i with h6 | h6
    · exact h2 k h6
    · obtain rfl : k = i := by omega
      omega
/-- Two echelon forms of one space: as many rows, the same pivots, each row a multiple. -/
theorem EF.uniq (H : EF R C r p f) (K : EF S C s q g) (h : QSP R S C f g) : r = s ∧ (∀ k, k < r → p k = q k) ∧ ∀ i, i < r → ∃ d c : Int, d ≠ 0 ∧ c ≠ 0 ∧ ∀ y, y < C → d * f i y = c * g i y := by
  obtain ⟨h1, h2⟩ := H.pivs K h r (Nat.le_refl _)
  obtain ⟨h3, -⟩ := K.pivs H h.symm s (Nat.le_refl _)
  refine ⟨by omega, h2, fun i hi => ?_⟩
  have hiR := Nat.lt_of_lt_of_le hi H.le
  obtain ⟨d, c, hd, hc⟩ := h.1 i hiR
  have h0 : ∀ k, k < s → k ≠ i → c k = 0 := fun k hk hne => K.coef hc hk (by rw [← h2 k (by omega)]; exact H.oth k i (by omega) hiR (fun e => hne e.symm))
  have hv : ∀ y, y < C → d * f i y = c i * g i y := fun y hy => by
    rw [hc y hy]
    refine sumTo_one S (Nat.lt_of_lt_of_le (show i < s by omega) K.le) fun k hk hne => ?_
    rcases Nat.lt_or_ge k s with h4 | h4
    · rw [h0 k h4 hne, Int.zero_mul]
    · rw [K.zero k y h4 hk hy, Int.mul_zero]
  refine ⟨d, c i, hd, fun e => ?_, hv⟩
  have := hv _ (H.lt i hi)
  rw [e, Int.zero_mul] at this
  rcases Int.mul_eq_zero.1 this with h4 | h4
  · exact hd h4
  · exact H.ne i hi h4
end
/-- What divides all multiples divides the multiple of the divisor. -/
theorem gcdF_mul (c d : Int) (l : List Int) : ∀ a : Nat, d ∣ c * a → (∀ x ∈ l, d ∣ c * x) → d ∣ c * (l.foldl (fun (g : Nat) (x : Int) => Int.gcd g x) a : Nat) := by
  induction l with
  | nil => intro a h _; simpa using h
  | cons y l ih =>
    intro a h h2
    refine ih _ ?_ (fun x hx => h2 x (List.mem_cons_of_mem _ hx))
    have h3 : d ∣ (Int.gcd (c * a) (c * y) : Nat) := by
      have := Int.dvd_coe_gcd h (h2 y (List.mem_cons_self ..))
      exact this
    rw [Int.gcd_mul_left] at h3
    have h4 : ((c.natAbs * Int.gcd a y : Nat) : Int) ∣ c * (Int.gcd a y : Nat) := by
      rw [Int.natCast_mul]
      exact Int.mul_dvd_mul (Int.natAbs_dvd.2 (Int.dvd_refl c)) (Int.dvd_refl _)
    exact Int.dvd_trans h3 h4
theorem gcdL_mul {c d : Int} {l : List Int} (h : ∀ x ∈ l, d ∣ c * x) : d ∣ c * (gcdL l : Nat) := gcdF_mul c d l 0 (by simp) h
/-- Two primitive rows that are multiples of each other are equal. -/
theorem prim_uniq {l m : List Int} {d c : Int} (hl : primL l = l) (hm : primL m = m) (hlen : l.length = m.length) (hd : d ≠ 0) (hc : c ≠ 0) (e : ∀ k, k < l.length → d * l.getD k 0 = c * m.getD k 0) : l = m := by
  have hext : (∀ k, k < l.length → l.getD k 0 = m.getD k 0) → l = m := fun h => by
    refine List.ext_getElem hlen fun k h1 h2 => ?_
    have := h k h1
    simpa [List.getD, h1, h2] using this
  have hz : ∀ k, k < l.length → (l.getD k 0 = 0 ↔ m.getD k 0 = 0) := fun k hk => by
    have := e k hk
    constructor
    · intro h; rw [h, Int.mul_zero] at this
      rcases Int.mul_eq_zero.1 this.symm with h1 | h1
      · exact absurd h1 hc
      · exact h1
    · intro h; rw [h, Int.mul_zero] at this
      rcases Int.mul_eq_zero.1 this with h1 | h1
      · exact absurd h1 hd
      · exact h1
  rcases (primL_eq_iff l).1 hl with h0 | ⟨h1, h2⟩
  · refine hext fun k hk => ?_
    have h3 := gcdL_zero.1 h0 _ (mem_getD hk)
    rw [h3]; exact ((hz k hk).1 h3).symm
  · have hlt : fcN l < l.length := fcN_lt_iff.2 (by omega)
    have hfc : fcN m = fcN l := fcN_eq (by omega) (fun j hj => (hz j (by omega)).1 (fcN_zero l j hj)) (fun _ h => fcN_ne l hlt ((hz _ hlt).2 h))
    have hml : gcdL m ≠ 0 := fcN_lt_iff.1 (by omega)
    obtain ⟨m1, m2⟩ := ((primL_eq_iff m).1 hm).resolve_left hml
    have k1 : c ∣ d * (gcdL l : Nat) := gcdL_mul fun x hx => by
      obtain ⟨k, hk, rfl⟩ := List.mem_iff_getElem.1 hx
      have := e k hk
      rw [show l.getD k 0 = l[k] by simp [List.getD, hk]] at this
      rw [this]; exact Int.dvd_mul_right _ _
    have k2 : d ∣ c * (gcdL m : Nat) := gcdL_mul fun x hx => by
      obtain ⟨k, hk, rfl⟩ := List.mem_iff_getElem.1 hx
      have := e k (by omega)
      rw [show m.getD k 0 = m[k] by simp [List.getD, hk]] at this
      rw [← this]; exact Int.dvd_mul_right _ _
    rw [h1] at k1
    rw [m1] at k2
    have k3 : c ∣ d := by simpa using k1
    have k4 : d ∣ c := by simpa using k2
    have k5 : d.natAbs = c.natAbs := Nat.dvd_antisymm (Int.natAbs_dvd_natAbs.2 k4) (Int.natAbs_dvd_natAbs.2 k3)
    have k6 := e _ hlt
    have k7 := fcN_ne l hlt
    rw [hfc] at m2
    rcases (show d = c ∨ d = -c by omega) with k8 | k8
    · subst k8
      exact hext fun k hk => Int.eq_of_mul_eq_mul_left hd (e k hk)
    · exfalso
      subst k8
      have k9 : c * (m.getD (fcN l) 0 + l.getD (fcN l) 0) = 0 := by rw [Int.mul_add]; rw [Int.neg_mul] at k6; omega
      rcases Int.mul_eq_zero.1 k9 with k10 | k10
      · exact hc k10
      · omega
end Go.Proofs.YtlggfmfelakadaaGreatDoor

/-
  DERIVED. What EchelonOf computes is an echelon form of the same space; that of an echelon form is itself. No program in sight.
-/
namespace Go.Proofs.YtlggfmfelakadaaGreatDoor
set_option linter.unusedVariables false
theorem primL_mul (l : List Int) : ∃ D : Int, D ≠ 0 ∧ ∀ k, k < l.length → D * (primL l).getD k 0 = l.getD k 0 := by
  unfold primL
  by_cases h0 : gcdL l = 0
  · rw [if_pos h0]; exact ⟨1, by decide, fun k _ => Int.one_mul _⟩
  · rw [if_neg h0]
    have hd := divL_abs l
    refine ⟨divL l, fun e => by rw [e] at hd; simp at hd; omega, fun k hk => ?_⟩
    have h1 : (l.map (·.tdiv (divL l))).getD k 0 = (l.getD k 0).tdiv (divL l) := by simp [List.getD, hk]
    rw [h1]
    exact Int.mul_tdiv_cancel' (divL_dvd (mem_getD hk))
section
variable {R C r t j : Nat} {p : Nat → Nat} {f g : Fn2}
theorem QSP.scale {f g : Fn2} (h : ∀ i, i < R → ∃ D : Int, D ≠ 0 ∧ ∀ y, y < C → D * g i y = f i y) : QSP R R C f g := by
  refine ⟨fun i hi => ?_, fun i hi => ?_⟩
  · obtain ⟨D, hD, e⟩ := h i hi
    exact (QS.row (f := g) hi).lin (QS.row hi) (a := D) (b := 0) (d := 1) (by decide) fun y hy => by rw [← e y hy]; omega
  · obtain ⟨D, hD, e⟩ := h i hi
    exact (QS.row (f := f) hi).as hD e
theorem prK_span : QSP R R C f (prK C f R) := QSP.scale fun i hi => by
  obtain ⟨D, hD, e⟩ := primL_mul (rw_ C f i)
  refine ⟨D, hD, fun y hy => ?_⟩
  have := e y (by rw [rw_len]; exact hy)
  rw [rw_at hy] at this
  rw [← this]
  unfold prK
  rw [if_pos hi]
theorem stQ_cmb {i : Nat} (hi0 : f i j ≠ 0) (ht0 : f t j ≠ 0) (hj : j < C) : (∃ d a b, CMB C f (stQ C f t j i) i t d a b) ∧ stQ C f t j i i j = 0 := by
  obtain ⟨D, hD, e⟩ := primL_mul (rw_ C (cbK f t j i C) i)
  have e' : ∀ c, c < C → D * stQ C f t j i i c = cbV f t j i c := fun c hc => by
    have := e c (by rw [rw_len]; exact hc)
    rw [rw_at hc] at this
    have e2 : cbK f t j i C i c = cbV f t j i c := by unfold cbK; rw [if_pos ⟨rfl, hc⟩]
    rw [e2] at this
    rw [← this]
    unfold stQ prF setR
    rw [if_pos rfl]
  obtain ⟨x, hx⟩ : ((Int.gcd (f i j) (f t j) : Nat) : Int) ∣ f i j := Int.gcd_dvd_left ..
  obtain ⟨y, hy⟩ : ((Int.gcd (f i j) (f t j) : Nat) : Int) ∣ f t j := Int.gcd_dvd_right ..
  have hg : ((Int.gcd (f i j) (f t j) : Nat) : Int) ≠ 0 := fun h => hi0 (by rw [hx, h, Int.zero_mul])
  have kx : (f i j).tdiv (Int.gcd (f i j) (f t j) : Nat) = x := by
    generalize hG : ((Int.gcd (f i j) (f t j) : Nat) : Int) = G at *
    rw [hx]; exact Int.mul_tdiv_cancel_left x hg
  have ky : (f t j).tdiv (Int.gcd (f i j) (f t j) : Nat) = y := by
    generalize hG : ((Int.gcd (f i j) (f t j) : Nat) : Int) = G at *
    rw [hy]; exact Int.mul_tdiv_cancel_left y hg
  have hv : ∀ c, cbV f t j i c = y * f i c - x * f t c := fun c => by unfold cbV; rw [kx, ky]
  refine ⟨⟨D, y, -x, hD, fun h => ht0 (by rw [hy, h, Int.mul_zero]), fun c hc => by rw [e' c hc, hv]; grind, fun a ha => ?_⟩, ?_⟩
  · funext c
    unfold stQ prF setR cbK
    rw [if_neg ha, if_neg (fun e => ha e.1)]
  · have h1 := e' j hj
    rw [hv] at h1
    generalize ((Int.gcd (f i j) (f t j) : Nat) : Int) = G at *
    have h2 : y * f i j - x * f t j = 0 := by rw [hx, hy]; grind
    rw [h2] at h1
    rcases Int.mul_eq_zero.1 h1 with h3 | h3
    · exact absurd h3 hD
    · exact h3
/-- A step of the elimination keeps what is there. -/
theorem EF.cmb {f' : Fn2} {i : Nat} {d a b : Int} (H : EF R j r p f) (K : CMB C f f' i t d a b) (hj : j ≤ C) (ht : t < R) (hrt : r ≤ t) (hi : i < R) : EF R j r p f' := by
  have hz : ∀ x y, y < j → (f' x y = 0 ↔ f x y = 0) := fun x y hy => by
    by_cases e : x = i
    · subst e
      have h1 := K.at_ y (by omega)
      rw [H.zero t y hrt ht hy, Int.mul_zero, Int.add_zero] at h1
      constructor
      · intro h
        rw [h, Int.mul_zero] at h1
        rcases Int.mul_eq_zero.1 h1.symm with h2 | h2
        · exact absurd h2 K.a0
        · exact h2
      · intro h
        rw [h, Int.mul_zero] at h1
        rcases Int.mul_eq_zero.1 h1 with h2 | h2
        · exact absurd h2 K.d0
        · exact h2
    · rw [K.other x e]
  exact ⟨H.le, H.lt, H.mono, fun x y hx hy => (hz x y (Nat.lt_trans hy (H.lt x hx))).2 (H.left x y hx hy), fun x hx h => H.ne x hx ((hz x _ (H.lt x hx)).1 h), fun x k hx hk hne => (hz k _ (H.lt x hx)).2 (H.oth x k hx hk hne), fun x y h1 h2 h3 => (hz x y h3).2 (H.zero x y h1 h2 h3)⟩
/-- What holds inside the sweep of a column. -/
structure SwQ (R C j t : Nat) (p : Nat → Nat) (f0 : Fn2) (i : Nat) (f : Fn2) : Prop where
  ef : EF R j t p f
  sp : QSP R R C f0 f
  ok : QOk R C f
  nz : f t j ≠ 0
  done : ∀ x, x < i → x < R → x ≠ t → f x j = 0
theorem SwQ.run {f0 : Fn2} (hj : j < C) (ht : t < R) : ∀ (n i : Nat) (f f' : Fn2), i + n = R → SwQ R C j t p f0 i f → rowsQ C t j n i f = some f' → SwQ R C j t p f0 R f'
  | 0, i, f, f', hi, H, h => by
    unfold rowsQ at h
    injection h with h
    subst h
    obtain rfl : i = R := by omega
    exact H
  | n + 1, i, f, f', hi, H, h => by
    unfold rowsQ at h
    split at h
    · rename_i hc
      refine SwQ.run hj ht n (i + 1) f f' (by omega) ⟨H.ef, H.sp, H.ok, H.nz, fun x hx hxR hxt => ?_⟩ h
      rcases Nat.lt_or_ge x i with h1 | h1
      · exact H.done x h1 hxR hxt
      · obtain rfl : x = i := by omega
        rcases hc with hc | hc
        · exact absurd hc hxt
        · exact hc
    · rename_i hc
      split at h
      · rename_i hk
        have hit : i ≠ t := fun e => hc (.inl e)
        have hi0 : f i j ≠ 0 := fun e => hc (.inr e)
        obtain ⟨⟨d, a, b, K⟩, hz⟩ := stQ_cmb (C := C) hi0 H.nz hj
        refine SwQ.run hj ht n (i + 1) _ f' (by omega) ⟨H.ef.cmb K (by omega) ht (Nat.le_refl _) (by omega), H.sp.trans (K.span (by omega) ht hit), H.ok.st (by omega) hk, ?_, fun x hx hxR hxt => ?_⟩ h
        · rw [K.other t (fun e => hit e.symm)]; exact H.nz
        · rcases Nat.lt_or_ge x i with h1 | h1
          · rw [K.other x (by omega)]; exact H.done x h1 hxR hxt
          · obtain rfl : x = i := by omega
            exact hz
      · cases h
theorem fnd_zero (f : Nat → Nat → Int) (j : Nat) : ∀ n k i, k ≤ i → i < fnd f j n k → f i j = 0
  | 0, k, i, h1, h2 => by unfold fnd at h2; omega
  | n + 1, k, i, h1, h2 => by
    unfold fnd at h2
    split at h2
    · rename_i h0
      by_cases e : i = k
      · rw [e]; exact h0
      · exact fnd_zero f j n (k + 1) i (by omega) h2
    · omega
theorem fnd_none (f : Nat → Nat → Int) (j : Nat) : ∀ n k, (∀ i, k ≤ i → i < k + n → f i j = 0) → fnd f j n k = k + n
  | 0, k, _ => rfl
  | n + 1, k, h => by
    unfold fnd
    rw [if_pos (h k (Nat.le_refl _) (by omega)), fnd_none f j n (k + 1) (fun i h1 h2 => h i (by omega) (by omega))]
    omega
/-- The pivots as a function. -/
def pf (ps : List Int) (i : Nat) : Nat := (ps.getD i 0).toNat
theorem pf_snoc {ps : List Int} {i : Nat} (h : i < ps.length) (j : Nat) : pf (ps ++ [(j : Int)]) i = pf ps i := by unfold pf; simp [List.getD, List.getElem?_append_left h]
theorem pf_last (ps : List Int) (j : Nat) : pf (ps ++ [(j : Int)]) ps.length = j := by unfold pf; simp [List.getD]
theorem EF.sw (H : EF R j t p f) {k : Nat} (hk : k < R) (htk : t ≤ k) (htR : t < R) : EF R j t p (swF f k t) := by
  have h1 : ∀ i, i < t → swF f k t i = f i := fun i hi => by
    funext y; unfold swF; rw [if_neg (by omega), if_neg (by omega)]
  have h2 : ∀ i, t ≤ i → i < R → ∃ i', t ≤ i' ∧ i' < R ∧ swF f k t i = f i' := fun i ha hb => by
    refine ⟨if i = k then t else if i = t then k else i, ?_, ?_, rfl⟩ <;> grind
  refine ⟨H.le, H.lt, H.mono, fun i y hi hy => by rw [h1 i hi]; exact H.left i y hi hy, fun i hi => by rw [h1 i hi]; exact H.ne i hi, fun i x hi hx hne => ?_, fun i y ha hb hy => ?_⟩
  · rcases Nat.lt_or_ge x t with h | h
    · rw [h1 x h]; exact H.oth i x hi hx hne
    · obtain ⟨x', ha, hb, e⟩ := h2 x h hx
      rw [e]; exact H.oth i x' hi hb (by omega)
  · obtain ⟨x', h3, h4, e⟩ := h2 i ha hb
    rw [e]; exact H.zero x' y h3 h4 hy
/-- A column done, with a pivot in it. -/
theorem EF.more (H : EF R j t p f) (ht : t < R) (hnz : f t j ≠ 0) (hz : ∀ x, x < R → x ≠ t → f x j = 0) {q : Nat → Nat} (hq : ∀ i, i < t → q i = p i) (hqt : q t = j) : EF R (j + 1) (t + 1) q f := by
  have hc : ∀ i, i < t + 1 → i < t ∨ i = t := fun i h => by omega
  refine ⟨by omega, fun i hi => ?_, fun i k hik hk => ?_, fun i y hi hy => ?_, fun i hi => ?_, fun i k hi hk hne => ?_, fun i y h1 h2 h3 => ?_⟩
  · rcases hc i hi with h | rfl
    · rw [hq i h]; have := H.lt i h; omega
    · omega
  · rcases hc k hk with h | rfl
    · rw [hq i (by omega), hq k h]; exact H.mono i k hik h
    · rw [hqt, hq i hik]; exact H.lt i hik
  · rcases hc i hi with h | rfl
    · rw [hq i h] at hy; exact H.left i y h hy
    · rw [hqt] at hy; exact H.zero i y (Nat.le_refl _) ht hy
  · rcases hc i hi with h | rfl
    · rw [hq i h]; exact H.ne i h
    · rw [hqt]; exact hnz
  · rcases hc i hi with h | rfl
    · rw [hq i h]; exact H.oth i k h hk hne
    · rw [hqt]; exact hz k hk hne
  · by_cases e : y = j
    · subst e; exact hz i h2 (by omega)
    · exact H.zero i y (by omega) h2 (by omega)
theorem EF.skip (H : EF R j t p f) (hz : ∀ x, t ≤ x → x < R → f x j = 0) : EF R (j + 1) t p f :=
  ⟨H.le, fun i hi => by have := H.lt i hi; omega, H.mono, H.left, H.ne, H.oth, fun i y h1 h2 h3 => by
    by_cases e : y = j
    · subst e; exact hz i h1 h2
    · exact H.zero i y h1 h2 (by omega)⟩
theorem colsQ_ef : ∀ (n j : Nat) (s s' : QSt), j + n = C → EF R j s.ps.length (pf s.ps) s.f → QOk R C s.f → (∀ x ∈ s.ps, 0 ≤ x) → colsQ R C n j s = some s' → EF R C s'.ps.length (pf s'.ps) s'.f ∧ QOk R C s'.f ∧ QSP R R C s.f s'.f ∧ ∀ x ∈ s'.ps, 0 ≤ x
  | 0, j, s, s', hj, H, K, N, h => by
    unfold colsQ at h
    injection h with h
    subst h
    obtain rfl : j = C := by omega
    exact ⟨H, K, QSP.refl _ _ _, N⟩
  | n + 1, j, s, s', hj, H, K, N, h => by
    unfold colsQ at h
    have hle := fnd_le s.f j (R - s.ps.length) s.ps.length
    have hH := H.le
    split at h
    · rename_i hk
      exact colsQ_ef n (j + 1) s s' (by omega) (H.skip fun x h1 h2 => fnd_zero s.f j (R - s.ps.length) s.ps.length x h1 (by omega)) K N h
    · rename_i hk
      generalize hF : fnd s.f j (R - s.ps.length) s.ps.length = k at *
      have hne : s.f k j ≠ 0 := by rw [← hF]; exact fnd_ne s.f j _ _ (by rw [hF]; omega)
      have htR : s.ps.length < R := by omega
      split at h
      · cases h
      · rename_i f' hr
        have W : SwQ R C j s.ps.length (pf s.ps) (swF s.f k s.ps.length) 0 (swF s.f k s.ps.length) := ⟨H.sw (by omega) hle.1 htR, QSP.refl _ _ _, K.sw (by omega) htR, by rw [swF_t]; exact hne, fun x hx => absurd hx (Nat.not_lt_zero _)⟩
        have W' := SwQ.run (by omega) htR (R - 0) 0 _ f' (by omega) W hr
        obtain ⟨a1, a2, a3, a4⟩ := colsQ_ef n (j + 1) ⟨f', s.ps ++ [(j : Int)]⟩ s' (by omega) (by
          simp only [List.length_append, List.length_cons, List.length_nil]
          exact W'.ef.more htR W'.nz (fun x hx hxt => W'.done x hx hx hxt) (fun i hi => pf_snoc hi j) (pf_last _ j)) W'.ok (by
          intro x hx
          rcases List.mem_append.1 hx with hx | hx
          · exact N x hx
          · simp at hx; omega) h
        exact ⟨a1, a2, ((QSP.swap (by omega) htR).trans W'.sp).trans a3, a4⟩
/-- What EchelonOf computes. -/
theorem echQ_ef {s : QSt} (hb : ∀ i c, i < R → c < C → -400000000 ≤ f i c ∧ f i c ≤ 400000000) (h : echQ R C f = some s) : EF R C s.ps.length (pf s.ps) s.f ∧ QOk R C s.f ∧ QSP R R C f s.f ∧ ∀ x ∈ s.ps, 0 ≤ x := by
  obtain ⟨a1, a2, a3, a4⟩ := colsQ_ef (C - 0) 0 ⟨prK C f R, []⟩ s (by omega) ⟨Nat.zero_le _, fun i hi => absurd hi (Nat.not_lt_zero _), fun i k _ hk => absurd hk (Nat.not_lt_zero _), fun i y hi => absurd hi (Nat.not_lt_zero _), fun i hi => absurd hi (Nat.not_lt_zero _), fun i k hi => absurd hi (Nat.not_lt_zero _), fun i y _ _ hy => absurd hy (Nat.not_lt_zero _)⟩ (QOk.all hb) (fun x hx => by cases hx) h
  exact ⟨a1, a2, prK_span.trans a3, a4⟩
theorem rowsQ_none : ∀ n i (f : Fn2), (∀ x, i ≤ x → x < i + n → x = t ∨ f x j = 0) → rowsQ C t j n i f = some f
  | 0, i, f, _ => rfl
  | n + 1, i, f, h => by
    unfold rowsQ
    rw [if_pos (h i (Nat.le_refl _) (by omega))]
    exact rowsQ_none n (i + 1) f fun x h1 h2 => h x (by omega) (by omega)
theorem colsQ_again (H : EF R C r p g) : ∀ (n j : Nat) (ps : List Int), j + n = C → ps.length ≤ r → (∀ i, i < ps.length → p i < j) → (∀ i, ps.length ≤ i → i < r → j ≤ p i) → ∃ ps', colsQ R C n j ⟨g, ps⟩ = some ⟨g, ps ++ ps'⟩ ∧ ps.length + ps'.length = r ∧ ∀ i, i < ps'.length → ps'.getD i 0 = (p (ps.length + i) : Int)
  | 0, j, ps, hj, h1, h2, h3 => by
    refine ⟨[], by rw [List.append_nil]; rfl, ?_, fun i hi => absurd hi (Nat.not_lt_zero _)⟩
    refine Nat.le_antisymm (by simpa using h1) (Nat.le_of_not_lt fun h => ?_)
    simp at h
    have := h3 ps.length (Nat.le_refl _) h
    have := H.lt _ h
    omega
  | n + 1, j, ps, hj, h1, h2, h3 => by
    have hrR := H.le
    unfold colsQ
    by_cases hc : ps.length < r ∧ p ps.length = j
    · obtain ⟨hc1, hc2⟩ := hc
      have hne := H.ne _ hc1
      rw [hc2] at hne
      simp only [fnd_here (show ps.length < R by omega) hne]
      rw [if_neg (by omega), swF_same, rowsQ_none (R - 0) 0 g (fun x _ hx => by
        by_cases e : x = ps.length
        · exact .inl e
        · right; rw [← hc2]; exact H.oth _ x hc1 (by omega) e)]
      obtain ⟨ps', e1, e2, e3⟩ := colsQ_again H n (j + 1) (ps ++ [(j : Int)]) (by omega) (by simp; omega) (fun i hi => by
        simp at hi
        by_cases e : i = ps.length
        · rw [e]; omega
        · have := h2 i (by omega); omega) (fun i ha hb => by
        simp at ha
        have := H.mono ps.length i (by omega) hb; omega)
      refine ⟨(j : Int) :: ps', ?_, by simp at e2 ⊢; omega, fun i hi => ?_⟩
      · simp only; rw [e1]; simp
      · cases i with
        | zero => simp [hc2]
        | succ i =>
          have := e3 i (by simpa using hi)
          simp at this ⊢
          rw [this]
          congr 2
          omega
    · have hz : ∀ x, ps.length ≤ x → x < ps.length + (R - ps.length) → g x j = 0 := fun x ha hb => by
        rcases Nat.lt_or_ge x r with h | h
        · have q1 := h3 x ha h
          by_cases e : p x = j
          · exfalso
            by_cases e2 : x = ps.length
            · subst e2; exact hc ⟨h, e⟩
            · have := H.mono ps.length x (by omega) h
              have := h3 ps.length (Nat.le_refl _) (by omega)
              omega
          · exact H.left x j h (by omega)
        · exact H.zero x j h (by omega) (by omega)
      simp only [fnd_none g j _ _ hz]
      rw [if_pos (by omega)]
      refine colsQ_again H n (j + 1) ps (by omega) h1 (fun i hi => by have := h2 i hi; omega) (fun i ha hb => ?_)
      have q1 := h3 i ha hb
      by_cases e : p i = j
      · exfalso
        by_cases e2 : i = ps.length
        · subst e2; exact hc ⟨hb, e⟩
        · have := H.mono ps.length i (by omega) hb
          have := h3 ps.length (Nat.le_refl _) (by omega)
          omega
      · omega
end
theorem getD_ext {l m : List Int} (hlen : l.length = m.length) (h : ∀ k, k < l.length → l.getD k 0 = m.getD k 0) : l = m := by
  refine List.ext_getElem hlen fun k h1 h2 => ?_
  have := h k h1
  simpa [List.getD, h1, h2] using this
/-- The echelon form of an echelon form is itself. -/
theorem echQ_again {R C : Nat} {g : Fn2} {s : QSt} (H : EF R C s.ps.length (pf s.ps) s.f) (K : QOk R C s.f) (N : ∀ x ∈ s.ps, 0 ≤ x) (e : EqM R C g s.f) : ∃ s', echQ R C g = some s' ∧ s'.ps = s.ps ∧ EqM R C s'.f s.f := by
  have hE : EqM R C (prK C g R) s.f := fun i c hi hc => by
    unfold prK
    rw [if_pos hi, show rw_ C g i = rw_ C s.f i from rw_ext fun y hy => e i y hi hy, K.pr i hi, rw_at hc]
  obtain ⟨ps', e1, e2, e3⟩ := colsQ_again (H.congr hE) (C - 0) 0 [] (by omega) (Nat.zero_le _) (fun i hi => absurd hi (Nat.not_lt_zero _)) (fun i _ _ => Nat.zero_le _)
  refine ⟨_, e1, ?_, hE⟩
  simp only [List.nil_append, List.length_nil, Nat.zero_add] at e2 e3 ⊢
  refine getD_ext e2 fun k hk => ?_
  rw [e3 k hk]
  unfold pf
  have := N _ (mem_getD (show k < s.ps.length by omega))
  omega
/-- Two echelon forms of one space are equal. -/
theorem ech_uniq {R S C : Nat} {s s2 : QSt} (H : EF R C s.ps.length (pf s.ps) s.f) (K : QOk R C s.f) (N : ∀ x ∈ s.ps, 0 ≤ x) (H2 : EF S C s2.ps.length (pf s2.ps) s2.f) (K2 : QOk S C s2.f) (N2 : ∀ x ∈ s2.ps, 0 ≤ x) (h : QSP R S C s.f s2.f) : s.ps = s2.ps ∧ ∀ i y, i < s.ps.length → y < C → s.f i y = s2.f i y := by
  obtain ⟨u1, u2, u3⟩ := H.uniq H2 h
  refine ⟨getD_ext u1 fun k hk => ?_, fun i y hi hy => ?_⟩
  · have h1 := N _ (mem_getD hk)
    have h2 := N2 _ (mem_getD (show k < s2.ps.length by omega))
    have h3 := u2 k hk
    unfold pf at h3
    omega
  · obtain ⟨d, c, hd, hc, hv⟩ := u3 i hi
    have h1 := H.le
    have h2 := H2.le
    have := prim_uniq (K.pr i (by omega)) (K2.pr i (by omega)) (by rw [rw_len, rw_len]) hd hc (fun k hk => by
      rw [rw_len] at hk
      rw [rw_at hk, rw_at hk]; exact hv k hk)
    rw [← rw_at (f := s.f) (i := i) hy, this, rw_at hy]
theorem rowL_tbQ {R C i : Nat} {f : Fn2} (hi : i < R) : (rowL (tb R C f) C i).length = C := rowL_len (by rw [tb_len]; have := Nat.mul_le_mul_right C (show i + 1 ≤ R by omega); rw [Nat.add_mul, Nat.one_mul] at this; exact this)
theorem QOk.mat {R C : Nat} {f : Fn2} (h : QOk R C f) (hR : R ≤ 24) (hC : C ≤ 24) : isMat R C (tb R C f) = true :=
  isMat_iff.2 ⟨by omega, by omega, by omega, by omega, by rw [tb_len]; simp, by
    rw [List.all_eq_true]
    exact tb_mem fun i j hi hj => (isNum_iff _).2 (h.bd i j hi hj)⟩
/-- The shape is what IsEchelon asks. -/
theorem EF.echelon {R C r : Nat} {p : Nat → Nat} {f : Fn2} (H : EF R C r p f) (K : QOk R C f) (hR : R ≤ 24) (hC : C ≤ 24) : echB R C (tb R C f) = true := by
  have hpv : ∀ i, i < r → pv (tb R C f) C i = p i := fun i hi => by
    have hiR : i < R := Nat.lt_of_lt_of_le hi H.le
    have hpC := H.lt i hi
    refine fcN_eq (by rw [rowL_tbQ hiR]; omega) (fun j hj => ?_) (fun _ => ?_)
    · rw [rowL_getD (by omega), cel_tb hiR (by omega)]
      exact H.left i j hi hj
    · rw [rowL_getD hpC, cel_tb hiR hpC]
      exact H.ne i hi
  have hpz : ∀ i, r ≤ i → i < R → pv (tb R C f) C i = C := fun i h1 h2 => by
    refine fcN_eq (by rw [rowL_tbQ h2]; omega) (fun j hj => ?_) (fun h => by rw [rowL_tbQ h2] at h; omega)
    rw [rowL_getD hj, cel_tb h2 hj]
    exact H.zero i j h1 h2 hj
  have hrow : ∀ i, i < R → rowL (tb R C f) C i = rw_ C f i := fun i hi => getD_ext (by rw [rowL_tbQ hi, rw_len]) fun k hk => by
    rw [rowL_tbQ hi] at hk
    rw [rowL_getD hk, cel_tb hi hk, rw_at hk]
  have hM := K.mat hR hC
  unfold echB
  rw [hM, Bool.true_and, List.all_eq_true]
  intro i hi
  have hi' : i < R := by simpa using hi
  simp only [Int.toNat_natCast]
  unfold erow
  rcases Nat.lt_or_ge i r with hir | hir
  · have hpC := H.lt i hir
    have hpr := K.pr i hi'
    rw [← hrow i hi'] at hpr
    obtain ⟨g1, g2⟩ := (prim_row (rowL_tbQ hi') (by rw [hpv i hir]; exact hpC)).1 hpr
    rw [hpv i hir] at g2 ⊢
    rw [if_pos hpC]
    have hlast : lastP (tb R C f) C i < p i := by
      cases i with
      | zero => rw [lastP_zero]; omega
      | succ i =>
        rw [lastP_succ, hpv i (by omega)]
        have := H.mono i (i + 1) (by omega) hir; omega
    simp only [Bool.and_eq_true, decide_eq_true_eq]
    refine ⟨⟨⟨hlast, g2⟩, g1⟩, ?_⟩
    rw [List.all_eq_true]
    intro k hk
    have hk' := List.mem_range.1 hk
    unfold ezc
    rw [hpv i hir, cel_tb hk' hpC]
    by_cases e : k = i
    · simp [e]
    · simp [e, H.oth i k hir hk' e]
  · rw [hpz i hir hi', if_neg (Nat.lt_irrefl _)]
end Go.Proofs.YtlggfmfelakadaaGreatDoor

/-
  DERIVED. What stays under all operations of the Smith form; u m v = d, and u takes only zeros to zeros: no program in sight.
-/
namespace Go.Proofs.YtlggfmfelakadaaGreatDoor
set_option linter.unusedVariables false
/-- A property that stays under the operations. -/
structure Stays (R C t0 : Nat) (P : SS → Prop) : Prop where
  radd : ∀ (s : SS) (i j : Nat) (t : Int), i < R → j < R → t0 ≤ i → t0 ≤ j → i ≠ j → SGD R C s → (s.wr (s.row.add i j t)).OK R C → P s → P (s.wr (s.row.add i j t))
  rswap : ∀ (s : SS) (i j : Nat), i < R → j < R → t0 ≤ i → t0 ≤ j → i ≠ j → SGD R C s → P s → P (s.wr (s.row.swap i j))
  rneg : ∀ (s : SS) (i : Nat), i < R → t0 ≤ i → SGD R C s → P s → P (s.wr (s.row.neg i))
  cadd : ∀ (s : SS) (i j : Nat) (t : Int), i < C → j < C → t0 ≤ i → t0 ≤ j → i ≠ j → SGD R C s → (s.wc (s.col.add i j t)).OK R C → P s → P (s.wc (s.col.add i j t))
  cswap : ∀ (s : SS) (i j : Nat), i < C → j < C → t0 ≤ i → t0 ≤ j → i ≠ j → SGD R C s → P s → P (s.wc (s.col.swap i j))
section
variable {R C t : Nat} {P : SS → Prop} {s : SS}
theorem Stays.b (H : Stays R C t P) (h : SGD R C s) (hP : P s) (ht : t < R) : ∀ n, t + n ≤ R → (s.wr (swS t t t s.row n)).OK R C → P (s.wr (swS t t t s.row n))
  | 0, _, _ => hP
  | n + 1, hn, hk => by
    have hk' : (s.wr (swS t t t s.row n)).OK R C := by
      have h1 := swS_back (R := R) (C := C) h.row.nb hk.ofRow
      exact ⟨h1.f, h1.g, hk.h⟩
    have ih := H.b h hP ht n (by omega) hk'
    rw [swS_succ] at hk ⊢
    split
    · rename_i hc
      rw [if_pos hc] at hk
      have hg : SGD R C (s.wr (swS t t t s.row n)) := ⟨hk', h.nb.wr (swS_nb h.row.nb n)⟩
      exact H.radd (s.wr (swS t t t s.row n)) (t + n) t _ (by omega) ht (by omega) (Nat.le_refl _) hc.1 hg hk ih
    · exact ih
theorem Stays.c (H : Stays R C t P) (h : SGD R C s) (hP : P s) (ht : t < C) : ∀ n, t + n ≤ C → (s.wc (swS t t t s.col n)).OK R C → P (s.wc (swS t t t s.col n))
  | 0, _, _ => hP
  | n + 1, hn, hk => by
    have hk' : (s.wc (swS t t t s.col n)).OK R C := by
      have h1 := swS_back (R := C) (C := R) h.col.nb hk.ofCol
      exact ⟨tp_ok h1.f, hk.g, tp_ok h1.g⟩
    have ih := H.c h hP ht n (by omega) hk'
    rw [swS_succ] at hk ⊢
    split
    · rename_i hc
      rw [if_pos hc] at hk
      have hg : SGD R C (s.wc (swS t t t s.col n)) := ⟨hk', h.nb.wc (swS_nb h.col.nb n)⟩
      exact H.cadd (s.wc (swS t t t s.col n)) (t + n) t _ (by omega) ht (by omega) (Nat.le_refl _) hc.1 hg hk ih
    · exact ih
theorem Stays.a1 (H : Stays R C t P) {r : Nat} (h : SGD R C s) (hP : P s) (hr : r < R) (hr0 : t ≤ r) (ht : t < R) : P (sfA1 t r s) := by
  unfold sfA1
  split
  · exact hP
  · rename_i hne
    exact H.rswap s r t hr ht hr0 (Nat.le_refl _) hne h hP
theorem Stays.a2 (H : Stays R C t P) {c : Nat} (h : SGD R C s) (hP : P s) (hc : c < C) (hc0 : t ≤ c) (ht : t < C) : P (sfA2 t c s) := by
  unfold sfA2
  split
  · exact hP
  · rename_i hne
    exact H.cswap s c t hc ht hc0 (Nat.le_refl _) hne h hP
theorem Stays.rnd (H : Stays R C t P) {p q : Nat} (h : SGD R C s) (hP : P s) (e : ls2 R C s.f t = ((p : Int), (q : Int))) (hp0 : t ≤ p) (hp : p < R) (hq0 : t ≤ q) (hq : q < C) (ht : t < R) (htC : t < C) (hk : (rnd R C t s).1.OK R C) : P (rnd R C t s).1 := by
  have eA : sfA R C t s = sfA2 t q (sfA1 t p s) := by unfold sfA; rw [e]; rfl
  have hA : SGD R C (sfA R C t s) := by rw [eA]; exact (h.a1 hp ht).a2 hq htC
  have pA : P (sfA R C t s) := by rw [eA]; exact H.a2 (h.a1 hp ht) (H.a1 h hP hp hp0 ht) hq hq0 htC
  obtain ⟨hB, hC⟩ := rnd_back hA.nb hk
  have gB : SGD R C (sfB R t (sfA R C t s)) := ⟨hB, sfB_nb hA.nb⟩
  have pB : P (sfB R t (sfA R C t s)) := H.b hA pA ht (R - t) (by omega) hB
  have gC : SGD R C (sfC C t (sfB R t (sfA R C t s))) := ⟨hC, sfC_nb gB.nb⟩
  have pC : P (sfC C t (sfB R t (sfA R C t s))) := H.c gB pB htC (C - t) (by omega) hC
  unfold Go.Proofs.YtlggfmfelakadaaGreatDoor.rnd at hk ⊢
  generalize sfC C t (sfB R t (sfA R C t s)) = s2 at *
  unfold sfD at hk ⊢
  split
  · rename_i hcl
    rw [if_pos hcl] at hk
    rcases hf : fd R C t s2.f with _ | i
    · exact pC
    · rw [hf] at hk
      obtain ⟨i1, i2, i3⟩ := fd_some hf
      exact H.radd s2 t i 1 ht i2 (Nat.le_refl _) (by omega) (by omega) gC hk pC
  · exact pC
theorem Stays.in_ (H : Stays R C t P) (ht : t < R) (htC : t < C) : ∀ (k : Nat) (s : SS), sfMs R C t s ≤ k → SGD R C s → P s → ¬ (ls2 R C s.f t).1 < 0 → ∀ s', sfIn R C t s = some s' → P s' := by
  intro k
  induction k with
  | zero =>
    intro s hk hg hP hn s' he
    rcases ls2_cases R C s.f t with ⟨e, _⟩ | ⟨p, q, e, ⟨a1, a2, a3, a4⟩, h3, h4, h5⟩
    · rw [e] at hn; exact absurd (by decide) hn
    · have hV : lsV R C t s = (s.f p q).natAbs := by unfold lsV; rw [e]; rfl
      unfold sfMs at hk
      omega
  | succ k ih =>
    intro s hk hg hP hn s' he
    rcases ls2_cases R C s.f t with ⟨e, _⟩ | ⟨p, q, e, ⟨a1, a2, a3, a4⟩, h3, h4, h5⟩
    · rw [e] at hn; exact absurd (by decide) hn
    · rw [sfIn] at he
      have hA : SGD R C (sfA R C t s) := by
        unfold sfA
        rw [e]
        exact (hg.a1 a2 ht).a2 a4 htC
      have hnb : (Go.Proofs.YtlggfmfelakadaaGreatDoor.rnd R C t s).1.NBS := sfD_nb (sfC_nb (sfB_nb hA.nb))
      split at he
      · rename_i hok
        have hk' := (SS.ok_iff hnb).1 hok
        have hP' := H.rnd hg hP e a1 a2 a3 a4 ht htC hk'
        split at he
        · cases he
          exact hP'
        · rename_i hd
          split at he
          · rename_i hlt
            obtain ⟨_, hne⟩ := rnd_lt hg ht htC e a2 a4 h3 (h5 ht htC) hk' (by simpa using hd)
            refine ih _ (by omega) (rnd_gd hg e a2 a4 ht htC hk') hP' ?_ s' he
            obtain ⟨p2, q2, e2, _⟩ := ls2_some (R := R) (C := C) (Nat.le_refl t) ht (Nat.le_refl t) htC hne
            rw [e2]
            dsimp only
            omega
          · cases he
      · cases he
end
theorem Stays.out {R C : Nat} {P : SS → Prop} (H : ∀ t, Stays R C t P) : ∀ (m t : Nat) (s s' : SS), t + m ≤ R → t + m ≤ C → SGD R C s → P s → sfOut R C m t s = some s' → P s'
  | 0, t, s, s', _, _, hg, hP, he => by cases he; exact hP
  | m + 1, t, s, s', h1, h2, hg, hP, he => by
    by_cases hn : (ls2 R C s.f t).1 < 0
    · rw [sfOut_stop hn] at he; cases he; exact hP
    · rw [sfOut_go hn] at he
      unfold sfGo at he
      rcases hi : sfIn R C t s with _ | s2
      · rw [hi] at he; cases he
      · rw [hi] at he
        have g2 := sfIn_gd (by omega) (by omega) _ s (Nat.le_refl _) hg hn s2 hi
        have p2 := (H t).in_ (by omega) (by omega) _ s (Nat.le_refl _) hg hP hn s2 hi
        have pN : P (sfN t s2) := by
          unfold sfN
          split
          · exact (H t).rneg s2 t (by omega) (Nat.le_refl _) g2 p2
          · exact p2
        exact Stays.out H m (t + 1) (sfN t s2) s' (by omega) (by omega) (g2.n (by omega)) pN he
theorem Stays.all {R C : Nat} {P : SS → Prop} (H : ∀ t, Stays R C t P) {xs : List Int} {s : SS} (h : sfX R C xs = some s) (h0 : P ⟨fun i j => cel xs C i j, idF, idF⟩) : P s := by
  rcases hm : isMat (R : Int) (C : Int) xs with _ | _
  · rw [sfX_no hm] at h; cases h
  · rw [sfX_yes hm] at h
    have M := isMat_iff.1 hm
    have hs := start_gd (R := R) (C := C) M.num
    exact Stays.out H _ _ _ _ (by omega) (by omega) ⟨⟨hs.ok.f, hs.ok.g, idF_ok C C⟩, ⟨hs.nb.f, hs.nb.g, idF_nb⟩⟩ h0 h
/-- d = u m v, and u takes only zeros to zeros. -/
def UMV (R C : Nat) (m : Fn2) (s : SS) : Prop := EqM R C (mm C (mm R s.g m) s.h) s.f ∧ INJ R s.g
theorem opA_val {f : Fn2} {R C i j y : Nat} {t : Int} (h : OKF R C (opA f i j t)) (hi : i < R) (hy : y < C) : opA f i j t i y = f i y + f j y * t := (opA_num (h i y hi hy)).2.2.1
theorem mm_left {n : Nat} {g g' m : Fn2} {x y : Nat} (h : ∀ k, k < n → g' x k = g x k) : mm n g' m x y = mm n g m x y := sumTo_congr n fun k hk => by rw [h k hk]
theorem UMV.stays (R C : Nat) (m : Fn2) (t0 : Nat) : Stays R C t0 (UMV R C m) where
  radd := fun s i j t hi hj _ _ hij hg hk hP => by
    have e1 : ∀ y, y < R → opA s.g i j t i y = s.g i y + s.g j y * t := fun y hy => opA_val hk.g hi hy
    refine ⟨fun x y hx hy => ?_, hP.2.add hi hj hij e1 (fun x y _ _ hne => opA_other hne)⟩
    show mm C (mm R (opA s.g i j t) m) s.h x y = opA s.f i j t x y
    have kf : OKF R C (opA s.f i j t) := hk.f
    by_cases hxi : x = i
    · subst hxi
      rw [opA_val kf hx hy, ← hP.1 x y hx hy, ← hP.1 j y hj hy]
      unfold mm
      rw [← sumTo_mul, ← sumTo_add]
      refine sumTo_congr C fun k hk2 => ?_
      have e2 : sumTo (fun l => opA s.g x j t x l * m l k) R = sumTo (fun l => s.g x l * m l k) R + sumTo (fun l => s.g j l * m l k) R * t := by
        rw [← sumTo_mul, ← sumTo_add]
        exact sumTo_congr R fun l hl => by rw [e1 l hl]; grind
      rw [e2]
      grind
    · rw [opA_other hxi, ← hP.1 x y hx hy]
      exact mm_left fun k hk2 => mm_left fun l hl => opA_other hxi
  rswap := fun s i j hi hj _ _ hij hg hP => by
    refine ⟨fun x y hx hy => ?_, hP.2.swap hi hj⟩
    show mm C (mm R (swF s.g i j) m) s.h x y = swF s.f i j x y
    have key : ∀ z, z < R → (∀ k, swF s.g i j x k = s.g z k) → (swF s.f i j x y = s.f z y) → mm C (mm R (swF s.g i j) m) s.h x y = swF s.f i j x y := fun z hz h1 h2 => by
      rw [h2, ← hP.1 z y hz hy]
      unfold mm
      refine sumTo_congr C fun k _ => ?_
      rw [sumTo_congr R (fun l _ => by rw [h1 l])]
    by_cases h1 : x = i
    · exact key j hj (fun k => by unfold swF; rw [if_pos h1]) (by unfold swF; rw [if_pos h1])
    · by_cases h2 : x = j
      · exact key i hi (fun k => by unfold swF; rw [if_neg h1, if_pos h2]) (by unfold swF; rw [if_neg h1, if_pos h2])
      · exact key x hx (fun k => by unfold swF; rw [if_neg h1, if_neg h2]) (by unfold swF; rw [if_neg h1, if_neg h2])
  rneg := fun s i hi _ hg hP => by
    have e1 : ∀ y, y < R → opM s.g i i y = -s.g i y := fun y hy => opM_at (hg.ok.g i y hi hy)
    have o1 : ∀ (f : Fn2) x y, x ≠ i → opM f i x y = f x y := fun f x y hne => by unfold opM; rw [if_neg hne]
    refine ⟨fun x y hx hy => ?_, hP.2.neg e1 (fun x y _ _ hne => o1 _ _ _ hne)⟩
    show mm C (mm R (opM s.g i) m) s.h x y = opM s.f i x y
    by_cases hxi : x = i
    · subst hxi
      rw [opM_at (hg.ok.f x y hx hy), ← hP.1 x y hx hy]
      unfold mm
      rw [← sumTo_neg]
      refine sumTo_congr C fun k hk2 => ?_
      have e2 : sumTo (fun l => opM s.g x x l * m l k) R = -sumTo (fun l => s.g x l * m l k) R := by
        rw [← sumTo_neg]
        exact sumTo_congr R fun l hl => by rw [e1 l hl, Int.neg_mul]
      rw [e2, Int.neg_mul]
    · rw [o1 _ _ _ hxi, ← hP.1 x y hx hy]
      exact mm_left fun k hk2 => mm_left fun l hl => o1 _ _ _ hxi
  cadd := fun s i j t hi hj _ _ hij hg hk hP => by
    refine ⟨fun x y hx hy => ?_, hP.2⟩
    show mm C (mm R s.g m) (tp (opA (tp s.h) i j t)) x y = tp (opA (tp s.f) i j t) x y
    have kf : OKF C R (opA (tp s.f) i j t) := tp_ok hk.f
    have kh : OKF C C (opA (tp s.h) i j t) := tp_ok hk.h
    by_cases hyi : y = i
    · subst hyi
      show _ = opA (tp s.f) y j t y x
      rw [opA_val kf hy hx]
      show _ = s.f x y + s.f x j * t
      rw [← hP.1 x y hx hy, ← hP.1 x j hx hj]
      unfold mm
      rw [← sumTo_mul, ← sumTo_add]
      refine sumTo_congr C fun k hk2 => ?_
      have e2 : tp (opA (tp s.h) y j t) k y = s.h k y + s.h k j * t := opA_val kh hy hk2
      rw [e2]
      grind
    · show _ = opA (tp s.f) i j t y x
      rw [opA_other hyi]
      show _ = s.f x y
      rw [← hP.1 x y hx hy]
      exact sumTo_congr C fun k hk2 => by
        have e2 : tp (opA (tp s.h) i j t) k y = s.h k y := opA_other hyi
        rw [e2]
  cswap := fun s i j hi hj _ _ hij hg hP => by
    refine ⟨fun x y hx hy => ?_, hP.2⟩
    show mm C (mm R s.g m) (tp (swF (tp s.h) i j)) x y = swF (tp s.f) i j y x
    have key : ∀ z, z < C → (∀ k, swF (tp s.h) i j y k = s.h k z) → (swF (tp s.f) i j y x = s.f x z) → mm C (mm R s.g m) (tp (swF (tp s.h) i j)) x y = swF (tp s.f) i j y x := fun z hz h1 h2 => by
      rw [h2, ← hP.1 x z hx hz]
      exact sumTo_congr C fun k _ => by
        have e2 : tp (swF (tp s.h) i j) k y = s.h k z := h1 k
        rw [e2]
    by_cases h1 : y = i
    · exact key j hj (fun k => by unfold swF; rw [if_pos h1]; rfl) (by unfold swF; rw [if_pos h1]; rfl)
    · by_cases h2 : y = j
      · exact key i hi (fun k => by unfold swF; rw [if_neg h1, if_pos h2]; rfl) (by unfold swF; rw [if_neg h1, if_pos h2]; rfl)
      · exact key y hy (fun k => by unfold swF; rw [if_neg h1, if_neg h2]; rfl) (by unfold swF; rw [if_neg h1, if_neg h2]; rfl)
theorem UMV.start (R C : Nat) (m : Fn2) : UMV R C m ⟨m, idF, idF⟩ := by
  refine ⟨fun i j hi hj => ?_, INJ.id R⟩
  show mm C (mm R idF m) idF i j = m i j
  have e1 : ∀ k, mm R idF m i k = m i k := fun k => mv_id (fun l => m l k) hi
  unfold mm
  rw [sumTo_one C hj]
  · show mm R idF m i j * idF j j = m i j
    rw [e1]; unfold idF; rw [if_pos rfl, Int.mul_one]
  · intro k hk hne
    unfold idF
    rw [if_neg hne, Int.mul_zero]
/-- The Smith form of a matrix is the product. -/
theorem sfX_umv {R C : Nat} {xs : List Int} {s : SS} (h : sfX R C xs = some s) : UMV R C (fun i j => cel xs C i j) s := Stays.all (UMV.stays R C _) h (UMV.start R C _)
/-- A solution of the Smith form gives one of the matrix. -/
theorem sf_solves {R C : Nat} {m : Fn2} {s : SS} (h : UMV R C m s) {b y : Nat → Int} (hy : ∀ i, i < R → mv C s.f y i = mv R s.g b i) : ∀ i, i < R → mv C m (mv C s.h y) i = b i := by
  refine h.2.eq fun i hi => ?_
  rw [← hy i hi, ← mv_mm C R s.g m (mv C s.h y) i, ← mv_mm C C (mm R s.g m) s.h y i]
  exact mv_congr (fun k hk => h.1 i k hi hk) (fun _ _ => rfl)
/-- Outside of the diagonal there are zeros in the first t rows and columns. -/
def Clr (R C t : Nat) (s : SS) : Prop := ∀ x y, x < R → y < C → x ≠ y → (x < t ∨ y < t) → s.f x y = 0
theorem Clr.stays (R C t : Nat) : Stays R C t (Clr R C t) where
  radd := fun s i j q hi hj ti tj hij hg hk hP x y hx hy hxy h => by
    show opA s.f i j q x y = 0
    have kf : OKF R C (opA s.f i j q) := hk.f
    by_cases hxi : x = i
    · subst hxi
      rw [opA_val kf hx hy, hP x y hx hy hxy h, hP j y hj hy (by omega) (.inr (by omega)), Int.zero_mul, Int.zero_add]
    · rw [opA_other hxi]; exact hP x y hx hy hxy h
  rswap := fun s i j hi hj ti tj hij hg hP x y hx hy hxy h => by
    show swF s.f i j x y = 0
    unfold swF
    split
    · rename_i e; exact hP j y hj hy (by omega) (.inr (by omega))
    · split
      · rename_i e; exact hP i y hi hy (by omega) (.inr (by omega))
      · exact hP x y hx hy hxy h
  rneg := fun s i hi ti hg hP x y hx hy hxy h => by
    show opM s.f i x y = 0
    by_cases hxi : x = i
    · subst hxi
      rw [opM_at (hg.ok.f x y hx hy), hP x y hx hy hxy h]; rfl
    · unfold opM; rw [if_neg hxi]; exact hP x y hx hy hxy h
  cadd := fun s i j q hi hj ti tj hij hg hk hP x y hx hy hxy h => by
    show opA (tp s.f) i j q y x = 0
    have kf : OKF C R (opA (tp s.f) i j q) := tp_ok hk.f
    by_cases hyi : y = i
    · subst hyi
      rw [opA_val kf hy hx]
      show s.f x y + s.f x j * q = 0
      rw [hP x y hx hy hxy h, hP x j hx hj (by omega) (.inl (by omega)), Int.zero_mul, Int.zero_add]
    · rw [opA_other hyi]; exact hP x y hx hy hxy h
  cswap := fun s i j hi hj ti tj hij hg hP x y hx hy hxy h => by
    show swF (tp s.f) i j y x = 0
    unfold swF
    split
    · rename_i e; exact hP x j hx hj (by omega) (.inl (by omega))
    · split
      · rename_i e; exact hP x i hx hi (by omega) (.inl (by omega))
      · exact hP x y hx hy hxy h
theorem rnd_done {R C t : Nat} {s : SS} (h : (rnd R C t s).2 = true) : clnS R C t (rnd R C t s).1.f = true ∧ fd R C t (rnd R C t s).1.f = none := by
  unfold rnd at h ⊢
  generalize sfC C t (sfB R t (sfA R C t s)) = s2 at *
  unfold sfD at h ⊢
  by_cases hc : clnS R C t s2.f = true
  · rw [if_pos hc] at h ⊢
    rcases hf : fd R C t s2.f with _ | i
    · exact ⟨hc, hf⟩
    · rw [hf] at h; cases h
  · rw [if_neg hc] at h; cases h
/-- What holds at (t, t) when nothing is left. -/
def Dn (R C t : Nat) (s : SS) : Prop := clnS R C t s.f = true ∧ fd R C t s.f = none ∧ s.f t t ≠ 0
theorem rnd_piv {R C t p q : Nat} {s : SS} (h : SGD R C s) (e : ls2 R C s.f t = ((p : Int), (q : Int))) (hp : p < R) (hq : q < C) (hpq : s.f p q ≠ 0) (ht : t < R) (htC : t < C) (hk : (rnd R C t s).1.OK R C) (hd : (rnd R C t s).2 = true) : (rnd R C t s).1.f t t ≠ 0 := by
  have eA : sfA R C t s = sfA2 t q (sfA1 t p s) := by unfold sfA; rw [e]; rfl
  have hA : SGD R C (sfA R C t s) := by rw [eA]; exact (h.a1 hp ht).a2 hq htC
  have hpiv : (sfA R C t s).f t t = s.f p q := by rw [eA]; exact sfA_piv p q s
  obtain ⟨hB, hC⟩ := rnd_back hA.nb hk
  obtain ⟨f1, -, -⟩ := rnd_facts hA.nb ht htC (by rw [hpiv]; exact hpq) hB hC
  unfold rnd at hd ⊢
  generalize sfC C t (sfB R t (sfA R C t s)) = s2 at *
  unfold sfD at hd ⊢
  by_cases hc : clnS R C t s2.f = true
  · rw [if_pos hc] at hd ⊢
    rcases hf : fd R C t s2.f with _ | i
    · show s2.f t t ≠ 0
      rw [f1, hpiv]; exact hpq
    · rw [hf] at hd; cases hd
  · rw [if_neg hc] at hd; cases hd
theorem sfIn_dn {R C t : Nat} (ht : t < R) (htC : t < C) : ∀ (k : Nat) (s : SS), sfMs R C t s ≤ k → SGD R C s → ¬ (ls2 R C s.f t).1 < 0 → ∀ s', sfIn R C t s = some s' → Dn R C t s' := by
  intro k
  induction k with
  | zero =>
    intro s hk hg hn s' he
    rcases ls2_cases R C s.f t with ⟨e, _⟩ | ⟨p, q, e, ⟨a1, a2, a3, a4⟩, h3, h4, h5⟩
    · rw [e] at hn; exact absurd (by decide) hn
    · have hV : lsV R C t s = (s.f p q).natAbs := by unfold lsV; rw [e]; rfl
      unfold sfMs at hk
      omega
  | succ k ih =>
    intro s hk hg hn s' he
    rcases ls2_cases R C s.f t with ⟨e, _⟩ | ⟨p, q, e, ⟨a1, a2, a3, a4⟩, h3, h4, h5⟩
    · rw [e] at hn; exact absurd (by decide) hn
    · rw [sfIn] at he
      have hA : SGD R C (sfA R C t s) := by
        unfold sfA
        rw [e]
        exact (hg.a1 a2 ht).a2 a4 htC
      have hnb : (rnd R C t s).1.NBS := sfD_nb (sfC_nb (sfB_nb hA.nb))
      split at he
      · rename_i hok
        have hk' := (SS.ok_iff hnb).1 hok
        split at he
        · rename_i hd
          cases he
          obtain ⟨d1, d2⟩ := rnd_done hd
          exact ⟨d1, d2, rnd_piv hg e a2 a4 h3 ht htC hk' hd⟩
        · rename_i hd
          split at he
          · rename_i hlt
            obtain ⟨_, hne⟩ := rnd_lt hg ht htC e a2 a4 h3 (h5 ht htC) hk' (by simpa using hd)
            refine ih _ (by omega) (rnd_gd hg e a2 a4 ht htC hk') ?_ s' he
            obtain ⟨p2, q2, e2, _⟩ := ls2_some (R := R) (C := C) (Nat.le_refl t) ht (Nat.le_refl t) htC hne
            rw [e2]
            dsimp only
            omega
          · cases he
      · cases he
theorem Dn.clr {R C t : Nat} {s : SS} (h : Dn R C t s) (hc : Clr R C t s) : Clr R C (t + 1) s := fun x y hx hy hxy hl => by
  obtain ⟨z1, z2⟩ := clnS_yes h.1
  by_cases h1 : x < t ∨ y < t
  · exact hc x y hx hy hxy h1
  · rcases hl with hl | hl
    · obtain rfl : x = t := by omega
      exact z2 y (by omega) hy
    · obtain rfl : y = t := by omega
      exact z1 x (by omega) hx
theorem sfOut_diag {R C : Nat} : ∀ (m t : Nat) (s s' : SS), t + m = min R C → SGD R C s → Clr R C t s → sfOut R C m t s = some s' → ∀ x y, x < R → y < C → x ≠ y → s'.f x y = 0
  | 0, t, s, s', hm, hg, hc, he => by
    cases he
    exact fun x y hx hy hxy => hc x y hx hy hxy (by omega)
  | m + 1, t, s, s', hm, hg, hc, he => by
    by_cases hn : (ls2 R C s.f t).1 < 0
    · rw [sfOut_stop hn] at he
      cases he
      intro x y hx hy hxy
      by_cases h1 : x < t ∨ y < t
      · exact hc x y hx hy hxy h1
      · rcases ls2_cases R C s.f t with ⟨_, h⟩ | ⟨p, q, e, _⟩
        · exact h x y (by omega) hx (by omega) hy
        · rw [e] at hn; dsimp only at hn; omega
    · rw [sfOut_go hn] at he
      unfold sfGo at he
      rcases hi : sfIn R C t s with _ | s2
      · rw [hi] at he; cases he
      · rw [hi] at he
        have ht : t < R ∧ t < C := by omega
        have g2 := sfIn_gd ht.1 ht.2 _ s (Nat.le_refl _) hg hn s2 hi
        have p2 := (Clr.stays R C t).in_ ht.1 ht.2 _ s (Nat.le_refl _) hg hc hn s2 hi
        have d2 := sfIn_dn ht.1 ht.2 _ s (Nat.le_refl _) hg hn s2 hi
        have p3 := d2.clr p2
        have pN : Clr R C (t + 1) (sfN t s2) := by
          unfold sfN
          split
          · intro x y hx hy hxy h
            show opM s2.f t x y = 0
            by_cases hxt : x = t
            · subst hxt
              rw [opM_at (g2.ok.f x y hx hy), p3 x y hx hy hxy h]; rfl
            · unfold opM; rw [if_neg hxt]; exact p3 x y hx hy hxy h
          · exact p3
        exact sfOut_diag m (t + 1) (sfN t s2) s' (by omega) (g2.n ht.1) pN he
/-- Outside of the diagonal the Smith form has zeros. -/
theorem sfX_diag {R C : Nat} {xs : List Int} {s : SS} (h : sfX R C xs = some s) : ∀ x y, x < R → y < C → x ≠ y → s.f x y = 0 := by
  rcases hm : isMat (R : Int) (C : Int) xs with _ | _
  · rw [sfX_no hm] at h; cases h
  · rw [sfX_yes hm] at h
    have M := isMat_iff.1 hm
    have hs := start_gd (R := R) (C := C) M.num
    exact sfOut_diag _ _ _ _ (by omega) ⟨⟨hs.ok.f, hs.ok.g, idF_ok C C⟩, ⟨hs.nb.f, hs.nb.g, idF_nb⟩⟩ (fun x y _ _ _ h => by omega) h
end Go.Proofs.YtlggfmfelakadaaGreatDoor

/-
  DERIVED. FactorsOf of both.
-/
namespace Go.Proofs.YtlggfmfelakadaaGreatDoor
open Go.RowKit
set_option linter.unusedVariables false
set_option linter.unusedSimpArgs false
theorem OR.shapeF {w : World} {B : Nat} {v : Value} {xs : List Int} (h : OR w B v xs) : ∃ A c, v = .slice A xs.length c := by
  rcases h.form with ⟨h1, h2⟩ | ⟨g, cap, h1, _⟩
  · subst h2; exact ⟨none, 0, h1⟩
  · exact ⟨_, _, h1⟩
/-- A number of the diagonal; 0 beyond it. -/
def dgF (R C : Nat) (f : Fn2) (i : Nat) : Int := if i < R ∧ i < C then f i i else 0
theorem dgF_in {R C i : Nat} {f : Fn2} (h : i < R) (h2 : i < C) : dgF R C f i = f i i := by unfold dgF; rw [if_pos ⟨h, h2⟩]
theorem dgF_out {R C i : Nat} {f : Fn2} (h : ¬ (i < R ∧ i < C)) : dgF R C f i = 0 := by unfold dgF; rw [if_neg h]
theorem dgF_num {R C i : Nat} {f : Fn2} (h : OKF R C f) : Num (dgF R C f i) := by
  unfold dgF
  split
  · rename_i h2; exact h i i h2.1 h2.2
  · unfold Num; omega
def facK (d : Nat → Int) : Nat → List Int
  | 0 => []
  | n + 1 => facK d n ++ (if d n = 0 then [] else [d n])
theorem facK_skip {d : Nat → Int} {n : Nat} (h : d n = 0) : facK d (n + 1) = facK d n := by
  show facK d n ++ (if _ then _ else _) = _
  rw [if_pos h, List.append_nil]
theorem facK_add {d : Nat → Int} {n : Nat} (h : d n ≠ 0) : facK d (n + 1) = facK d n ++ [d n] := by
  show facK d n ++ (if _ then _ else _) = _
  rw [if_neg h]
theorem facK_len (d : Nat → Int) : ∀ n, (facK d n).length ≤ n
  | 0 => Nat.le_refl _
  | n + 1 => by
    have := facK_len d n
    by_cases h : d n = 0
    · rw [facK_skip h]; omega
    · rw [facK_add h, List.length_append, List.length_singleton]; omega
theorem facK_beyond {d : Nat → Int} {m : Nat} (h : ∀ i, m ≤ i → d i = 0) : ∀ k, facK d (m + k) = facK d m
  | 0 => rfl
  | k + 1 => by rw [show m + (k + 1) = m + k + 1 by omega, facK_skip (h _ (by omega)), facK_beyond h k]
def facO (r c : Int) : Option SS → List Int
  | some s => facK (dgF r.toNat c.toNat s.f) (min r.toNat c.toNat)
  | none => []
def facV (r c : Int) (xs : List Int) : List Int := facO r c (sfX r c xs)
theorem facO_rows (R C : Nat) (s : SS) : facO R C (some s) = facK (dgF R C s.f) R := by
  show facK (dgF R C s.f) (min R C) = _
  have := facK_beyond (d := dgF R C s.f) (m := min R C) (fun i hi => dgF_out (by omega)) (R - min R C)
  rw [show min R C + (R - min R C) = R by omega] at this
  exact this.symm
theorem facV_len (r c : Int) (xs : List Int) : (facV r c xs).length ≤ 1048576 := by
  unfold facV
  rcases h : sfX r c xs with _ | s
  · exact Nat.zero_le _
  · rcases hm : isMat r c xs with _ | _
    · rw [sfX_no hm] at h; cases h
    · have M := isMat_iff.1 hm
      have h1 := facK_len (dgF r.toNat c.toNat s.f) (min r.toNat c.toNat)
      have := M.r1
      show (facK _ _).length ≤ _
      omega
end Go.Proofs.YtlggfmfelakadaaGreatDoor

/-
  DERIVED. What SolveInteger and RefuteInteger answer: no program in sight.
-/
namespace Go.Proofs.YtlggfmfelakadaaGreatDoor
set_option linter.unusedVariables false
theorem dropF_cons {xs : List Int} {k : Nat} (h : k < xs.length) : xs.drop k = xs.getD k 0 :: xs.drop (k + 1) := by
  rw [List.drop_eq_getElem_cons h]
  simp [List.getD, h]
/-- The first place whose number is no multiple. -/
def fwF (d : Nat → Int) : Nat → List Int → Option Nat
  | _, [] => none
  | k, x :: l => if d k ∣ x then fwF d (k + 1) l else some k
def fwV : Option Nat → Int
  | none => -1
  | some k => k
theorem fwF_yes {d : Nat → Int} {cs : List Int} {k : Nat} (hk : k < cs.length) (h : d k ∣ cs.getD k 0) : fwF d k (cs.drop k) = fwF d (k + 1) (cs.drop (k + 1)) := by
  rw [dropF_cons hk]
  show (if _ then _ else _) = _
  rw [if_pos h]
theorem fwF_no {d : Nat → Int} {cs : List Int} {k : Nat} (hk : k < cs.length) (h : ¬ d k ∣ cs.getD k 0) : fwF d k (cs.drop k) = some k := by
  rw [dropF_cons hk]
  show (if _ then _ else _) = _
  rw [if_neg h]
theorem fwF_end {d : Nat → Int} {cs : List Int} {k : Nat} (hk : cs.length ≤ k) : fwF d k (cs.drop k) = none := by
  rw [List.drop_of_length_le hk]; rfl
theorem fwF_none {d : Nat → Int} : ∀ (cs : List Int) (k : Nat), fwF d k cs = none → ∀ i, i < cs.length → d (k + i) ∣ cs.getD i 0
  | [], k, _, i, hi => absurd hi (Nat.not_lt_zero _)
  | x :: l, k, h, i, hi => by
    have h' : (if d k ∣ x then fwF d (k + 1) l else some k) = none := h
    split at h'
    · rename_i hd
      match i, hi with
      | 0, _ => simpa using hd
      | i + 1, hi =>
        have := fwF_none l (k + 1) h' i (by simpa using hi)
        rw [show k + (i + 1) = k + 1 + i by omega]
        simpa using this
    · cases h'
theorem fwF_some {d : Nat → Int} : ∀ (cs : List Int) (k q : Nat), fwF d k cs = some q → k ≤ q ∧ q < k + cs.length ∧ ¬ d q ∣ cs.getD (q - k) 0
  | [], k, q, h => by cases h
  | x :: l, k, q, h => by
    have h' : (if d k ∣ x then fwF d (k + 1) l else some k) = some q := h
    split at h'
    · obtain ⟨a, b, c⟩ := fwF_some l (k + 1) q h'
      refine ⟨by omega, by simp; omega, ?_⟩
      rw [show q - k = (q - (k + 1)) + 1 by omega]
      simpa using c
    · rename_i hd
      cases h'
      exact ⟨Nat.le_refl _, by simp, by rw [Nat.sub_self]; simpa using hd⟩
/-- The Smith form and the right side that belongs to it. -/
def siS (r c : Int) (xs bs : List Int) : Option (SS × List Int) := (sfX r c xs).bind fun s => if (bs.length : Int) = r ∧ mulB r r (tb r.toNat r.toNat s.g) bs.length 1 bs = true then some (s, mulL (tb r.toNat r.toNat s.g) r.toNat r.toNat bs 1) else none
/-- The image of the solution under the Smith form. -/
def siY (R C : Nat) (s : SS) (cs : List Int) : List Int := tab C fun i => (cs.getD i 0).tdiv (dgF R C s.f i)
def siR (r c : Int) (xs bs : List Int) : List Int × Int :=
  match siS r c xs bs with
  | none => ([], 2)
  | some (s, cs) =>
    match fwF (dgF r.toNat c.toNat s.f) 0 cs with
    | some _ => ([], 1)
    | none => if mulB c c (tb c.toNat c.toNat s.h) c 1 (siY r.toNat c.toNat s cs) then ((mulM c c (tb c.toNat c.toNat s.h) c 1 (siY r.toNat c.toNat s cs)).xs, 0) else ([], 2)
/-- The number that a refutation divides by. -/
def riN (d x : Int) : Int := if d = 0 then 2 * x else d
/-- The ratios of row k over n. -/
def riL (R : Nat) (g : Fn2) (k : Nat) (n : Int) : Nat → List Int
  | 0 => []
  | j + 1 => riL R g k n j ++ [(lowR (g k j) n).1, (lowR (g k j) n).2]
theorem riL_len (R : Nat) (g : Fn2) (k : Nat) (n : Int) : ∀ j, (riL R g k n j).length = j * 2
  | 0 => rfl
  | j + 1 => by
    show (riL R g k n j ++ [_, _]).length = _
    rw [List.length_append, riL_len R g k n j]
    simp; omega
def riR (r c : Int) (xs bs : List Int) : Nat × List Int × Int :=
  match siS r c xs bs with
  | none => (0, [], 2)
  | some (s, cs) =>
    match fwF (dgF r.toNat c.toNat s.f) 0 cs with
    | none => (0, [], 1)
    | some k => if isNum (riN (dgF r.toNat c.toNat s.f k) (cs.getD k 0)) then (r.toNat, riL r.toNat s.g k (riN (dgF r.toNat c.toNat s.f k) (cs.getD k 0)) r.toNat, 0) else (0, [], 2)
theorem siS_some {R C : Nat} {xs bs : List Int} {s : SS} {cs : List Int} (h : siS R C xs bs = some (s, cs)) :
    sfX R C xs = some s ∧ bs.length = R ∧ mulB R R (tb R R s.g) bs.length 1 bs = true ∧ cs = mulL (tb R R s.g) R R bs 1 := by
  unfold siS at h
  rcases hx : sfX R C xs with _ | s'
  · rw [hx] at h; cases h
  · rw [hx] at h
    simp only [Option.bind_some, Int.toNat_natCast] at h
    split at h
    · rename_i hc
      cases h
      exact ⟨rfl, by omega, hc.2, rfl⟩
    · cases h
end Go.Proofs.YtlggfmfelakadaaGreatDoor

/-
  DERIVED. Ranks: no more than n rows are wanted to span; turned over; products; echelon, Hermite and diagonal forms. No program in sight.
-/
namespace Go.Proofs.YtlggfmfelakadaaGreatDoor
set_option linter.unusedVariables false
/-- The rows of f are, some times, sums of n rows. -/
def RKs (R C n : Nat) (f : Fn2) : Prop := ∃ e : Fn2, ∀ i, i < R → QS n C e (f i)
section
variable {R S C r n : Nat} {p : Nat → Nat} {f g : Fn2}
theorem EF.rk_le (H : EF R C r p f) (h : RKs R C n f) : r ≤ n := by
  obtain ⟨e, he⟩ := h
  exact Ind.le H.ind fun i hi => he i (Nat.lt_of_lt_of_le hi H.le)
theorem EF.rk (H : EF R C r p f) : RKs R C r f := ⟨f, fun i hi => by
  rcases Nat.lt_or_ge i r with h | h
  · exact QS.row h
  · exact QS.zero fun y hy => H.zero i y h hi hy⟩
theorem RKs.span (h : RKs S C n g) (k : ∀ i, i < R → QS S C g (f i)) : RKs R C n f := by
  obtain ⟨e, he⟩ := h
  exact ⟨e, fun i hi => (k i hi).trans he⟩
/-- One divisor for all rows. -/
theorem QS.all {e : Fn2} : ∀ R, (∀ i, i < R → QS n C e (f i)) → ∃ (d : Int) (u : Fn2), d ≠ 0 ∧ ∀ i y, i < R → y < C → d * f i y = sumTo (fun k => u i k * e k y) n
  | 0, _ => ⟨1, fun _ _ => 0, by decide, fun i y hi => absurd hi (Nat.not_lt_zero _)⟩
  | R + 1, h => by
    obtain ⟨d, u, hd, hu⟩ := QS.all R fun i hi => h i (by omega)
    obtain ⟨d2, c, hd2, hc⟩ := h R (by omega)
    refine ⟨d * d2, fun i k => if i = R then d * c k else d2 * u i k, Int.mul_ne_zero hd hd2, fun i y hi hy => ?_⟩
    by_cases e1 : i = R
    · subst e1
      rw [show d * d2 * f i y = d * (d2 * f i y) by grind, hc y hy, ← sumTo_mul']
      exact sumTo_congr n fun k _ => by simp only [if_pos]; grind
    · rw [show d * d2 * f i y = d2 * (d * f i y) by grind, hu i y (by omega) hy, ← sumTo_mul']
      exact sumTo_congr n fun k _ => by simp only [if_neg e1]; grind
theorem RKs.turn (h : RKs R C n f) : RKs C R n (fun a b => f b a) := by
  obtain ⟨e, he⟩ := h
  obtain ⟨d, u, hd, hu⟩ := QS.all R he
  refine ⟨fun k i => u i k, fun y hy => ⟨d, fun k => e k y, hd, fun i hi => ?_⟩⟩
  rw [hu i y hi hy]
  exact sumTo_congr n fun k _ => Int.mul_comm _ _
theorem QS.mm {u : Fn2} {i : Nat} : QS R C f (mm R u f i) := ⟨1, u i, by decide, fun y _ => by rw [Int.one_mul]; rfl⟩
theorem RKs.left {u : Fn2} (h : RKs R C n f) : RKs S C n (mm R u f) := h.span fun i _ => QS.mm
theorem RKs.right {v : Fn2} {D : Nat} (h : RKs R C n f) : RKs R D n (mm C f v) := by
  obtain ⟨e, he⟩ := h
  refine ⟨mm C e v, fun i hi => ?_⟩
  obtain ⟨d, c, hd, hc⟩ := he i hi
  refine ⟨d, c, hd, fun y _ => ?_⟩
  have e1 : d * mm C f v i y = sumTo (fun k => d * (f i k * v k y)) C := by unfold mm; rw [sumTo_mul']
  have e2 : sumTo (fun k => d * (f i k * v k y)) C = sumTo (fun k => sumTo (fun a => c a * e a k * v k y) n) C := sumTo_congr C fun k hk => by
    rw [show d * (f i k * v k y) = d * f i k * v k y by grind, hc k hk, ← sumTo_mul]
  rw [e1, e2, sumTo_swap]
  refine sumTo_congr n fun a _ => ?_
  unfold mm
  rw [← sumTo_mul']
  exact sumTo_congr C fun k _ => by grind
/-- Two echelon forms of two spaces, one in the other. -/
theorem EF.le_of {q : Nat → Nat} {s : Nat} (H : EF R C r p f) (K : EF S C s q g) (h : ∀ i, i < R → QS S C g (f i)) : r ≤ s := H.rk_le (K.rk.span h)
/-- A form with the rows of it from r on zeros, and the first r independent. -/
theorem Ind.rk_le (H : Ind r C f) (hr : r ≤ R) (h : RKs R C n f) : r ≤ n := by
  obtain ⟨e, he⟩ := h
  exact Ind.le H fun i hi => he i (by omega)
/-- A space in another one, as many dimensions: they are one. -/
theorem EF.back {q : Nat → Nat} {s : Nat} (H : EF R C r p f) (K : EF S C s q g) (h : ∀ i, i < R → QS S C g (f i)) (hrs : s ≤ r) : ∀ i, i < S → QS R C f (g i) := fun i hi => by
  -- the rows of f with row i of g beside them: r + 1 vectors in a space of s dimensions
  have hfr := H.le
  apply Classical.byContradiction
  intro hno
  have hind : Ind (r + 1) C (fun k y => if k < r then f k y else g i y) := fun z hz k hk => by
    have e1 : ∀ y, y < C → sumTo (fun k => z k * f k y) r + z r * g i y = 0 := fun y hy => by
      have := hz y hy
      rw [sumTo_succ] at this
      simp only [if_neg (Nat.lt_irrefl r)] at this
      rw [← this]
      congr 1
      exact sumTo_congr r fun k hk => by simp only [if_pos hk]
    have hr0 : z r = 0 := by
      apply Classical.byContradiction
      intro h0
      refine hno ⟨z r, fun k => if k < r then -z k else 0, h0, fun y hy => ?_⟩
      have h1 := e1 y hy
      have h2 : sumTo (fun k => (if k < r then -z k else 0) * f k y) R = -sumTo (fun k => z k * f k y) r := by
        have hs : ∀ m, r ≤ m → sumTo (fun k => (if k < r then -z k else 0) * f k y) m = -sumTo (fun k => z k * f k y) r := fun m => by
          induction m with
          | zero => intro hm; obtain rfl : r = 0 := by omega
                    rfl
          | succ m ih =>
            intro hm
            by_cases e : r = m + 1
            · subst e
              rw [← sumTo_neg]
              exact sumTo_congr (m + 1) fun k hk => by rw [if_pos hk, Int.neg_mul]
            · rw [sumTo_succ, ih (by omega), if_neg (by omega), Int.zero_mul, Int.add_zero]
        exact hs R hfr
      rw [h2]; omega
    rcases Nat.lt_or_ge k r with h | h
    · refine H.ind z (fun y hy => ?_) k h
      have := e1 y hy
      rw [hr0, Int.zero_mul, Int.add_zero] at this
      exact this
    · obtain rfl : k = r := by omega
      exact hr0
  obtain ⟨e, he⟩ := K.rk
  have := Ind.le hind (u := e) (m := s) fun k hk => by
    rcases Nat.lt_or_ge k r with h1 | h1
    · have q := (h k (by omega)).trans he
      obtain ⟨d, c, hd, hc⟩ := q
      exact ⟨d, c, hd, fun y hy => by simp only [if_pos h1]; exact hc y hy⟩
    · obtain ⟨d, c, hd, hc⟩ := he i hi
      exact ⟨d, c, hd, fun y hy => by simp only [if_neg (show ¬ k < r by omega)]; exact hc y hy⟩
  omega
end
end Go.Proofs.YtlggfmfelakadaaGreatDoor

/-
  DERIVED. Every matrix has as many independent rows of whole numbers as it has a rank, that its rows are whole sums of. No program in sight.
-/
namespace Go.Proofs.YtlggfmfelakadaaGreatDoor
set_option linter.unusedVariables false
theorem sumTo_at {g e : Nat → Int} {a n : Nat} (ha : a < n) (h : ∀ k, k < n → k ≠ a → e k = g k) : sumTo e n = sumTo g n + (e a - g a) := by
  have h1 := sumTo_sub e g n
  have h2 : sumTo (fun k => e k - g k) n = e a - g a := sumTo_one n ha fun k hk hne => by rw [h k hk hne]; omega
  omega
theorem Sp.zero {R C : Nat} {f : Fn2} {v : Nat → Int} (h : ∀ y, y < C → v y = 0) : Sp R C f v := ⟨fun _ => 0, fun y hy => by rw [h y hy, sumTo_null R fun k _ => Int.zero_mul _]⟩
theorem abs_less {x y : Int} (hx : x ≠ 0) (hy : y ≠ 0) (h : y.natAbs ≤ x.natAbs) : ∃ t : Int, (t = 1 ∨ t = -1) ∧ (x - t * y).natAbs < x.natAbs := by
  by_cases h1 : (0 < x ∧ 0 < y) ∨ (x < 0 ∧ y < 0)
  · exact ⟨1, .inl rfl, by omega⟩
  · exact ⟨-1, .inr rfl, by omega⟩
/-- A relation between the rows: one row fewer does. -/
theorem lat_drop {C : Nat} : ∀ (N R : Nat) (f : Fn2) (z : Nat → Int), sumTo (fun k => ((z k).natAbs : Int)) (R + 1) ≤ N → (∃ k, k < R + 1 ∧ z k ≠ 0) → (∀ y, y < C → sumTo (fun k => z k * f k y) (R + 1) = 0) → ∃ g : Fn2, (∀ i, i < R + 1 → Sp R C g (f i)) ∧ ∀ k, k < R → Sp (R + 1) C f (g k) := by
  intro N
  induction N with
  | zero =>
    intro R f z hN ⟨k, hk, hz⟩ _
    exfalso
    have h1 : ((z k).natAbs : Int) ≤ sumTo (fun k => ((z k).natAbs : Int)) (R + 1) := by
      have h2 := sumTo_at (g := fun i => if i = k then 0 else ((z i).natAbs : Int)) (e := fun k => ((z k).natAbs : Int)) hk (fun i _ hne => by simp only [if_neg hne])
      have h3 : 0 ≤ sumTo (fun i => if i = k then 0 else ((z i).natAbs : Int)) (R + 1) := by
        have : ∀ n, 0 ≤ sumTo (fun i => if i = k then 0 else ((z i).natAbs : Int)) n := fun n => by
          induction n with
          | zero => exact Int.le_refl _
          | succ n ih =>
            rw [sumTo_succ]
            have : (0 : Int) ≤ (if n = k then 0 else ((z n).natAbs : Int)) := by split <;> omega
            omega
        exact this _
      simp only [if_pos] at h2
      omega
    omega
  | succ N ih =>
    intro R f z hN ⟨a0, ha0, hz0⟩ hrel
    by_cases hex : ∃ a b, a < R + 1 ∧ b < R + 1 ∧ a ≠ b ∧ z a ≠ 0 ∧ z b ≠ 0 ∧ (z b).natAbs ≤ (z a).natAbs
    · obtain ⟨a, b, ha, hb, hab, hza, hzb, hle⟩ := hex
      obtain ⟨t, ht, hlt⟩ := abs_less hza hzb hle
      -- row b gets t times row a
      let f' : Fn2 := fun x y => if x = b then f b y + f a y * t else f x y
      let z' : Nat → Int := fun k => if k = a then z a - t * z b else z k
      have S : SPN (R + 1) C f f' := (SPN.refl (R + 1) C f).add hb ha (fun e => hab e.symm) (fun y _ => by show (if b = b then _ else _) = _; rw [if_pos rfl]) (fun x y _ _ hne => by show (if x = b then _ else _) = _; rw [if_neg hne])
      have hm : sumTo (fun k => ((z' k).natAbs : Int)) (R + 1) ≤ N := by
        have h2 := sumTo_at (g := fun k => ((z k).natAbs : Int)) (e := fun k => ((z' k).natAbs : Int)) ha (fun i _ hne => by show (((if i = a then _ else z i) : Int).natAbs : Int) = _; rw [if_neg hne])
        have h3 : ((z' a).natAbs : Int) = (z a - t * z b).natAbs := by show (((if a = a then _ else z a) : Int).natAbs : Int) = _; rw [if_pos rfl]
        simp only [h3] at h2
        omega
      have hnz : ∃ k, k < R + 1 ∧ z' k ≠ 0 := ⟨b, hb, by show (if b = a then _ else z b) ≠ 0; rw [if_neg (fun e => hab e.symm)]; exact hzb⟩
      have hr : ∀ y, y < C → sumTo (fun k => z' k * f' k y) (R + 1) = 0 := fun y hy => by
        have h1 := sumTo_at (g := fun k => z k * f' k y) (e := fun k => z' k * f' k y) ha (fun i _ hne => by show (if i = a then _ else z i) * _ = _; rw [if_neg hne])
        have h2 := sumTo_at (g := fun k => z k * f k y) (e := fun k => z k * f' k y) hb (fun i _ hne => by show z i * (if i = b then _ else f i y) = _; rw [if_neg hne])
        have e1 : z' a = z a - t * z b := by show (if a = a then _ else z a) = _; rw [if_pos rfl]
        have e2 : f' a y = f a y := by show (if a = b then _ else f a y) = _; rw [if_neg hab]
        have e3 : f' b y = f b y + f a y * t := by show (if b = b then _ else f b y) = _; rw [if_pos rfl]
        simp only [e1, e2] at h1
        simp only [e3] at h2
        rw [h1, h2, hrel y hy]
        grind
      obtain ⟨g, hg1, hg2⟩ := ih R f' z' hm hnz hr
      exact ⟨g, fun i hi => (S.2 i hi).trans hg1, fun k hk => (hg2 k hk).trans S.1⟩
    · have honly : ∀ k, k < R + 1 → k ≠ a0 → z k = 0 := fun k hk hne => by
        apply Classical.byContradiction
        intro h0
        rcases Nat.le_total (z k).natAbs (z a0).natAbs with h | h
        · exact hex ⟨a0, k, ha0, hk, fun e => hne e.symm, hz0, h0, h⟩
        · exact hex ⟨k, a0, hk, ha0, hne, h0, hz0, h⟩
      have hf0 : ∀ y, y < C → f a0 y = 0 := fun y hy => by
        have h1 := hrel y hy
        rw [sumTo_one (i := a0) (R + 1) ha0 (fun k hk hne => by rw [honly k hk hne, Int.zero_mul])] at h1
        rcases Int.mul_eq_zero.1 h1 with h | h
        · exact absurd h hz0
        · exact h
      refine ⟨fun k => f (sk a0 k), fun i hi => ?_, fun k hk => Sp.row (sk_lt hk)⟩
      by_cases e : i = a0
      · exact Sp.zero fun y hy => by rw [e]; exact hf0 y hy
      · have : ∃ k, k < R ∧ sk a0 k = i := by
          rcases Nat.lt_or_ge i a0 with h | h
          · exact ⟨i, by omega, by unfold sk; rw [if_pos h]⟩
          · exact ⟨i - 1, by omega, by unfold sk; rw [if_neg (by omega)]; omega⟩
        obtain ⟨k, hk, rfl⟩ := this
        exact Sp.row (f := fun k => f (sk a0 k)) hk
theorem lat_basis {C : Nat} : ∀ (R : Nat) (f : Fn2), ∃ (r : Nat) (h : Fn2), Ind r C h ∧ (∀ i, i < R → Sp r C h (f i)) ∧ ∀ k, k < r → Sp R C f (h k)
  | 0, f => ⟨0, f, fun z _ k hk => absurd hk (Nat.not_lt_zero _), fun i hi => absurd hi (Nat.not_lt_zero _), fun k hk => absurd hk (Nat.not_lt_zero _)⟩
  | R + 1, f => by
    by_cases hi : Ind (R + 1) C f
    · exact ⟨R + 1, f, hi, fun i hi => Sp.row hi, fun k hk => Sp.row hk⟩
    · have : ∃ z : Nat → Int, (∀ y, y < C → sumTo (fun k => z k * f k y) (R + 1) = 0) ∧ ∃ k, k < R + 1 ∧ z k ≠ 0 := by
        apply Classical.byContradiction
        intro h
        refine hi fun z hz k hk => ?_
        apply Classical.byContradiction
        intro h0
        exact h ⟨z, hz, k, hk, h0⟩
      obtain ⟨z, hz, hk⟩ := this
      obtain ⟨N, hN⟩ : ∃ N : Nat, sumTo (fun k => ((z k).natAbs : Int)) (R + 1) ≤ N := ⟨(sumTo (fun k => ((z k).natAbs : Int)) (R + 1)).toNat, by omega⟩
      obtain ⟨g, g1, g2⟩ := lat_drop N R f z hN hk hz
      obtain ⟨r, h, h1, h2, h3⟩ := lat_basis R g
      exact ⟨r, h, h1, fun i hi => (g1 i hi).trans h2, fun k hk => (h3 k hk).trans g2⟩
end Go.Proofs.YtlggfmfelakadaaGreatDoor

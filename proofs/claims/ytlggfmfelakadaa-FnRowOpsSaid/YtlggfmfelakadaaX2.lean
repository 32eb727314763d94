/-
  DERIVED. Several small texts in one: Mx2, Row1, Row2, PlainH, PlainE, Sq, PlainW, PlainM, PlainT, PlainN, PlainI, PlainO, PlLin, PlainQ, PlDet, PlainU, PlSp.
-/
import Derived.Test.YtlggfmfelakadaaMxx
import Derived.Test.YtlggfmfelakadaaX1
/-
  DERIVED. The contracts of spec.IsMatrix, l12Cell, isMultiple, IsSquare (both).
-/
namespace Go.Proofs.Ytlggfmfelakadaa
open Go.RowKit
set_option linter.unusedVariables false
set_option maxHeartbeats 1000000 in
theorem spec_IsMatrix (r c : Int) (A : Option Addr) (n cap : Nat) (xs : List Int) (w : World) {C : Nat} (h : RI w C A n xs) (hC : C ≤ w.heap.size) (hn : n ≤ 1048576) :
    Calls Try.prog 91 #[.agg #[.int .i64 r, .int .i64 c, .slice A n cap]] w (BV (.bool (isMat r c xs)) w) := by
  have hcs := mat_cases r c xs n h.len
  have hlen := h.len
  have hlx : xs.length ≤ n ∧ n ≤ xs.length := by omega
  have H := Lib.hid h
  clear h hlen
  rcases hcs with ⟨hr, h1⟩ | ⟨hr, h1, h2⟩ | ⟨hr, h1, h2⟩ | ⟨hr, h1, h2, h3⟩ | ⟨hr, ⟨h1, h2⟩, ⟨h3, h4⟩, h5⟩ | ⟨hr, ⟨h1, h2⟩, ⟨h3, h4⟩, h5⟩
  iterate 4
    · rw [hr]
      clear hr
      go_enter Try.func91, Try.ntmps91
      go_wp2_with (first | (go_at_call 101; (first | refine (spec_l1In_yes _ _ _ _ (by omega)).mono ?_ | refine (spec_l1In_no _ _ _ _ (by omega)).mono ?_ | refine (spec_l1In _ _ _ _).mono ?_); rintro e w' ⟨rfl, rfl⟩))
      go_ret
      exact BV.mk rfl Kw
  · rw [hr]
    clear hr
    obtain ⟨m1, m2⟩ := mul24 h1 h2 h3 h4
    have h6 : ((n : Int) != r * c) = true := by rw [bne, h5]; rfl
    go_enter Try.func91, Try.ntmps91
    go_wp2_with (first | (go_at_call 101; (first | refine (spec_l1In_yes _ _ _ _ (by omega)).mono ?_ | refine (spec_l1In_no _ _ _ _ (by omega)).mono ?_ | refine (spec_l1In _ _ _ _).mono ?_); rintro e w' ⟨rfl, rfl⟩))
    go_ret
    exact BV.mk rfl Kw
  · rw [hr]
    clear hr
    obtain ⟨m1, m2⟩ := mul24 h1 h2 h3 h4
    have h6 : ((n : Int) != r * c) = false := by rw [bne, h5]; rfl
    go_enter Try.func91, Try.ntmps91
    go_wp2_with (first | (go_at_call 101; (first | refine (spec_l1In_yes _ _ _ _ (by omega)).mono ?_ | refine (spec_l1In_no _ _ _ _ (by omega)).mono ?_ | refine (spec_l1In _ _ _ _).mono ?_); rintro e w' ⟨rfl, rfl⟩))
    go_loop [3] (fun v => ∃ k : Nat, v = .int .i64 k ∧ k ≤ n ∧ (xs.take k).all isNum = true) (fun v => n - (intOf v).toNat)
    case atStart => exact ⟨0, rfl, Nat.zero_le _, by simp⟩
    case round =>
      obtain ⟨k, rfl, hk, hall0⟩ := hrel
      have hall := Lib.hid hall0
      clear hall0
      by_cases hlt : k < n
      · obtain ⟨b, o, rfl, hbb, hcells⟩ := H.out.2 (by omega)
        have c1 := hcells k hlt
        have hbs : b < w.heap.size := by omega
        clear hcells
        have hat := all_take (xs := xs) (p := isNum) (show k < xs.length by omega)
        have hfa := all_false (xs := xs) (p := isNum) (show k < xs.length by omega)
        rw [hall.out, Bool.true_and] at hat
        generalize xs.getD k 0 = x at c1 hat hfa
        rcases hx : isNum x with _ | _
        · have hres := Lib.hid (hfa hx)
          clear hat hfa
          go_wp2_with (first | (go_at_call 111; (first | refine (spec_IsNumber_yes _ _ (by omega)).mono ?_ | refine (spec_IsNumber_no _ _ (by omega)).mono ?_ | refine (spec_IsNumber _ _).mono ?_); rintro e w' ⟨rfl, rfl⟩))
          go_ret
          exact BV.mk (vbool hres.out.symm) Kw
        · have hnx := Lib.hid (hat.trans hx)
          clear hat hfa
          go_wp2_with (first | (go_at_call 111; (first | refine (spec_IsNumber_yes _ _ (by omega)).mono ?_ | refine (spec_IsNumber_no _ _ (by omega)).mono ?_ | refine (spec_IsNumber _ _).mono ?_); rintro e w' ⟨rfl, rfl⟩))
          go_round
          case rel => exact ⟨k + 1, by go_num, by omega, hnx.out⟩
          case measure => simp only [intOf]; omega
      · have hres := Lib.hid (show xs.all isNum = true by rw [← hall.out, List.take_of_length_le (by omega)])
        go_wp2
        go_ret
        exact BV.mk (vbool hres.out.symm) Kw

def isSq (r c : Int) (xs : List Int) : Bool := isMat r c xs && decide (r = c) && decide (r ≤ 6)
end Go.Proofs.Ytlggfmfelakadaa

/-
  DERIVED. The contracts of firstCell, isZeroRow, row.
-/
namespace Go.Proofs.Ytlggfmfelakadaa
open Go.RowKit
set_option linter.unusedVariables false
/-- The first place that is not 0; the length if there is none. -/
def fcN : List Int → Nat
  | [] => 0
  | x :: l => if x = 0 then fcN l + 1 else 0
def fcI (xs : List Int) : Int := if fcN xs < xs.length then (fcN xs : Int) else -1
theorem fcN_le : ∀ xs : List Int, fcN xs ≤ xs.length
  | [] => Nat.le_refl _
  | x :: l => by unfold fcN; have := fcN_le l; split <;> simp <;> omega
theorem fcN_zero : ∀ (xs : List Int) (j : Nat), j < fcN xs → xs.getD j 0 = 0
  | [], j, h => by simp [fcN] at h
  | x :: l, j, h => by
    unfold fcN at h
    split at h
    · rename_i h0
      match j, h with
      | 0, _ => simp [h0]
      | j + 1, h => simpa using fcN_zero l j (by omega)
    · omega
theorem fcN_ne : ∀ (xs : List Int), fcN xs < xs.length → xs.getD (fcN xs) 0 ≠ 0
  | [], h => by simp [fcN] at h
  | x :: l, h => by
    unfold fcN at h ⊢
    split
    · rename_i h0
      rw [if_pos h0] at h
      simpa using fcN_ne l (by simpa using h)
    · rename_i h0
      simpa using h0
theorem fcN_eq {xs : List Int} {k : Nat} (hk : k ≤ xs.length) (h0 : ∀ j, j < k → xs.getD j 0 = 0) (h1 : k < xs.length → xs.getD k 0 ≠ 0) : fcN xs = k := by
  rcases Nat.lt_trichotomy (fcN xs) k with h | h | h
  · exact absurd (h0 _ h) (fcN_ne xs (by omega))
  · exact h
  · have := fcN_le xs
    exact absurd (fcN_zero xs k h) (h1 (by omega))
/-- The first k are zeros. -/
def Zs (xs : List Int) (k : Nat) : Prop := ∀ j, j < k → xs.getD j 0 = 0
theorem Zs.succ {xs : List Int} {k : Nat} (h : Zs xs k) (h0 : xs.getD k 0 = 0) : Zs xs (k + 1) := fun j hj => by
  rcases Nat.lt_or_ge j k with h1 | h1
  · exact h j h1
  · obtain rfl : j = k := by omega
    exact h0

theorem firstCell_cl (x : Int) (w : World) : Calls Try.prog 137 #[.int .i64 x] w (EV (.bool (x != 0)) w) := by
  go_enter Try.func137, Try.ntmps137
  go_wp2
  go_ret
  exact EV.mk rfl
theorem IndexFunc_firstCell (A : Option Addr) (n cap : Nat) (xs : List Int) (w : World) {B : Nat} (h : RI w B A n xs) (hn : n ≤ 1048576) :
    Calls Try.prog 136 #[.slice A n cap, .func (.func 137) #[] #[]] w (EV (.int .i64 (fcI xs)) w) := by
  have hlen := h.len
  have hlx : xs.length ≤ n ∧ n ≤ xs.length := by omega
  have H := Lib.hid h
  clear h hlen
  go_enter Try.func136, Try.ntmps136
  go_wp2_with fail
  go_loop [8] (fun v => ∃ k : Nat, v = .int .i64 k ∧ k ≤ n ∧ Zs xs k) (fun v => n - (intOf v).toNat)
  case atStart => exact ⟨0, rfl, Nat.zero_le _, fun j h => absurd h (by omega)⟩
  case round =>
    obtain ⟨k, rfl, hk, hz⟩ := hrel
    have HZ := Lib.hid hz
    clear hz
    by_cases hlt : k < n
    · obtain ⟨b, o, rfl, hbb, hcells⟩ := H.out.2 (by omega)
      have c1 := hcells k hlt
      clear hcells
      by_cases hx : xs.getD k 0 = 0
      · have hxb : (xs.getD k 0 != 0) = false := by simpa using hx
        have hnz := Lib.hid (HZ.out.succ hx)
        clear hx
        generalize xs.getD k 0 = x at c1 hxb
        go_wp2_with fail
        refine (firstCell_cl x _).mono ?_
        rw [hxb]
        rintro e w' ⟨rfl, rfl⟩
        go_wp2_with fail
        go_round
        case rel => exact ⟨k + 1, by go_num, by omega, hnz.out⟩
        case measure => simp only [intOf]; omega
      · have hxb : (xs.getD k 0 != 0) = true := by simpa using hx
        have hfc := Lib.hid (show fcI xs = k by
          have := fcN_eq (show k ≤ xs.length by omega) HZ.out (fun _ => hx)
          unfold fcI; rw [this, if_pos (by omega)])
        clear hx
        generalize xs.getD k 0 = x at c1 hxb
        go_wp2_with fail
        refine (firstCell_cl x _).mono ?_
        rw [hxb]
        rintro e w' ⟨rfl, rfl⟩
        go_wp2_with fail
        go_ret
        exact EV.mk (vint hfc.out.symm)
    · have hfc := Lib.hid (show fcI xs = -1 by
        obtain rfl : k = n := by omega
        have := fcN_eq (show k ≤ xs.length by omega) HZ.out (fun h => absurd h (by omega))
        unfold fcI; rw [this, if_neg (by omega)])
      go_wp2_with fail
      go_ret
      exact EV.mk (vint hfc.out.symm)

theorem impl_firstCell (A : Option Addr) (n cap : Nat) (xs : List Int) (w : World) {B : Nat} (h : RI w B A n xs) (hn : n ≤ 1048576) :
    Calls Try.prog 132 #[.slice A n cap] w (EV (.int .i64 (fcI xs)) w) := by
  have H := Lib.hid h
  clear h
  go_enter Try.func132, Try.ntmps132
  go_wp2_with (go_at_call 136; refine (IndexFunc_firstCell A n cap xs _ H.out hn).mono ?_; rintro e w' ⟨rfl, rfl⟩)
  go_ret
  exact EV.mk rfl
end Go.Proofs.Ytlggfmfelakadaa

/-
  DERIVED. The contract of row; rows as lists.
-/
namespace Go.Proofs.Ytlggfmfelakadaa
open Go.RowKit
set_option linter.unusedVariables false
/-- Row i of rows of C cells. -/
def rowL (xs : List Int) (C i : Nat) : List Int := (xs.drop (i * C)).take C
theorem rowL_len {xs : List Int} {C i : Nat} (h : i * C + C ≤ xs.length) : (rowL xs C i).length = C := by
  simp [rowL]; omega
theorem rowL_getD {xs : List Int} {C i j : Nat} (hj : j < C) : (rowL xs C i).getD j 0 = cel xs C i j := by
  unfold rowL cel
  have e : ((i : Int) * (C : Int) + (j : Int)).toNat = i * C + j := by
    rw [← Int.natCast_mul, ← Int.natCast_add, Int.toNat_natCast]
  rw [e]
  simp [List.getD, hj, List.getElem?_drop]
/-- The call returned a slice that lies below block B and reads as ys. -/
def RowV (B C : Nat) (ys : List Int) (w : World) (e : Ending) (w' : World) : Prop := ∃ A' cap', e = .returned (.slice A' C cap') ∧ RI w' B A' C ys ∧ Below w.heap.size w w' ∧ C ≤ cap' ∧ cap' ≤ 9223372036854775807
theorem addr_add (b o k : Nat) : (⟨b, o, none⟩ : Addr).add k = ⟨b, o + k, none⟩ := by
  unfold Addr.add; split <;> simp_all
theorem RI.row {w : World} {B n C i : Nat} {A : Option Addr} {xs : List Int} (h : RI w B A n xs) (hk : i * C + C ≤ n) : RI w B (A.map fun x => x.add (i * C)) C (rowL xs C i) := by
  refine ⟨rowL_len (by rw [h.len]; exact hk), fun hC => ?_⟩
  obtain ⟨b, o, rfl, hb, hc⟩ := h.2 (by omega)
  refine ⟨b, o + i * C, by simp [addr_add], hb, fun k hk2 => ?_⟩
  rw [Nat.add_assoc, hc (i * C + k) (by omega), rowL_getD hk2]
  unfold cel
  rw [show ((i : Int) * (C : Int) + (k : Int)).toNat = i * C + k by rw [← Int.natCast_mul, ← Int.natCast_add, Int.toNat_natCast]]
theorem sub_mul_row (i C : Nat) : (i + 1) * C - i * C = C := by rw [Nat.add_mul, Nat.one_mul]; omega
theorem impl_row (r : Int) (C i : Nat) (A : Option Addr) (n cap : Nat) (xs : List Int) (w : World) {B : Nat} (h : RI w B A n xs) (hB : B ≤ w.heap.size) (hnc : n ≤ cap) (hcap : cap ≤ 9223372036854775807) (hC : C ≤ 1000) (hi : i ≤ 1000) (hk : i * C + C ≤ n) :
    Calls Try.prog 70 #[.agg #[.int .i64 r, .int .i64 C, .slice A n cap], .int .i64 i] w
      (RowV B C (rowL xs C i) w) := by
  have hlen := h.len
  have e1 : (i : Int) * (C : Int) = ((i * C : Nat) : Int) := by rw [Int.natCast_mul]
  have e2 : ((i : Int) + 1) * (C : Int) = ((i * C + C : Nat) : Int) := by rw [Int.add_mul, e1, Int.one_mul, ← Int.natCast_add]
  have hm : i * C ≤ 1000 * 1000 := Nat.mul_le_mul hi hC
  have E1 := Lib.hid e1
  have E2 := Lib.hid e2
  have b1 : 0 ≤ (i : Int) * (C : Int) := by omega
  have b2 : (i : Int) * (C : Int) ≤ 1000000 := by omega
  have b3 : 0 ≤ ((i : Int) + 1) * (C : Int) := by omega
  have b4 : ((i : Int) + 1) * (C : Int) ≤ 1001000 := by omega
  have b5 : (i : Int) * (C : Int) ≤ ((i : Int) + 1) * (C : Int) := by omega
  have b6 : ((i : Int) + 1) * (C : Int) ≤ cap := by omega
  have H := Lib.hid h
  clear h e1 e2 hlen
  go_enter Try.func70, Try.ntmps70
  go_wp2_with fail
  · go_ret
    have h0 : C = 0 := by omega
    refine ⟨A, 0, ?_, ?_, Kw, by omega, by omega⟩
    · show Ending.returned (.slice A ((i + 1) * C - i * C) 0) = _
      rw [sub_mul_row]
    · subst h0
      exact ⟨by simp [rowL], fun h => absurd h (by omega)⟩
  · go_ret
    refine ⟨A.map fun x => x.add (i * C), cap - i * C, ?_, (H.out.row hk).alloc hB _, Kw, by omega, by omega⟩
    show Ending.returned (.slice (A.map fun x => x.add (i * C)) ((i + 1) * C - i * C) (cap - i * C)) = _
    rw [sub_mul_row]
end Go.Proofs.Ytlggfmfelakadaa

/-
  DERIVED. What a Hermite form asks, row by row: no program in sight.
-/
namespace Go.Proofs.Ytlggfmfelakadaa
set_option linter.unusedVariables false
/-- The pivot of row i: the first column that is not 0, or the number of columns. -/
def pv (xs : List Int) (C i : Nat) : Nat := fcN (rowL xs C i)
def lastP (xs : List Int) (C i : Nat) : Int := if i = 0 then -1 else pv xs C (i - 1)
def hcA (xs : List Int) (C i k : Nat) : Bool := decide (0 ≤ cel xs C k (pv xs C i)) && decide (cel xs C k (pv xs C i) < cel xs C i (pv xs C i))
def hrow (xs : List Int) (C i : Nat) : Bool :=
  if pv xs C i < C then decide (lastP xs C i < pv xs C i) && decide (0 ≤ cel xs C i (pv xs C i)) && (List.range i).all (hcA xs C i) else true
def hcS (xs : List Int) (C i k : Nat) : Bool := if k < i then hcA xs C i k else if k = i then true else decide (cel xs C k (pv xs C i) = 0)
def hrowS (xs : List Int) (R C i : Nat) : Bool :=
  if pv xs C i < C then decide (lastP xs C i < pv xs C i) && decide (0 ≤ cel xs C i (pv xs C i)) && (List.range R).all (hcS xs C i) else true
def hermB (r c : Int) (xs : List Int) : Bool := isMat r c xs && (List.range r.toNat).all (hrow xs c.toNat)
theorem pv_le {xs : List Int} {R C i : Nat} (hl : xs.length = R * C) (hi : i < R) : pv xs C i ≤ C := by
  have h := fcN_le (rowL xs C i)
  rw [rowL_len (by rw [hl]; have := Nat.mul_le_mul_right C (show i + 1 ≤ R by omega); rw [Nat.add_mul, Nat.one_mul] at this; exact this)] at h
  exact h
theorem lastP_zero (xs : List Int) (C : Nat) : lastP xs C 0 = -1 := by simp [lastP]
theorem lastP_succ (xs : List Int) (C i : Nat) : lastP xs C (i + 1) = pv xs C i := by simp [lastP]
theorem pv_zero {xs : List Int} {C i j : Nat} (h : j < pv xs C i) (hj : j < C) : cel xs C i j = 0 := by
  rw [← rowL_getD hj]; exact fcN_zero _ _ h
theorem pv_inc {xs : List Int} {R C : Nat} (hl : xs.length = R * C) (h : (List.range R).all (hrow xs C) = true) {i : Nat} : ∀ k, i < k → k < R → pv xs C k < C → pv xs C i < pv xs C k := by
  intro k
  induction k with
  | zero => intro h1; omega
  | succ k ih =>
    intro h1 h2 h3
    have hk : hrow xs C (k + 1) = true := List.all_eq_true.1 h _ (List.mem_range.2 h2)
    unfold hrow at hk
    rw [if_pos h3, lastP_succ] at hk
    simp only [Bool.and_eq_true, decide_eq_true_eq] at hk
    have h4 := hk.1.1
    by_cases hik : i = k
    · subst hik; omega
    · have := ih (by omega) (by omega) (by omega); omega
theorem herm_iff {xs : List Int} {R C : Nat} (hl : xs.length = R * C) : (List.range R).all (hrow xs C) = (List.range R).all (hrowS xs R C) := by
  rw [Bool.eq_iff_iff]
  constructor
  · intro h
    rw [List.all_eq_true]
    intro i hi
    have hi' := List.mem_range.1 hi
    have h1 : hrow xs C i = true := List.all_eq_true.1 h _ hi
    unfold hrow at h1
    unfold hrowS
    split
    · rename_i hp
      rw [if_pos hp] at h1
      simp only [Bool.and_eq_true] at h1 ⊢
      refine ⟨h1.1, ?_⟩
      rw [List.all_eq_true]
      intro k hk
      have hk' := List.mem_range.1 hk
      unfold hcS
      split
      · rename_i hki
        exact List.all_eq_true.1 h1.2 k (List.mem_range.2 hki)
      · split
        · rfl
        · rw [decide_eq_true_eq]
          apply pv_zero _ hp
          by_cases hc : pv xs C k < C
          · exact pv_inc hl h k (by omega) hk' hc
          · have := pv_le hl hk'; omega
    · rfl
  · intro h
    rw [List.all_eq_true]
    intro i hi
    have hi' := List.mem_range.1 hi
    have h1 : hrowS xs R C i = true := List.all_eq_true.1 h _ hi
    unfold hrowS at h1
    unfold hrow
    split
    · rename_i hp
      rw [if_pos hp] at h1
      simp only [Bool.and_eq_true] at h1 ⊢
      refine ⟨h1.1, ?_⟩
      rw [List.all_eq_true]
      intro k hk
      have hk' := List.mem_range.1 hk
      have h2 : hcS xs C i k = true := List.all_eq_true.1 h1.2 k (List.mem_range.2 (by omega))
      unfold hcS at h2
      rw [if_pos hk'] at h2
      exact h2
    · rfl
theorem hermB_S (r c : Int) (xs : List Int) : hermB r c xs = (isMat r c xs && (List.range r.toNat).all (hrowS xs r.toNat c.toNat)) := by
  unfold hermB
  rcases hm : isMat r c xs with _ | _
  · rfl
  · have M := isMat_iff.1 hm
    rw [herm_iff]
    have h1 := M.len; have h2 := M.r0; have h3 := M.c0
    obtain ⟨R, rfl⟩ := nat_of h2
    obtain ⟨C, rfl⟩ := nat_of h3
    simp only [Int.toNat_natCast]
    rw [← Int.natCast_mul] at h1; omega
end Go.Proofs.Ytlggfmfelakadaa

/-
  DERIVED. Primitive rows: no program in sight.
-/
namespace Go.Proofs.Ytlggfmfelakadaa
set_option linter.unusedVariables false
/-- The greatest common divisor of a list. -/
def gcdL (l : List Int) : Nat := l.foldl (fun (g : Nat) (x : Int) => Int.gcd g x) 0
theorem gcdL_nil : gcdL [] = 0 := rfl
theorem gcdL_take {l : List Int} {k : Nat} (h : k < l.length) : gcdL (l.take (k + 1)) = Int.gcd (gcdL (l.take k)) (l.getD k 0) := by
  have e : l[k]? = some (l.getD k 0) := by simp [List.getD, h]
  rw [List.take_add_one, e]
  simp [gcdL, List.foldl_append]
theorem gcdF_dvd (l : List Int) : ∀ a : Nat, (l.foldl (fun (g : Nat) (x : Int) => Int.gcd g x) a) ∣ a ∧ ∀ x ∈ l, ((l.foldl (fun (g : Nat) (x : Int) => Int.gcd g x) a : Nat) : Int) ∣ x := by
  induction l with
  | nil => intro a; simp
  | cons y l ih =>
    intro a
    obtain ⟨h1, h2⟩ := ih (Int.gcd a y)
    have h3 : Int.gcd a y ∣ a := by
      have := Int.gcd_dvd_left (a := (a : Int)) (b := y); exact Int.natCast_dvd_natCast.1 this
    have h4 : ((Int.gcd a y : Nat) : Int) ∣ y := Int.gcd_dvd_right ..
    refine ⟨Nat.dvd_trans h1 h3, fun x hx => ?_⟩
    rcases List.mem_cons.1 hx with rfl | hx
    · exact Int.dvd_trans (Int.natCast_dvd_natCast.2 h1) h4
    · exact h2 x hx
theorem gcdL_dvd {l : List Int} {x : Int} (h : x ∈ l) : (gcdL l : Int) ∣ x := (gcdF_dvd l 0).2 x h
theorem gcdF_greatest (l : List Int) : ∀ (a d : Nat), d ∣ a → (∀ x ∈ l, (d : Int) ∣ x) → d ∣ l.foldl (fun (g : Nat) (x : Int) => Int.gcd g x) a := by
  induction l with
  | nil => intro a d h _; simpa using h
  | cons y l ih =>
    intro a d h h2
    refine ih _ d ?_ (fun x hx => h2 x (List.mem_cons_of_mem _ hx))
    exact Int.natCast_dvd_natCast.1 (Int.dvd_coe_gcd (Int.natCast_dvd_natCast.2 h) (h2 y (List.mem_cons_self ..)))
theorem dvd_gcdL {l : List Int} {d : Nat} (h : ∀ x ∈ l, (d : Int) ∣ x) : d ∣ gcdL l := gcdF_greatest l 0 d (Nat.dvd_zero _) h
theorem gcdL_zero {l : List Int} : gcdL l = 0 ↔ ∀ x ∈ l, x = 0 := by
  constructor
  · intro h x hx
    have := gcdL_dvd hx
    rw [h] at this
    simpa using this
  · intro h
    have : (0 : Nat) ∣ gcdL l := dvd_gcdL fun x hx => by rw [h x hx]; exact Int.dvd_zero _
    simpa using this
theorem mem_getD {l : List Int} {k : Nat} (h : k < l.length) : l.getD k 0 ∈ l := by
  have : l.getD k 0 = l[k] := by simp [List.getD, h]
  rw [this]; exact List.getElem_mem h
theorem fcN_lt_iff {l : List Int} : fcN l < l.length ↔ gcdL l ≠ 0 := by
  constructor
  · intro h h0
    exact fcN_ne l h (gcdL_zero.1 h0 _ (mem_getD h))
  · intro h
    apply Classical.byContradiction
    intro h1
    apply h
    rw [gcdL_zero]
    intro x hx
    obtain ⟨i, hi, rfl⟩ := List.mem_iff_getElem.1 hx
    have := fcN_zero l i (by have := fcN_le l; omega)
    simpa [List.getD, hi] using this
/-- The divisor of a row: its cells' greatest common divisor, with the sign of the first cell that is not 0. -/
def divL (l : List Int) : Int := if l.getD (fcN l) 0 < 0 then -(gcdL l : Int) else gcdL l
/-- The primitive row. -/
def primL (l : List Int) : List Int := if gcdL l = 0 then l else l.map (·.tdiv (divL l))
theorem primL_len (l : List Int) : (primL l).length = l.length := by unfold primL; split <;> simp
theorem divL_dvd {l : List Int} {x : Int} (h : x ∈ l) : divL l ∣ x := by
  unfold divL
  split
  · exact Int.neg_dvd.2 (gcdL_dvd h)
  · exact gcdL_dvd h
theorem divL_abs (l : List Int) : (divL l).natAbs = gcdL l := by unfold divL; split <;> omega
theorem map_tdiv_one {l : List Int} : l.map (·.tdiv 1) = l := by simp
/-- A row is primitive exactly if it is zeros or has no common divisor and begins with a positive number. -/
theorem primL_eq_iff (l : List Int) : primL l = l ↔ gcdL l = 0 ∨ (gcdL l = 1 ∧ 0 ≤ l.getD (fcN l) 0) := by
  unfold primL
  by_cases h0 : gcdL l = 0
  · simp [h0]
  · rw [if_neg h0]
    have hlt := fcN_lt_iff.2 h0
    have hm := mem_getD hlt
    have hne := fcN_ne l hlt
    constructor
    · intro h
      right
      have h1 : (l.map (·.tdiv (divL l))).getD (fcN l) 0 = l.getD (fcN l) 0 := by rw [h]
      have h2 : (l.map (·.tdiv (divL l))).getD (fcN l) 0 = (l.getD (fcN l) 0).tdiv (divL l) := by simp [List.getD, hlt]
      rw [h2] at h1
      obtain ⟨q, hq⟩ := divL_dvd hm
      have hd0 : divL l ≠ 0 := by
        intro e; have := divL_abs l; rw [e] at this; simp at this; omega
      have h3 : (l.getD (fcN l) 0).tdiv (divL l) = q := by rw [hq]; exact Int.mul_tdiv_cancel_left q hd0
      rw [h3] at h1
      have h4 : divL l = 1 := by
        have hq0 : q ≠ 0 := by rw [h1]; exact hne
        have : divL l * q = 1 * q := by rw [Int.one_mul, ← hq, h1]
        exact Int.eq_of_mul_eq_mul_right hq0 this
      have h5 := divL_abs l
      rw [h4] at h5
      refine ⟨by simpa using h5.symm, ?_⟩
      rcases Int.lt_or_le (l.getD (fcN l) 0) 0 with h6 | h6
      · unfold divL at h4; rw [if_pos h6] at h4; omega
      · exact h6
    · rintro (h | ⟨h1, h2⟩)
      · exact absurd h h0
      · have h3 : divL l = 1 := by unfold divL; rw [if_neg (by omega), h1]; rfl
        rw [h3, map_tdiv_one]
end Go.Proofs.Ytlggfmfelakadaa

/-
  DERIVED. The contracts of IsSquare, both; sums of rows.
-/
namespace Go.Proofs.Ytlggfmfelakadaa
open Go.RowKit
set_option linter.unusedVariables false
theorem sq_cases (r c : Int) (xs : List Int) : (isMat r c xs = false ∧ isSq r c xs = false) ∨ (isMat r c xs = true ∧ (r == c) = false ∧ isSq r c xs = false) ∨
    (isMat r c xs = true ∧ (r == c) = true ∧ 6 < r ∧ isSq r c xs = false) ∨ (isMat r c xs = true ∧ (r == c) = true ∧ r ≤ 6 ∧ isSq r c xs = true) := by
  unfold isSq
  rcases hm : isMat r c xs with _ | _
  · left; simp
  · right
    by_cases hrc : r = c
    · right
      by_cases h6 : 6 < r
      · left; simp [hrc] at *; omega
      · right; simp [hrc] at *; omega
    · left; simp [hrc]
theorem impl_IsSquare (r c : Int) (A : Option Addr) (n cap : Nat) (xs : List Int) (w : World) {B : Nat} (h : RI w B A n xs) (hB : B ≤ w.heap.size) (hn : n ≤ 1048576) :
    Calls Try.prog 60 #[.agg #[.int .i64 r, .int .i64 c, .slice A n cap]] w (BV (.bool (isSq r c xs)) w) := by
  have H2 := Lib.hid (h.more hB)
  clear h
  rcases sq_cases r c xs with ⟨hm, hr⟩ | ⟨hm, h1, hr⟩ | ⟨hm, h1, h2, hr⟩ | ⟨hm, h1, h2, hr⟩
  all_goals
    rw [hr]
    have HM := Lib.hid hm
    clear hm hr
    go_enter Try.func60, Try.ntmps60
    go_wp2_with (first | (go_at_call 46; refine (impl_IsMatrix r c A n cap xs _ (C := w.heap.size) (Kr H2.out) Ks hn).mono ?_; rw [HM.out]; rintro e w1 ⟨rfl, hb⟩; have hz := hb.size; (try simp at hz); have kk := bkeep (w := w) hb Ks; obtain ⟨kc, kf⟩ := kk; (try (have kk := bkeepb (w.heap.size) hb Ks; obtain ⟨kc0, kf0, kl0⟩ := kk)); (try (have kk := bkeepb (w.heap.size + 1) hb Ks; obtain ⟨kc1, kf1, kl1⟩ := kk)); (try (have kk := bkeepb (w.heap.size + 1 + 1) hb Ks; obtain ⟨kc2, kf2, kl2⟩ := kk)); (try (have kk := bkeepb (w.heap.size + 1 + 1 + 1) hb Ks; obtain ⟨kc3, kf3, kl3⟩ := kk)); (try (have kk := bkeepb (wr.heap.size) hb Ks; obtain ⟨kr0, ks0, kt0⟩ := kk)); (try (have kk := bkeepb (wr.heap.size + 1) hb Ks; obtain ⟨kr1, ks1, kt1⟩ := kk)); (try (have kk := bkeepb (wr.heap.size + 1 + 1) hb Ks; obtain ⟨kr2, ks2, kt2⟩ := kk))))
    go_ret
    first | exact BV.mk rfl Kw | exact BV.mk (vbool (show decide (r ≤ 6) = _ by simp; omega)) Kw
theorem spec_IsSquare (r c : Int) (A : Option Addr) (n cap : Nat) (xs : List Int) (w : World) {B : Nat} (h : RI w B A n xs) (hB : B ≤ w.heap.size) (hn : n ≤ 1048576) :
    Calls Try.prog 62 #[.agg #[.int .i64 r, .int .i64 c, .slice A n cap]] w (BV (.bool (isSq r c xs)) w) := by
  have H2 := Lib.hid (h.more hB)
  clear h
  rcases sq_cases r c xs with ⟨hm, hr⟩ | ⟨hm, h1, hr⟩ | ⟨hm, h1, h2, hr⟩ | ⟨hm, h1, h2, hr⟩
  all_goals
    rw [hr]
    have HM := Lib.hid hm
    clear hm hr
    go_enter Try.func62, Try.ntmps62
    go_wp2_with (first | (go_at_call 91; refine (spec_IsMatrix r c A n cap xs _ (C := w.heap.size) (Kr H2.out) Ks hn).mono ?_; rw [HM.out]; rintro e w1 ⟨rfl, hb⟩; have hz := hb.size; (try simp at hz); have kk := bkeep (w := w) hb Ks; obtain ⟨kc, kf⟩ := kk; (try (have kk := bkeepb (w.heap.size) hb Ks; obtain ⟨kc0, kf0, kl0⟩ := kk)); (try (have kk := bkeepb (w.heap.size + 1) hb Ks; obtain ⟨kc1, kf1, kl1⟩ := kk)); (try (have kk := bkeepb (w.heap.size + 1 + 1) hb Ks; obtain ⟨kc2, kf2, kl2⟩ := kk)); (try (have kk := bkeepb (w.heap.size + 1 + 1 + 1) hb Ks; obtain ⟨kc3, kf3, kl3⟩ := kk)); (try (have kk := bkeepb (wr.heap.size) hb Ks; obtain ⟨kr0, ks0, kt0⟩ := kk)); (try (have kk := bkeepb (wr.heap.size + 1) hb Ks; obtain ⟨kr1, ks1, kt1⟩ := kk)); (try (have kk := bkeepb (wr.heap.size + 1 + 1) hb Ks; obtain ⟨kr2, ks2, kt2⟩ := kk))))
    go_ret
    first | exact BV.mk rfl Kw | exact BV.mk (vbool (show decide (r ≤ 6) = _ by simp; omega)) Kw
structure IsS (r c : Int) (xs : List Int) : Prop where
  m : IsM r c xs
  e : r = c
  le : r ≤ 6
theorem isSq_iff {r c : Int} {xs : List Int} : isSq r c xs = true ↔ IsS r c xs := by
  simp only [isSq, Bool.and_eq_true, decide_eq_true_eq, isMat_iff]
  exact ⟨fun ⟨⟨h1, h2⟩, h3⟩ => ⟨h1, h2, h3⟩, fun ⟨h1, h2, h3⟩ => ⟨⟨h1, h2⟩, h3⟩⟩
/-- The sum of the absolute values of the first j numbers. -/
def absSum (l : List Int) : Nat → Int
  | 0 => 0
  | j + 1 => absSum l j + (l.getD j 0).natAbs
theorem absSum_bd {l : List Int} (h : ∀ k, -400000000 ≤ l.getD k 0 ∧ l.getD k 0 ≤ 400000000) : ∀ j : Nat, 0 ≤ absSum l j ∧ absSum l j ≤ 400000000 * j
  | 0 => by simp [absSum]
  | j + 1 => by
    have h1 := absSum_bd h j
    have h2 := h j
    unfold absSum
    omega
theorem absSum_mono {l : List Int} (h : ∀ k, -400000000 ≤ l.getD k 0 ∧ l.getD k 0 ≤ 400000000) (j : Nat) : absSum l j ≤ absSum l (j + 1) := by
  show _ ≤ absSum l j + _
  omega
/-- The product of the sums, while all stays within the limit. -/
def bndI (p : Int) : List Int → Option Int
  | [] => some p
  | s :: l => if isNum s = true ∧ isNum (p * s) = true then bndI (p * s) l else none
def rowSums (xs : List Int) (C : Nat) (R : Nat) : List Int := (List.range R).map fun i => absSum (rowL xs C i) C
def bndRes (r c : Int) (xs : List Int) : Option Int := if isSq r c xs then bndI 1 (rowSums xs c.toNat r.toNat) else none
def optV : Option Int → Value
  | none => .tuple #[.int .i64 0, .bool false]
  | some n => .tuple #[.int .i64 n, .bool true]
theorem rowSums_drop {xs : List Int} {C R i : Nat} (h : i < R) : (rowSums xs C R).drop i = absSum (rowL xs C i) C :: (rowSums xs C R).drop (i + 1) := by
  rw [List.drop_eq_getElem_cons (by simp [rowSums]; exact h)]
  simp [rowSums]
theorem rowSums_end (xs : List Int) (C R : Nat) : (rowSums xs C R).drop R = [] := by
  apply List.drop_of_length_le; simp [rowSums]
end Go.Proofs.Ytlggfmfelakadaa

/-
  DERIVED. A window of a list: what lies from off on, m of them; the window put back. No program in sight.
-/
namespace Go.Proofs.Ytlggfmfelakadaa
set_option linter.unusedVariables false
def winL (xs : List Int) (off m : Nat) : List Int := (xs.drop off).take m
/-- xs with ys from off on. -/
def splL (xs : List Int) (off : Nat) (ys : List Int) : List Int := xs.take off ++ ys ++ xs.drop (off + ys.length)
theorem winL_len {xs : List Int} {off m : Nat} (h : off + m ≤ xs.length) : (winL xs off m).length = m := by simp [winL]; omega
theorem winL_getD {xs : List Int} {off m k : Nat} (hk : k < m) : (winL xs off m).getD k 0 = xs.getD (off + k) 0 := by
  simp [winL, List.getD, hk, List.getElem?_drop]
theorem splL_len {xs ys : List Int} {off : Nat} (h : off + ys.length ≤ xs.length) : (splL xs off ys).length = xs.length := by
  simp [splL]; omega
theorem splL_win {xs : List Int} {off m : Nat} (h : off + m ≤ xs.length) : splL xs off (winL xs off m) = xs := by
  unfold splL
  rw [winL_len h]
  unfold winL
  rw [List.append_assoc, ← List.drop_drop, List.take_append_drop, List.take_append_drop]
theorem splL_getD {xs ys : List Int} {off k : Nat} (h : off + ys.length ≤ xs.length) (hk : k < ys.length) : (splL xs off ys).getD (off + k) 0 = ys.getD k 0 := by
  unfold splL
  simp only [List.getD]
  rw [List.append_assoc, List.getElem?_append_right (by simp; omega)]
  rw [List.getElem?_append_left (by simp; omega)]
  congr 2
  simp; omega
theorem splL_set {xs ys : List Int} {off k : Nat} {v : Int} (h : off + ys.length ≤ xs.length) (hk : k < ys.length) : (splL xs off ys).set (off + k) v = splL xs off (ys.set k v) := by
  unfold splL
  rw [List.length_set, List.append_assoc, List.append_assoc, List.set_append_right _ _ (by simp; omega)]
  congr 1
  have e : off + k - (xs.take off).length = k := by simp; omega
  rw [e, List.set_append_left _ _ hk]
/-- The first k of ys, then the rest of zs. -/
def mixL (ys zs : List Int) (k : Nat) : List Int := ys.take k ++ zs.drop k
theorem mixL_len {ys zs : List Int} {k : Nat} (h : ys.length = zs.length) (hk : k ≤ zs.length) : (mixL ys zs k).length = zs.length := by simp [mixL]; omega
theorem mixL_zero (ys zs : List Int) : mixL ys zs 0 = zs := by simp [mixL]
theorem mixL_all {ys zs : List Int} {k : Nat} (h : ys.length = zs.length) (hk : zs.length ≤ k) : mixL ys zs k = ys := by
  simp [mixL, List.drop_of_length_le hk, List.take_of_length_le (show ys.length ≤ k by omega)]
theorem mixL_at {ys zs : List Int} {k : Nat} (h : ys.length = zs.length) (hk : k < zs.length) : (mixL ys zs k).getD k 0 = zs.getD k 0 := by
  simp only [mixL, List.getD]
  rw [List.getElem?_append_right (by simp; omega)]
  simp [Nat.min_eq_left (show k ≤ ys.length by omega)]
theorem mixL_set {ys zs : List Int} {k : Nat} (h : ys.length = zs.length) (hk : k < zs.length) : (mixL ys zs k).set k (ys.getD k 0) = mixL ys zs (k + 1) := by
  unfold mixL
  apply List.ext_getElem?
  intro i
  grind
theorem primL_getD {l : List Int} {k : Nat} (hk : k < l.length) (hg : gcdL l ≠ 0) : (primL l).getD k 0 = (l.getD k 0).tdiv (divL l) := by
  unfold primL
  rw [if_neg hg]
  simp [List.getD, hk]
end Go.Proofs.Ytlggfmfelakadaa

/-
  DERIVED. Products of matrices, turned matrices, as lists of cells: no program in sight.
-/
namespace Go.Proofs.Ytlggfmfelakadaa
set_option linter.unusedVariables false
/-- The sum of f from 0 on, k of them. -/
def sumTo (f : Nat → Int) : Nat → Int
  | 0 => 0
  | k + 1 => sumTo f k + f k
/-- A list of n numbers, place by place. -/
def tab (n : Nat) (f : Nat → Int) : List Int := (List.range n).map f
theorem tab_len (n : Nat) (f : Nat → Int) : (tab n f).length = n := by simp [tab]
theorem tab_getD {n : Nat} {f : Nat → Int} {k : Nat} (h : k < n) : (tab n f).getD k 0 = f k := by simp [tab, List.getD, h]
def prodAt (xs : List Int) (c : Nat) (ys : List Int) (c2 i j : Nat) : Int := sumTo (fun k => cel xs c i k * cel ys c2 k j) c
/-- The product of r rows of c cells and c rows of c2 cells. -/
def mulL (xs : List Int) (r c : Nat) (ys : List Int) (c2 : Nat) : List Int := tab (r * c2) fun q => prodAt xs c ys c2 (q / c2) (q % c2)
theorem mulL_len (xs : List Int) (r c : Nat) (ys : List Int) (c2 : Nat) : (mulL xs r c ys c2).length = r * c2 := tab_len _ _
theorem idx_nat {r c i j : Nat} (hi : i < r) (hj : j < c) : i * c + j < r * c := by
  have h3 := Nat.mul_le_mul_right c (show i + 1 ≤ r by omega)
  rw [Nat.add_mul, Nat.one_mul] at h3; omega
theorem idx_div {c i j : Nat} (hj : j < c) : (i * c + j) / c = i ∧ (i * c + j) % c = j := by
  have hc : 0 < c := by omega
  rw [Nat.mul_comm]
  exact ⟨by rw [Nat.mul_add_div hc, Nat.div_eq_of_lt hj, Nat.add_zero], by rw [Nat.mul_add_mod, Nat.mod_eq_of_lt hj]⟩
theorem mulL_at {xs ys : List Int} {r c c2 i j : Nat} (hi : i < r) (hj : j < c2) : (mulL xs r c ys c2).getD (i * c2 + j) 0 = prodAt xs c ys c2 i j := by
  unfold mulL
  rw [tab_getD (idx_nat hi hj), (idx_div hj).1, (idx_div hj).2]
theorem sumTo_bd {f : Nat → Int} {b : Int} (hb : 0 ≤ b) : ∀ k, (∀ i, i < k → -b ≤ f i ∧ f i ≤ b) → -(b * k) ≤ sumTo f k ∧ sumTo f k ≤ b * k
  | 0, _ => by simp [sumTo]
  | k + 1, h => by
    obtain ⟨h1, h2⟩ := sumTo_bd hb k (fun i hi => h i (by omega))
    obtain ⟨h3, h4⟩ := h k (by omega)
    have e : b * ((k + 1 : Nat) : Int) = b * k + b := by
      rw [show ((k + 1 : Nat) : Int) = (k : Int) + 1 by omega, Int.mul_add, Int.mul_one]
    simp only [sumTo]
    omega
/-- Rows and columns exchanged. -/
def turnL (xs : List Int) (r c : Nat) : List Int := tab (c * r) fun q => cel xs c (q % r : Nat) (q / r : Nat)
theorem turnL_len (xs : List Int) (r c : Nat) : (turnL xs r c).length = c * r := tab_len _ _
theorem turnL_at {xs : List Int} {r c i j : Nat} (hi : i < r) (hj : j < c) : (turnL xs r c).getD (j * r + i) 0 = cel xs c i j := by
  unfold turnL
  rw [tab_getD (idx_nat hj hi), (idx_div hi).1, (idx_div hi).2]
/-- The product, if both are matrices that fit, and it is one. -/
def mulB (r c : Int) (xs : List Int) (r2 c2 : Int) (ys : List Int) : Bool :=
  isMat r c xs && isMat r2 c2 ys && decide (c = r2) && isMat r c2 (mulL xs r.toNat c.toNat ys c2.toNat)
def mulM (r c : Int) (xs : List Int) (r2 c2 : Int) (ys : List Int) : Mx := if mulB r c xs r2 c2 ys then ⟨r, c2, mulL xs r.toNat c.toNat ys c2.toNat⟩ else .none
theorem cel_nat (xs : List Int) (C i j : Nat) : cel xs C i j = xs.getD (i * C + j) 0 := by
  unfold cel
  rw [show ((i : Int) * (C : Int) + (j : Int)).toNat = i * C + j by rw [← Int.natCast_mul, ← Int.natCast_add, Int.toNat_natCast]]
end Go.Proofs.Ytlggfmfelakadaa

/-
  DERIVED. A matrix as a function of row and column: no program in sight.
-/
namespace Go.Proofs.Ytlggfmfelakadaa
set_option linter.unusedVariables false
/-- R rows of C cells. -/
def tb (R C : Nat) (f : Nat → Nat → Int) : List Int := tab (R * C) fun q => f (q / C) (q % C)
theorem tb_len (R C : Nat) (f : Nat → Nat → Int) : (tb R C f).length = R * C := tab_len _ _
theorem tb_at {R C i j : Nat} {f : Nat → Nat → Int} (hi : i < R) (hj : j < C) : (tb R C f).getD (i * C + j) 0 = f i j := by
  unfold tb
  rw [tab_getD (idx_nat hi hj), (idx_div hj).1, (idx_div hj).2]
theorem cel_tb {R C i j : Nat} {f : Nat → Nat → Int} (hi : i < R) (hj : j < C) : cel (tb R C f) C i j = f i j := by
  rw [cel_nat, tb_at hi hj]
theorem tb_ext {R C : Nat} {f g : Nat → Nat → Int} (h : ∀ i j, i < R → j < C → f i j = g i j) : tb R C f = tb R C g := by
  unfold tb tab
  apply List.map_congr_left
  intro q hq
  have hq' := List.mem_range.1 hq
  have hC : 0 < C := by
    rcases Nat.eq_zero_or_pos C with h0 | h0
    · subst h0; simp at hq'
    · exact h0
  exact h _ _ (Nat.div_lt_of_lt_mul (by rw [Nat.mul_comm]; exact hq')) (Nat.mod_lt _ hC)
/-- One cell anew. -/
def upd (f : Nat → Nat → Int) (i j : Nat) (v : Int) : Nat → Nat → Int := fun a b => if a = i ∧ b = j then v else f a b
theorem tb_set {R C i j : Nat} {f : Nat → Nat → Int} {v : Int} (hi : i < R) (hj : j < C) : (tb R C f).set (i * C + j) v = tb R C (upd f i j v) := by
  unfold tb tab
  apply List.ext_getElem?
  intro q
  rw [List.getElem?_set]
  have hC : 0 < C := by omega
  have hd := idx_div (i := i) hj
  have hlt := idx_nat hi hj
  by_cases hq : i * C + j = q
  · subst hq
    simp [hlt, upd, hd.1, hd.2]
  · rw [if_neg hq]
    by_cases hqs : q < R * C
    · have e : ¬ (q / C = i ∧ q % C = j) := by
        rintro ⟨rfl, rfl⟩
        exact hq (by rw [Nat.mul_comm]; exact Nat.div_add_mod q C)
      simp [hqs, upd, e]
    · simp [hqs]
theorem tb_of {xs : List Int} {R C : Nat} (h : xs.length = R * C) : xs = tb R C (fun i j => cel xs C i j) := by
  apply List.ext_getElem?
  intro q
  by_cases hq : q < R * C
  · have hC : 0 < C := by
      rcases Nat.eq_zero_or_pos C with h0 | h0
      · subst h0; simp at hq
      · exact h0
    have e1 : q / C * C + q % C = q := by rw [Nat.mul_comm]; exact Nat.div_add_mod q C
    unfold tb tab
    simp only [List.getElem?_map, List.getElem?_range hq, Option.map_some, cel_nat, e1]
    simp [List.getD, show q < xs.length by omega]
  · rw [List.getElem?_eq_none (by omega), List.getElem?_eq_none (by rw [tb_len]; omega)]
theorem tb_mem {R C : Nat} {f : Nat → Nat → Int} {P : Int → Prop} (h : ∀ i j, i < R → j < C → P (f i j)) : ∀ x ∈ tb R C f, P x := by
  intro x hx
  unfold tb tab at hx
  obtain ⟨q, hq, rfl⟩ := List.mem_map.1 hx
  have hq' := List.mem_range.1 hq
  have hC : 0 < C := by
    rcases Nat.eq_zero_or_pos C with h0 | h0
    · subst h0; simp at hq'
    · exact h0
  exact h _ _ (Nat.div_lt_of_lt_mul (by rw [Nat.mul_comm]; exact hq')) (Nat.mod_lt _ hC)
/-- Rows p and t exchanged. -/
def swF (f : Nat → Nat → Int) (p t : Nat) : Nat → Nat → Int := fun i k => f (if i = p then t else if i = t then p else i) k
theorem swF_same (f : Nat → Nat → Int) (t : Nat) : swF f t t = f := by
  funext i k
  unfold swF
  split
  · rename_i h; rw [h]
  · rfl
theorem swF_t (f : Nat → Nat → Int) (k t c : Nat) : swF f k t t c = f k c := by
  unfold swF
  split
  · rename_i h; rw [h]
  · rw [if_pos rfl]
/-- Exchanged in the first k columns. -/
def swK (f : Nat → Nat → Int) (p t k : Nat) : Nat → Nat → Int := fun i c => if c < k then swF f p t i c else f i c
theorem swK_zero (f : Nat → Nat → Int) (p t : Nat) : swK f p t 0 = f := by funext i c; simp [swK]
theorem swK_step {f : Nat → Nat → Int} {p t k : Nat} (h : p ≠ t) : upd (upd (swK f p t k) p k (f t k)) t k (f p k) = swK f p t (k + 1) := by
  funext i c
  unfold upd swK swF
  grind
theorem swK_end {R C : Nat} (f : Nat → Nat → Int) (p t : Nat) : tb R C (swK f p t C) = tb R C (swF f p t) := tb_ext fun i j hi hj => by unfold swK; rw [if_pos hj]
/-- The first row from k on, n of them, that has something in column j. -/
def fnd (f : Nat → Nat → Int) (j : Nat) : Nat → Nat → Nat
  | 0, k => k
  | n + 1, k => if f k j = 0 then fnd f j n (k + 1) else k
theorem fnd_le (f : Nat → Nat → Int) (j : Nat) : ∀ n k, k ≤ fnd f j n k ∧ fnd f j n k ≤ k + n
  | 0, k => ⟨Nat.le_refl _, Nat.le_refl _⟩
  | n + 1, k => by
    unfold fnd
    have := fnd_le f j n (k + 1)
    split <;> omega
theorem fnd_ne (f : Nat → Nat → Int) (j : Nat) : ∀ n k, fnd f j n k < k + n → f (fnd f j n k) j ≠ 0
  | 0, k, h => by simp [fnd] at h
  | n + 1, k, h => by
    unfold fnd at h ⊢
    split
    · rename_i h0
      rw [if_pos h0] at h
      exact fnd_ne f j n (k + 1) (by omega)
    · rename_i h0
      exact h0
theorem fnd_next {f : Nat → Nat → Int} {j R k : Nat} (hk : k < R) (h0 : f k j = 0) : fnd f j (R - k) k = fnd f j (R - (k + 1)) (k + 1) := by
  rw [show R - k = (R - (k + 1)) + 1 by omega]
  conv => lhs; unfold fnd
  rw [if_pos h0]
theorem fnd_here {f : Nat → Nat → Int} {j R k : Nat} (hk : k < R) (h0 : f k j ≠ 0) : fnd f j (R - k) k = k := by
  rw [show R - k = (R - (k + 1)) + 1 by omega]
  unfold fnd
  rw [if_neg h0]
theorem fnd_end (f : Nat → Nat → Int) (j R : Nat) : fnd f j (R - R) R = R := by rw [Nat.sub_self]; rfl
end Go.Proofs.Ytlggfmfelakadaa

/-
  DERIVED. The Hermite form, step by step, as functions of row and column: no program in sight.
-/
namespace Go.Proofs.Ytlggfmfelakadaa
set_option linter.unusedVariables false
abbrev Fn2 := Nat → Nat → Int
/-- Row i plus t times row j, numbers beyond the limit marked. -/
def opA (f : Fn2) (i j : Nat) (t : Int) : Fn2 := fun x y => if x = i then addB (f i y) (mulF (f j y) t) else f x y
/-- Row i negated. -/
def opN (f : Fn2) (i : Nat) : Fn2 := fun x y => if x = i then -f i y else f x y
/-- The same, marks kept. -/
def opM (f : Fn2) (i : Nat) : Fn2 := fun x y => if x = i then (if f i y = bad then bad else -f i y) else f x y
/-- A matrix and the account of what is done to it. -/
structure HS where
  f : Fn2
  g : Fn2
def HS.add (s : HS) (i j : Nat) (t : Int) : HS := ⟨opA s.f i j t, opA s.g i j t⟩
def HS.swap (s : HS) (p t : Nat) : HS := ⟨swF s.f p t, swF s.g p t⟩
def HS.neg (s : HS) (i : Nat) : HS := ⟨opM s.f i, opM s.g i⟩
def Num (n : Int) : Prop := -400000000 ≤ n ∧ n ≤ 400000000
theorem Num.isN {n : Int} (h : Num n) : isNum n = true := (isNum_iff n).2 h
theorem Num.of {n : Int} (h : isNum n = true) : Num n := (isNum_iff n).1 h
theorem Num.ne {n : Int} (h : Num n) : n ≠ bad := by unfold Num at h; unfold bad; omega
theorem Num.nb {n : Int} (h : Num n) : NB n := .inr h
theorem NB.num {n : Int} (h : NB n) (h2 : n ≠ bad) : Num n := h.resolve_left h2
/-- In R rows of C cells all are numbers. -/
def OKF (R C : Nat) (f : Fn2) : Prop := ∀ i j, i < R → j < C → Num (f i j)
def NBF (f : Fn2) : Prop := ∀ i j, NB (f i j)
structure HS.OK (R C : Nat) (s : HS) : Prop where
  f : OKF R C s.f
  g : OKF R R s.g
structure HS.NBS (s : HS) : Prop where
  f : NBF s.f
  g : NBF s.g
theorem NB.addB (a b : Int) : NB (addB a b) := by
  unfold Go.Proofs.Ytlggfmfelakadaa.addB
  split
  · exact .inl rfl
  · exact NB.fit _
theorem NB.mulF (a b : Int) : NB (mulF a b) := by
  unfold Go.Proofs.Ytlggfmfelakadaa.mulF
  split
  · exact .inl rfl
  · exact NB.fit _
theorem opA_nb {f : Fn2} (h : NBF f) (i j : Nat) (t : Int) : NBF (opA f i j t) := by
  intro x y
  unfold opA
  split
  · exact NB.addB _ _
  · exact h x y
theorem HS.NBS.add {s : HS} (h : s.NBS) (i j : Nat) (t : Int) : (s.add i j t).NBS := ⟨opA_nb h.f _ _ _, opA_nb h.g _ _ _⟩
theorem addB_ne {a b : Int} (h : addB a b ≠ bad) : a ≠ bad ∧ b ≠ bad ∧ addB a b = a + b ∧ Num (a + b) := by
  unfold addB at h ⊢
  split at h
  · exact absurd rfl h
  · rename_i h1
    rw [if_neg h1]
    refine ⟨fun e => h1 (.inl e), fun e => h1 (.inr e), ?_⟩
    unfold fit at h ⊢
    split at h
    · rename_i h2
      rw [if_pos h2]
      exact ⟨rfl, Num.of h2⟩
    · exact absurd rfl h
theorem mulF_ne {a b : Int} (h : mulF a b ≠ bad) : a ≠ bad ∧ b ≠ bad ∧ mulF a b = a * b ∧ Num (a * b) := by
  unfold mulF at h ⊢
  split at h
  · exact absurd rfl h
  · rename_i h1
    rw [if_neg h1]
    refine ⟨fun e => h1 (.inl e), fun e => h1 (.inr e), ?_⟩
    unfold fit at h ⊢
    split at h
    · rename_i h2
      rw [if_pos h2]
      exact ⟨rfl, Num.of h2⟩
    · exact absurd rfl h
theorem opA_num {f : Fn2} {i j y : Nat} {t : Int} (h : Num (opA f i j t i y)) : f i y ≠ bad ∧ f j y ≠ bad ∧ opA f i j t i y = f i y + f j y * t ∧ Num (f j y * t) := by
  have h1 := h.ne
  unfold opA at h1 ⊢
  rw [if_pos rfl] at h1 ⊢
  obtain ⟨a1, a2, a3, a4⟩ := addB_ne h1
  obtain ⟨b1, b2, b3, b4⟩ := mulF_ne a2
  rw [a3, b3]
  exact ⟨a1, b1, rfl, b4⟩
theorem opA_back {f : Fn2} {R C i j : Nat} {t : Int} (hn : NBF f) (h : OKF R C (opA f i j t)) : OKF R C f := by
  intro x y hx hy
  by_cases hxi : x = i
  · subst hxi
    exact (hn x y).num (opA_num (h x y hx hy)).1
  · have := h x y hx hy
    unfold opA at this
    rwa [if_neg hxi] at this
theorem HS.OK.back {s : HS} {R C i j : Nat} {t : Int} (hn : s.NBS) (h : (s.add i j t).OK R C) : s.OK R C := ⟨opA_back hn.f h.f, opA_back hn.g h.g⟩
theorem opA_other {f : Fn2} {i j x y : Nat} {t : Int} (h : x ≠ i) : opA f i j t x y = f x y := by unfold opA; rw [if_neg h]
/-- Whether row i can take t times row j. -/
def rowOk (f : Fn2) (i j : Nat) (t : Int) (C : Nat) : Prop := ∀ y, y < C → Num (f j y * t) ∧ Num (f i y + f j y * t)
theorem rowOk_iff {f : Fn2} {R C i j : Nat} {t : Int} (h : OKF R C f) (hi : i < R) (hj : j < R) (ht : Num t) : rowOk f i j t C ↔ OKF R C (opA f i j t) := by
  constructor
  · intro hr x y hx hy
    unfold opA
    split
    · obtain ⟨h1, h2⟩ := hr y hy
      rw [mulF_num (h j y hj hy) ht, fit_in h1, addB_num (h i y hi hy) h1, fit_in h2]
      exact h2
    · exact h x y hx hy
  · intro ho y hy
    obtain ⟨h1, h2, h3, h4⟩ := opA_num (ho i y hi hy)
    refine ⟨h4, ?_⟩
    rw [← h3]
    exact ho i y hi hy
theorem rowOk_val {f : Fn2} {R C i j y : Nat} {t : Int} (h : OKF R C f) (hi : i < R) (hj : j < R) (ht : Num t) (hr : rowOk f i j t C) (hy : y < C) : opA f i j t i y = f i y + f j y * t := by
  obtain ⟨h1, h2⟩ := hr y hy
  unfold opA
  rw [if_pos rfl, mulF_num (h j y hj hy) ht, fit_in h1, addB_num (h i y hi hy) h1, fit_in h2]
/-- The quotient that leaves a remainder from 0 on is no greater. -/
theorem ediv_bd {n d : Int} (h : Num n) (hd : d ≠ 0) : Num (n / d) := by
  unfold Num at *
  have := Int.natAbs_ediv_le_natAbs n d
  omega
theorem Num.neg {n : Int} (h : Num n) : Num (-n) := by unfold Num at *; omega
/-- The row from t on, n of them, with the least absolute value in column j that is not 0; -1 if there is none. -/
def lstK (f : Fn2) (j t : Nat) : Nat → Int
  | 0 => -1
  | n + 1 => if f (t + n) j ≠ 0 ∧ (lstK f j t n < 0 ∨ (f (t + n) j).natAbs < (f (lstK f j t n).toNat j).natAbs) then ((t + n : Nat) : Int) else lstK f j t n
theorem lstK_succ (f : Fn2) (j t n : Nat) : lstK f j t (n + 1) = if f (t + n) j ≠ 0 ∧ (lstK f j t n < 0 ∨ (f (t + n) j).natAbs < (f (lstK f j t n).toNat j).natAbs) then ((t + n : Nat) : Int) else lstK f j t n := rfl
theorem lstK_cases (f : Fn2) (j t : Nat) : ∀ n, (lstK f j t n = -1 ∧ ∀ i, i < n → f (t + i) j = 0) ∨ ∃ p, lstK f j t n = (p : Nat) ∧ t ≤ p ∧ p < t + n ∧ f p j ≠ 0 ∧ ∀ i, i < n → f (t + i) j ≠ 0 → (f p j).natAbs ≤ (f (t + i) j).natAbs
  | 0 => .inl ⟨rfl, fun i h => absurd h (Nat.not_lt_zero _)⟩
  | n + 1 => by
    rw [lstK_succ]
    rcases lstK_cases f j t n with ⟨h1, h2⟩ | ⟨p, h1, h2, h3, h4, h5⟩
    · by_cases hz : f (t + n) j = 0
      · left
        rw [if_neg (by simp [hz])]
        refine ⟨h1, fun i hi => ?_⟩
        rcases Nat.lt_or_ge i n with hi' | hi'
        · exact h2 i hi'
        · rw [show i = n by omega]; exact hz
      · right
        rw [if_pos ⟨hz, .inl (by omega)⟩]
        refine ⟨t + n, rfl, by omega, by omega, hz, fun i hi hne => ?_⟩
        rcases Nat.lt_or_ge i n with hi' | hi'
        · exact absurd (h2 i hi') hne
        · rw [show i = n by omega]; exact Nat.le_refl _
    · right
      rw [h1]
      by_cases hc : f (t + n) j ≠ 0 ∧ ((p : Int) < 0 ∨ (f (t + n) j).natAbs < (f (p : Int).toNat j).natAbs)
      · rw [if_pos hc]
        obtain ⟨hz, hc⟩ := hc
        rw [Int.toNat_natCast] at hc
        have hc' : (f (t + n) j).natAbs < (f p j).natAbs := hc.resolve_left (by omega)
        refine ⟨t + n, rfl, by omega, by omega, hz, fun i hi hne => ?_⟩
        rcases Nat.lt_or_ge i n with hi' | hi'
        · have := h5 i hi' hne; omega
        · rw [show i = n by omega]; exact Nat.le_refl _
      · rw [if_neg hc]
        rw [Int.toNat_natCast] at hc
        refine ⟨p, rfl, h2, by omega, h4, fun i hi hne => ?_⟩
        rcases Nat.lt_or_ge i n with hi' | hi'
        · exact h5 i hi' hne
        · rw [show i = n by omega] at hne ⊢
          refine Nat.le_of_not_lt fun hlt => hc ⟨hne, .inr hlt⟩
def lst (R : Nat) (f : Fn2) (j t : Nat) : Int := lstK f j t (R - t)
/-- Whether another row from t on has something in column j. -/
def oth (R : Nat) (f : Fn2) (j t p : Nat) : Bool := (List.range (R - t)).any fun n => decide (t + n ≠ p) && decide (f (t + n) j ≠ 0)
theorem oth_iff {R : Nat} {f : Fn2} {j t p : Nat} : oth R f j t p = true ↔ ∃ i, t ≤ i ∧ i < R ∧ i ≠ p ∧ f i j ≠ 0 := by
  unfold oth
  rw [List.any_eq_true]
  constructor
  · rintro ⟨n, hn, h⟩
    have hn' := List.mem_range.1 hn
    rw [Bool.and_eq_true, decide_eq_true_eq, decide_eq_true_eq] at h
    exact ⟨t + n, by omega, by omega, h.1, h.2⟩
  · rintro ⟨i, h1, h2, h3, h4⟩
    refine ⟨i - t, List.mem_range.2 (by omega), ?_⟩
    rw [show t + (i - t) = i by omega, Bool.and_eq_true, decide_eq_true_eq, decide_eq_true_eq]
    exact ⟨h3, h4⟩
theorem oth_no {R : Nat} {f : Fn2} {j t p : Nat} (h : ∀ i, t ≤ i → i < R → ¬ (i ≠ p ∧ f i j ≠ 0)) : oth R f j t p = false := by
  refine Bool.eq_false_iff.2 fun hc => ?_
  obtain ⟨i, h1, h2, h3⟩ := oth_iff.1 hc
  exact h i h1 h2 h3
/-- What row t + n takes in a sweep. -/
def swS (j p t : Nat) (s : HS) : Nat → HS
  | 0 => s
  | n + 1 => if t + n ≠ p ∧ (swS j p t s n).f (t + n) j ≠ 0 then (swS j p t s n).add (t + n) p (-((swS j p t s n).f (t + n) j / (swS j p t s n).f p j)) else swS j p t s n
theorem swS_succ (j p t : Nat) (s : HS) (n : Nat) : swS j p t s (n + 1) = if t + n ≠ p ∧ (swS j p t s n).f (t + n) j ≠ 0 then (swS j p t s n).add (t + n) p (-((swS j p t s n).f (t + n) j / (swS j p t s n).f p j)) else swS j p t s n := rfl
theorem swS_nb {j p t : Nat} {s : HS} (h : s.NBS) : ∀ n, (swS j p t s n).NBS
  | 0 => h
  | n + 1 => by
    rw [swS_succ]
    split
    · exact (swS_nb h n).add _ _ _
    · exact swS_nb h n
theorem swS_back {j p t R C : Nat} {s : HS} (h : s.NBS) {n : Nat} (hk : (swS j p t s (n + 1)).OK R C) : (swS j p t s n).OK R C := by
  rw [swS_succ] at hk
  split at hk
  · exact HS.OK.back (swS_nb h n) hk
  · exact hk
theorem swS_back' {j p t R C : Nat} {s : HS} (h : s.NBS) (n : Nat) : ∀ m, (swS j p t s (n + m)).OK R C → (swS j p t s n).OK R C
  | 0, hk => hk
  | m + 1, hk => swS_back' h n m (swS_back h hk)
/-- Row p stays. -/
theorem swS_p {j p t : Nat} {s : HS} (y : Nat) : ∀ n, (swS j p t s n).f p y = s.f p y
  | 0 => rfl
  | n + 1 => by
    rw [swS_succ]
    split
    · rename_i h
      show opA _ _ _ _ p y = _
      rw [opA_other (Ne.symm h.1)]
      exact swS_p y n
    · exact swS_p y n
/-- Rows that have not come up stay. -/
theorem swS_late {j p t : Nat} {s : HS} {x : Nat} (y : Nat) : ∀ n, t + n ≤ x → (swS j p t s n).f x y = s.f x y
  | 0, _ => rfl
  | n + 1, hx => by
    rw [swS_succ]
    split
    · show opA _ _ _ _ x y = _
      rw [opA_other (by omega)]
      exact swS_late y n (by omega)
    · exact swS_late y n (by omega)
theorem swS_early {j p t : Nat} {s : HS} {x : Nat} (y : Nat) (hx : x < t) : ∀ n, (swS j p t s n).f x y = s.f x y
  | 0 => rfl
  | n + 1 => by
    rw [swS_succ]
    split
    · show opA _ _ _ _ x y = _
      rw [opA_other (by omega)]
      exact swS_early y hx n
    · exact swS_early y hx n
/-- What stands in column j behind a sweep. -/
theorem swS_col {j p t R C : Nat} {s : HS} (h : s.NBS) (hj : j < C) (hp : p < R) (hpj : s.f p j ≠ 0) : ∀ n, t + n ≤ R → (swS j p t s n).OK R C → ∀ x, t ≤ x → x < t + n → x ≠ p → (swS j p t s n).f x j = s.f x j % s.f p j
  | 0, _, _, x, h1, h2, _ => by omega
  | n + 1, hn, hk, x, h1, h2, h3 => by
    have hk0 := swS_back h hk
    have hsp := swS_p (j := j) (p := p) (t := t) (s := s) j n
    have hnp : Num (s.f p j) := by rw [← hsp]; exact hk0.f p j hp hj
    by_cases hx : x = t + n
    · subst hx
      have hl := swS_late (j := j) (p := p) (t := t) (s := s) (x := t + n) j n (Nat.le_refl _)
      have hnx : Num (s.f (t + n) j) := by rw [← hl]; exact hk0.f _ j (by omega) hj
      rw [swS_succ] at hk ⊢
      by_cases hz : (swS j p t s n).f (t + n) j = 0
      · rw [if_neg (by simp [hz]), hz]
        rw [← hl, hz, Int.zero_emod]
      · rw [if_pos ⟨h3, hz⟩] at hk ⊢
        have hN := hk.f (t + n) j (by omega) hj
        obtain ⟨-, -, he, -⟩ := opA_num hN
        show opA _ _ _ _ (t + n) j = _
        rw [he, hl, hsp]
        have := Int.mul_ediv_add_emod (s.f (t + n) j) (s.f p j)
        rw [Int.mul_neg]
        omega
    · have hxl : x < t + n := by omega
      have ih := swS_col h hj hp hpj n (by omega) hk0 x h1 hxl h3
      rw [swS_succ]
      split
      · show opA _ _ _ _ x j = _
        rw [opA_other hx]
        exact ih
      · exact ih
/-- What rows 0 to n - 1 take when row t is done. -/
def abS (j t : Nat) (s : HS) : Nat → HS
  | 0 => s
  | n + 1 => (abS j t s n).add n t (-((abS j t s n).f n j / (abS j t s n).f t j))
theorem abS_succ (j t : Nat) (s : HS) (n : Nat) : abS j t s (n + 1) = (abS j t s n).add n t (-((abS j t s n).f n j / (abS j t s n).f t j)) := rfl
theorem abS_nb {j t : Nat} {s : HS} (h : s.NBS) : ∀ n, (abS j t s n).NBS
  | 0 => h
  | n + 1 => (abS_nb h n).add _ _ _
theorem abS_back {j t R C : Nat} {s : HS} (h : s.NBS) {n : Nat} (hk : (abS j t s (n + 1)).OK R C) : (abS j t s n).OK R C := HS.OK.back (abS_nb h n) hk
theorem abS_back' {j t R C : Nat} {s : HS} (h : s.NBS) (n : Nat) : ∀ m, (abS j t s (n + m)).OK R C → (abS j t s n).OK R C
  | 0, hk => hk
  | m + 1, hk => abS_back' h n m (abS_back h hk)
theorem abS_late {j t : Nat} {s : HS} {x : Nat} (y : Nat) : ∀ n, n ≤ x → (abS j t s n).f x y = s.f x y
  | 0, _ => rfl
  | n + 1, hx => by
    rw [abS_succ]
    show opA _ _ _ _ x y = _
    rw [opA_other (by omega)]
    exact abS_late y n (by omega)
def noBad (x : Int) : Bool := !(x == -4611686018427387904)
def HS.ok (R C : Nat) (s : HS) : Bool := (tb R C s.f).all noBad && (tb R R s.g).all noBad
theorem noBad_num {x : Int} (h : NB x) : noBad x = true ↔ Num x := by
  unfold noBad
  rw [Bool.not_eq_true', beq_eq_false_iff_ne]
  exact ⟨fun h2 => h.num h2, fun h2 => h2.ne⟩
theorem tb_all {R C : Nat} {f : Fn2} (h : NBF f) : (tb R C f).all noBad = true ↔ OKF R C f := by
  rw [List.all_eq_true]
  constructor
  · intro ha i j hi hj
    refine (noBad_num (h i j)).1 (ha _ ?_)
    rw [← tb_at (f := f) hi hj]
    have hl := idx_nat hi hj
    have : i * C + j < (tb R C f).length := by rw [tb_len]; exact hl
    rw [List.getD_eq_getElem?_getD, List.getElem?_eq_getElem this]
    exact List.getElem_mem this
  · intro ho x hx
    exact tb_mem (P := fun x => noBad x = true) (fun i j hi hj => (noBad_num (h i j)).2 (ho i j hi hj)) x hx
theorem HS.ok_iff {R C : Nat} {s : HS} (h : s.NBS) : s.ok R C = true ↔ s.OK R C := by
  unfold HS.ok
  rw [Bool.and_eq_true, tb_all h.f, tb_all h.g]
  exact ⟨fun h => ⟨h.1, h.2⟩, fun h => ⟨h.f, h.g⟩⟩
/-- The measure of the inner loop. -/
def hmMs (R j t : Nat) (s : HS) (p : Nat) : Nat := if oth R s.f j t p then (s.f p j).natAbs else 0
theorem hmMs_lt {R C j t : Nat} {s : HS} {p : Nat} (h : s.NBS) (hj : j < C) (hp : p < R) (ht : t ≤ p) (hpj : s.f p j ≠ 0) (ho : oth R s.f j t p = true) (hk : (swS j p t s (R - t)).OK R C) :
    hmMs R j t (swS j p t s (R - t)) (lst R (swS j p t s (R - t)).f j t).toNat < hmMs R j t s p := by
  have hcol := swS_col h hj hp hpj (R - t) (by omega) hk
  have hpp := swS_p (j := j) (p := p) (t := t) (s := s) j (R - t)
  generalize (swS j p t s (R - t)) = s' at *
  unfold hmMs
  rw [if_pos ho]
  by_cases ho2 : oth R s'.f j t (lst R s'.f j t).toNat = true
  · rw [if_pos ho2]
    obtain ⟨i, h1, h2, h3, h4⟩ := oth_iff.1 ho2
    rcases lstK_cases s'.f j t (R - t) with ⟨e1, e2⟩ | ⟨q, e1, e2, e3, e4, e5⟩
    · have := e2 (i - t) (by omega)
      rw [show t + (i - t) = i by omega] at this
      exact absurd this h4
    · have e1' : lst R s'.f j t = (q : Int) := e1
      rw [e1', Int.toNat_natCast] at h3 ⊢
      have hrem : ∀ x, t ≤ x → x < R → x ≠ p → (s'.f x j).natAbs < (s.f p j).natAbs := fun x a b c => by
        rw [hcol x a (by omega) c]
        have h5 := Int.emod_nonneg (s.f x j) hpj
        have h6 := Int.emod_lt (s.f x j) hpj
        omega
      by_cases hqp : q = p
      · subst hqp
        have h7 := hrem i h1 h2 h3
        have h8 := e5 (i - t) (by omega)
        rw [show t + (i - t) = i by omega] at h8
        have := h8 h4
        omega
      · exact hrem q e2 (by omega) hqp
  · rw [if_neg ho2]
    omega
/-- Sweeps till row p alone has something in column j. -/
def hmIn (R C j t : Nat) (s : HS) (p : Nat) : Option (HS × Nat) :=
  if oth R s.f j t p then
    if (swS j p t s (R - t)).ok R C then
      if h : hmMs R j t (swS j p t s (R - t)) (lst R (swS j p t s (R - t)).f j t).toNat < hmMs R j t s p then hmIn R C j t (swS j p t s (R - t)) (lst R (swS j p t s (R - t)).f j t).toNat else none
    else none
  else some (s, p)
termination_by hmMs R j t s p
theorem hmIn_done {R C j t : Nat} {s : HS} {p : Nat} (h : oth R s.f j t p = false) : hmIn R C j t s p = some (s, p) := by
  rw [hmIn, if_neg (by rw [h]; exact Bool.false_ne_true)]
theorem hmIn_bad {R C j t : Nat} {s : HS} {p : Nat} (ho : oth R s.f j t p = true) (h : (swS j p t s (R - t)).ok R C = false) : hmIn R C j t s p = none := by
  rw [hmIn, if_pos ho, if_neg (by rw [h]; exact Bool.false_ne_true)]
theorem hmIn_next {R C j t : Nat} {s : HS} {p : Nat} (hn : s.NBS) (hj : j < C) (hp : p < R) (ht : t ≤ p) (hpj : s.f p j ≠ 0) (ho : oth R s.f j t p = true) (h : (swS j p t s (R - t)).ok R C = true) :
    hmIn R C j t s p = hmIn R C j t (swS j p t s (R - t)) (lst R (swS j p t s (R - t)).f j t).toNat := by
  conv => lhs; rw [hmIn]
  rw [if_pos ho, if_pos h, dif_pos (hmMs_lt hn hj hp ht hpj ho ((HS.ok_iff (swS_nb hn _)).1 h))]
/-- Row p to place t, its sign, the rows above. -/
def hmS1 (t p : Nat) (s : HS) : HS := if p = t then s else s.swap p t
def hmS2 (j t : Nat) (s : HS) : HS := if s.f t j < 0 then s.neg t else s
def hmFin (R C j t : Nat) (p : Nat) (s : HS) : Option HS := if (abS j t (hmS2 j t (hmS1 t p s)) t).ok R C then some (abS j t (hmS2 j t (hmS1 t p s)) t) else none
/-- Columns j and the m - 1 behind it; the number of rows that are done. -/
def hmOut (R C : Nat) : Nat → Nat → Nat → HS → Option (HS × Nat)
  | 0, _, t, s => some (s, t)
  | m + 1, j, t, s =>
    if t < R then
      if lst R s.f j t < 0 then hmOut R C m (j + 1) t s
      else (hmIn R C j t s (lst R s.f j t).toNat).bind fun x => (hmFin R C j t x.2 x.1).bind fun s' => hmOut R C m (j + 1) (t + 1) s'
    else some (s, t)
/-- What follows in a column. -/
def hmGo (R C m j t : Nat) (o : Option (HS × Nat)) : Option (HS × Nat) := o.bind fun x => (hmFin R C j t x.2 x.1).bind fun s' => hmOut R C m (j + 1) (t + 1) s'
theorem hmOut_zero (R C j t : Nat) (s : HS) : hmOut R C 0 j t s = some (s, t) := rfl
theorem hmOut_full {R C m j t : Nat} {s : HS} (h : ¬ t < R) : hmOut R C m j t s = some (s, t) := by
  cases m with
  | zero => rfl
  | succ m => show (if _ then _ else _) = _; rw [if_neg h]
theorem hmOut_skip {R C m j t : Nat} {s : HS} (h : t < R) (h2 : lst R s.f j t < 0) : hmOut R C (m + 1) j t s = hmOut R C m (j + 1) t s := by
  show (if _ then (if _ then _ else _) else _) = _
  rw [if_pos h, if_pos h2]
theorem hmOut_go {R C m j t : Nat} {s : HS} (h : t < R) (h2 : ¬ lst R s.f j t < 0) : hmOut R C (m + 1) j t s = hmGo R C m j t (hmIn R C j t s (lst R s.f j t).toNat) := by
  show (if _ then (if _ then _ else _) else _) = _
  rw [if_pos h, if_neg h2]
  rfl
def idF : Fn2 := fun i j => if i = j then 1 else 0
/-- The Hermite form, what makes it, and the number of rows that are not zeros. -/
def hmRun (R C : Nat) (f : Fn2) : Option (HS × Nat) := hmOut R C C 0 0 ⟨f, idF⟩
end Go.Proofs.Ytlggfmfelakadaa

/-
  DERIVED. What an echelon form asks, row by row: no program in sight.
-/
namespace Go.Proofs.Ytlggfmfelakadaa
set_option linter.unusedVariables false
def ezc (xs : List Int) (C i k : Nat) : Bool := decide (k = i) || decide (cel xs C k (pv xs C i) = 0)
def erow (xs : List Int) (R C i : Nat) : Bool :=
  if pv xs C i < C then decide (lastP xs C i < pv xs C i) && decide (0 ≤ cel xs C i (pv xs C i)) && decide (gcdL (rowL xs C i) = 1) && (List.range R).all (ezc xs C i) else true
def echB (r c : Int) (xs : List Int) : Bool := isMat r c xs && (List.range r.toNat).all (erow xs r.toNat c.toNat)
/-- The row is primitive exactly if the reference finds nothing wrong with it. -/
theorem prim_row {xs : List Int} {C i : Nat} (hl : (rowL xs C i).length = C) (hp : pv xs C i < C) : primL (rowL xs C i) = rowL xs C i ↔ (gcdL (rowL xs C i) = 1 ∧ 0 ≤ cel xs C i (pv xs C i)) := by
  have h1 := primL_eq_iff (rowL xs C i)
  have h2 : gcdL (rowL xs C i) ≠ 0 := fcN_lt_iff.1 (by rw [hl]; exact hp)
  rw [h1, ← rowL_getD hp]
  simp only [h2, false_or]
  exact Iff.rfl
theorem prim_row0 {xs : List Int} {C i : Nat} (hl : (rowL xs C i).length = C) (hp : ¬ pv xs C i < C) : primL (rowL xs C i) = rowL xs C i := by
  have h1 := primL_eq_iff (rowL xs C i)
  rw [h1]
  left
  apply Classical.byContradiction
  intro h
  exact hp (by have := fcN_lt_iff.2 h; rw [hl] at this; exact this)
theorem spl_all {xs : List Int} {n : Nat} (h : xs.length = n) : splL xs 0 (primL (winL xs 0 n)) = primL xs := by
  have e : winL xs 0 n = xs := by simp [winL, ← h]
  rw [e]
  simp [splL, primL_len]
theorem gcdF_le' (l : List Int) (M : Nat) (h : ∀ x ∈ l, x.natAbs ≤ M) : ∀ a : Nat, a ≤ M → l.foldl (fun (g : Nat) (x : Int) => Int.gcd g x) a ≤ M := by
  induction l with
  | nil => intro a ha; simpa using ha
  | cons y l ih =>
    intro a ha
    refine ih (fun x hx => h x (List.mem_cons_of_mem _ hx)) _ ?_
    show Int.gcd a y ≤ M
    by_cases hy : y = 0
    · subst hy; simpa using ha
    · have h1 : Int.gcd a y ∣ y.natAbs := Int.gcd_dvd_natAbs_right ..
      have h2 := Nat.le_of_dvd (by omega) h1
      have := h y (List.mem_cons_self ..)
      omega
end Go.Proofs.Ytlggfmfelakadaa

/-
  DERIVED. The Hermite form, what stays in a round: no program in sight.
-/
namespace Go.Proofs.Ytlggfmfelakadaa
set_option linter.unusedVariables false
theorem opM_nb {f : Fn2} (h : NBF f) (i : Nat) : NBF (opM f i) := by
  intro x y
  unfold opM
  split
  · split
    · exact .inl rfl
    · rename_i h2; exact ((h i y).num h2).neg.nb
  · exact h x y
theorem opM_ok {f : Fn2} {R C : Nat} (h : OKF R C f) (i : Nat) (hi : i < R) : OKF R C (opM f i) := by
  intro x y hx hy
  unfold opM
  split
  · rw [if_neg (h i y hi hy).ne]; exact (h i y hi hy).neg
  · exact h x y hx hy
theorem opM_eq {f : Fn2} {R C : Nat} (h : OKF R C f) (i : Nat) (hi : i < R) : tb R C (opN f i) = tb R C (opM f i) := tb_ext fun x y hx hy => by
  unfold opN opM
  split
  · rw [if_neg (h i y hi hy).ne]
  · rfl
theorem opM_at {f : Fn2} {i y : Nat} (h : Num (f i y)) : opM f i i y = -f i y := by unfold opM; rw [if_pos rfl, if_neg h.ne]
theorem swF_nb {f : Fn2} (h : NBF f) (p t : Nat) : NBF (swF f p t) := fun x y => h _ _
theorem swF_ok {f : Fn2} {R C p t : Nat} (h : OKF R C f) (hp : p < R) (ht : t < R) : OKF R C (swF f p t) := by
  intro x y hx hy
  unfold swF
  refine h _ _ ?_ hy
  split
  · exact ht
  · split
    · exact hp
    · exact hx
/-- All numbers, and no mark that is none. -/
structure GD (R C : Nat) (s : HS) : Prop where
  ok : s.OK R C
  nb : s.NBS
theorem GD.swap {R C p t : Nat} {s : HS} (h : GD R C s) (hp : p < R) (ht : t < R) : GD R C (s.swap p t) :=
  ⟨⟨swF_ok h.ok.f hp ht, swF_ok h.ok.g hp ht⟩, ⟨swF_nb h.nb.f p t, swF_nb h.nb.g p t⟩⟩
theorem GD.neg {R C i : Nat} {s : HS} (h : GD R C s) (hi : i < R) : GD R C (s.neg i) :=
  ⟨⟨opM_ok h.ok.f i hi, opM_ok h.ok.g i hi⟩, ⟨opM_nb h.nb.f i, opM_nb h.nb.g i⟩⟩
theorem GD.s1 {R C p t : Nat} {s : HS} (h : GD R C s) (hp : p < R) (ht : t < R) : GD R C (hmS1 t p s) := by
  unfold hmS1
  split
  · exact h
  · exact h.swap hp ht
theorem GD.s2 {R C j t : Nat} {s : HS} (h : GD R C s) (ht : t < R) : GD R C (hmS2 j t s) := by
  unfold hmS2
  split
  · exact h.neg ht
  · exact h
theorem hmS1_piv (t p j : Nat) (s : HS) : (hmS1 t p s).f t j = s.f p j := by
  unfold hmS1
  split
  · rename_i h; rw [h]
  · exact swF_t s.f p t j
theorem hmS2_piv {t j : Nat} {s : HS} (h : Num (s.f t j)) (h0 : s.f t j ≠ 0) : (hmS2 j t s).f t j ≠ 0 := by
  unfold hmS2
  split
  · show opM s.f t t j ≠ 0
    rw [opM_at h]; omega
  · exact h0
theorem lst_cases (R : Nat) (f : Fn2) (j t : Nat) (ht : t ≤ R) : (lst R f j t = -1 ∧ ∀ i, t ≤ i → i < R → f i j = 0) ∨ ∃ p, lst R f j t = (p : Nat) ∧ t ≤ p ∧ p < R ∧ f p j ≠ 0 := by
  rcases lstK_cases f j t (R - t) with ⟨h1, h2⟩ | ⟨p, h1, h2, h3, h4, _⟩
  · refine .inl ⟨h1, fun i hi hR => ?_⟩
    have := h2 (i - t) (by omega)
    rwa [show t + (i - t) = i by omega] at this
  · exact .inr ⟨p, h1, h2, by omega, h4⟩
/-- A step of a sweep. -/
theorem sw_add {j p t n : Nat} {s : HS} (h1 : t + n ≠ p) (h2 : s.f (t + n) j ≠ 0) : swS j p t s (n + 1) = (swS j p t s n).add (t + n) p (-(s.f (t + n) j / s.f p j)) := by
  rw [swS_succ, swS_late j n (Nat.le_refl _), swS_p, if_pos ⟨h1, h2⟩]
theorem sw_skip {j p t n : Nat} {s : HS} (h : t + n = p ∨ s.f (t + n) j = 0) : swS j p t s (n + 1) = swS j p t s n := by
  rw [swS_succ, swS_late j n (Nat.le_refl _), if_neg]
  rintro ⟨h1, h2⟩
  rcases h with h | h
  · exact h1 h
  · exact h2 h
theorem sw_no {R C j p t n : Nat} {s : HS} (hn : s.NBS) (hk : n ≤ R - t) (h : ¬ (swS j p t s n).OK R C) : (swS j p t s (R - t)).ok R C = false := by
  refine Bool.eq_false_iff.2 fun hc => h ?_
  have h2 := (HS.ok_iff (swS_nb hn _)).1 hc
  rw [show R - t = n + (R - t - n) by omega] at h2
  exact swS_back' hn n _ h2
theorem sw_yes {R C j p t : Nat} {s : HS} (hn : s.NBS) (h : (swS j p t s (R - t)).OK R C) : (swS j p t s (R - t)).ok R C = true := (HS.ok_iff (swS_nb hn _)).2 h
theorem ab_add {j t n : Nat} {s : HS} (h : n < t) : abS j t s (n + 1) = (abS j t s n).add n t (-(s.f n j / s.f t j)) := by
  rw [abS_succ, abS_late j n (Nat.le_refl _), abS_late j n (by omega)]
theorem ab_no {R C j t p n : Nat} {s : HS} (hg : GD R C (hmS2 j t (hmS1 t p s))) (hk : n ≤ t) (h : ¬ (abS j t (hmS2 j t (hmS1 t p s)) n).OK R C) : hmFin R C j t p s = none := by
  unfold hmFin
  rw [if_neg]
  intro hc
  refine h ?_
  have h2 := (HS.ok_iff (abS_nb hg.nb _)).1 hc
  have h3 : (abS j t (hmS2 j t (hmS1 t p s)) (n + (t - n))).OK R C := by rw [show n + (t - n) = t by omega]; exact h2
  exact abS_back' hg.nb n _ h3
theorem ab_yes {R C j t p : Nat} {s : HS} (hg : GD R C (hmS2 j t (hmS1 t p s))) (h : (abS j t (hmS2 j t (hmS1 t p s)) t).OK R C) : hmFin R C j t p s = some (abS j t (hmS2 j t (hmS1 t p s)) t) := by
  unfold hmFin
  rw [if_pos ((HS.ok_iff (abS_nb hg.nb _)).2 h)]
theorem hmGo_some (R C m j t p : Nat) (s : HS) : hmGo R C m j t (some (s, p)) = (hmFin R C j t p s).bind fun s' => hmOut R C m (j + 1) (t + 1) s' := rfl
theorem hmGo_none (R C m j t : Nat) : hmGo R C m j t none = none := rfl
theorem hmGo_bad {R C m j t p : Nat} {s : HS} (h : hmFin R C j t p s = none) : hmGo R C m j t (some (s, p)) = none := by rw [hmGo_some, h]; rfl
theorem hmGo_next {R C m j t p : Nat} {s s' : HS} (h : hmFin R C j t p s = some s') : hmGo R C m j t (some (s, p)) = hmOut R C m (j + 1) (t + 1) s' := by rw [hmGo_some, h]; rfl
theorem Num.zero : Num 0 := ⟨by omega, by omega⟩
theorem Num.one : Num 1 := ⟨by omega, by omega⟩
theorem idF_num (i j : Nat) : Num (idF i j) := by
  unfold idF
  split
  · exact Num.one
  · exact Num.zero
theorem getD_num {xs : List Int} (h : xs.all isNum = true) (k : Nat) : Num (xs.getD k 0) := by
  rw [List.getD_eq_getElem?_getD]
  rcases hc : xs[k]? with _ | v
  · exact Num.zero
  · exact Num.of (List.all_eq_true.1 h v (List.mem_of_getElem? hc))
theorem start_gd {xs : List Int} {R C : Nat} (h : xs.all isNum = true) : GD R C ⟨fun i j => cel xs C i j, idF⟩ :=
  ⟨⟨fun i j _ _ => getD_num h _, fun i j _ _ => idF_num i j⟩, ⟨fun i j => (getD_num h _).nb, fun i j => (idF_num i j).nb⟩⟩
end Go.Proofs.Ytlggfmfelakadaa

/-
  DERIVED. Sums and products of matrices as functions of row and column: no program in sight.
-/
namespace Go.Proofs.Ytlggfmfelakadaa
set_option linter.unusedVariables false
theorem sumTo_succ (f : Nat → Int) (n : Nat) : sumTo f (n + 1) = sumTo f n + f n := rfl
theorem sumTo_zero' (f : Nat → Int) : sumTo f 0 = 0 := rfl
theorem sumTo_congr {f g : Nat → Int} : ∀ n, (∀ k, k < n → f k = g k) → sumTo f n = sumTo g n
  | 0, _ => rfl
  | n + 1, h => by rw [sumTo_succ, sumTo_succ, sumTo_congr n (fun k hk => h k (by omega)), h n (by omega)]
theorem sumTo_add (f g : Nat → Int) : ∀ n, sumTo (fun k => f k + g k) n = sumTo f n + sumTo g n
  | 0 => rfl
  | n + 1 => by rw [sumTo_succ, sumTo_succ, sumTo_succ, sumTo_add f g n]; omega
theorem sumTo_mul (f : Nat → Int) (t : Int) : ∀ n, sumTo (fun k => f k * t) n = sumTo f n * t
  | 0 => by rw [sumTo_zero', sumTo_zero', Int.zero_mul]
  | n + 1 => by rw [sumTo_succ, sumTo_succ, sumTo_mul f t n, Int.add_mul]
theorem sumTo_mul' (f : Nat → Int) (t : Int) (n : Nat) : sumTo (fun k => t * f k) n = t * sumTo f n := by
  rw [Int.mul_comm, ← sumTo_mul]
  exact sumTo_congr n fun k _ => Int.mul_comm _ _
theorem sumTo_neg (f : Nat → Int) : ∀ n, sumTo (fun k => -f k) n = -sumTo f n
  | 0 => rfl
  | n + 1 => by rw [sumTo_succ, sumTo_succ, sumTo_neg f n]; omega
theorem sumTo_sub (f g : Nat → Int) (n : Nat) : sumTo (fun k => f k - g k) n = sumTo f n - sumTo g n := by
  have h := sumTo_add f (fun k => -g k) n
  rw [sumTo_neg] at h
  rw [Int.sub_eq_add_neg, ← h]
  exact sumTo_congr n fun k _ => Int.sub_eq_add_neg
theorem sumTo_null {f : Nat → Int} (n : Nat) (h : ∀ k, k < n → f k = 0) : sumTo f n = 0 := by
  induction n with
  | zero => rfl
  | succ n ih => rw [sumTo_succ, ih (fun k hk => h k (by omega)), h n (by omega)]; rfl
/-- One summand only. -/
theorem sumTo_one {f : Nat → Int} {i : Nat} : ∀ n, i < n → (∀ k, k < n → k ≠ i → f k = 0) → sumTo f n = f i
  | 0, hi, _ => absurd hi (Nat.not_lt_zero _)
  | n + 1, hi, h => by
    rw [sumTo_succ]
    by_cases e : i = n
    · subst e
      rw [sumTo_null i (fun k hk => h k (by omega) (by omega)), Int.zero_add]
    · rw [sumTo_one n (by omega) (fun k hk hne => h k (by omega) hne), h n (by omega) (fun e2 => e e2.symm), Int.add_zero]
theorem sumTo_swap (f : Nat → Nat → Int) (m : Nat) : ∀ n, sumTo (fun i => sumTo (fun j => f i j) m) n = sumTo (fun j => sumTo (fun i => f i j) n) m
  | 0 => by
    rw [sumTo_zero']
    exact (sumTo_null m fun k _ => rfl).symm
  | n + 1 => by
    rw [sumTo_succ, sumTo_swap f m n, ← sumTo_add]
    rfl
/-- The product over n places. -/
def mm (n : Nat) (f g : Fn2) : Fn2 := fun i j => sumTo (fun k => f i k * g k j) n
/-- A matrix times a column. -/
def mv (n : Nat) (f : Fn2) (z : Nat → Int) : Nat → Int := fun i => sumTo (fun k => f i k * z k) n
theorem mm_assoc (n m : Nat) (f g h : Fn2) (i j : Nat) : mm n (mm m f g) h i j = mm m f (mm n g h) i j := by
  unfold mm
  have e1 : ∀ k, sumTo (fun l => f i l * g l k) m * h k j = sumTo (fun l => f i l * g l k * h k j) m := fun k => (sumTo_mul _ _ _).symm
  have e2 : ∀ l, f i l * sumTo (fun k => g l k * h k j) n = sumTo (fun k => f i l * g l k * h k j) n := fun l => by
    rw [← sumTo_mul']
    exact sumTo_congr n fun k _ => by rw [Int.mul_assoc]
  rw [sumTo_congr n (fun k _ => e1 k), sumTo_congr m (fun l _ => e2 l), sumTo_swap]
theorem mv_mm (n m : Nat) (f g : Fn2) (z : Nat → Int) (i : Nat) : mv n (mm m f g) z i = mv m f (mv n g z) i := mm_assoc n m f g (fun k _ => z k) i 0
theorem mv_congr {n : Nat} {f g : Fn2} {y z : Nat → Int} {i : Nat} (h : ∀ k, k < n → f i k = g i k) (h2 : ∀ k, k < n → y k = z k) : mv n f y i = mv n g z i :=
  sumTo_congr n fun k hk => by rw [h k hk, h2 k hk]
theorem mv_sub (n : Nat) (f : Fn2) (y z : Nat → Int) (i : Nat) : mv n f (fun k => y k - z k) i = mv n f y i - mv n f z i := by
  unfold mv
  rw [← sumTo_sub]
  exact sumTo_congr n fun k _ => by rw [Int.mul_sub]
/-- Equal in R rows of C cells. -/
def EqM (R C : Nat) (f g : Fn2) : Prop := ∀ i j, i < R → j < C → f i j = g i j
/-- No column but that of zeros is taken to zeros. -/
def INJ (R : Nat) (g : Fn2) : Prop := ∀ z : Nat → Int, (∀ i, i < R → mv R g z i = 0) → ∀ k, k < R → z k = 0
theorem INJ.eq {R : Nat} {g : Fn2} (h : INJ R g) {y z : Nat → Int} (e : ∀ i, i < R → mv R g y i = mv R g z i) : ∀ k, k < R → y k = z k := fun k hk => by
  have := h (fun k => y k - z k) (fun i hi => by rw [mv_sub, e i hi, Int.sub_self]) k hk
  omega
theorem mv_id {R : Nat} (z : Nat → Int) {i : Nat} (hi : i < R) : mv R idF z i = z i := by
  unfold mv
  rw [sumTo_one R hi]
  · unfold idF; rw [if_pos rfl, Int.one_mul]
  · intro k hk hne
    unfold idF
    rw [if_neg (fun e => hne e.symm), Int.zero_mul]
theorem INJ.id (R : Nat) : INJ R idF := fun z h k hk => by rw [← mv_id z hk]; exact h k hk
-- operations on rows
theorem mv_add {R i j : Nat} {t : Int} {g g' : Fn2} (h1 : ∀ y, y < R → g' i y = g i y + g j y * t) (z : Nat → Int) : mv R g' z i = mv R g z i + mv R g z j * t := by
  unfold mv
  rw [← sumTo_mul, ← sumTo_add]
  exact sumTo_congr R fun k hk => by rw [h1 k hk]; grind
theorem INJ.add {R i j : Nat} {t : Int} {g g' : Fn2} (h : INJ R g) (hi : i < R) (hj : j < R) (hij : i ≠ j) (h1 : ∀ y, y < R → g' i y = g i y + g j y * t) (h2 : ∀ x y, x < R → y < R → x ≠ i → g' x y = g x y) : INJ R g' := fun z hz => by
  have e : ∀ x, x < R → x ≠ i → mv R g z x = 0 := fun x hx hne => by
    rw [← hz x hx]
    exact mv_congr (fun k hk => (h2 x k hx hk hne).symm) (fun _ _ => rfl)
  refine h z fun x hx => ?_
  by_cases hxi : x = i
  · subst hxi
    have := mv_add h1 z
    rw [hz x hx, e j hj (fun e => hij e.symm), Int.zero_mul, Int.add_zero] at this
    exact this.symm
  · exact e x hx hxi
theorem INJ.swap {R p t : Nat} {g : Fn2} (h : INJ R g) (hp : p < R) (ht : t < R) : INJ R (swF g p t) := fun z hz => by
  refine h z fun x hx => ?_
  by_cases h1 : x = p
  · subst h1
    rw [← hz t ht]
    exact sumTo_congr R fun k hk => by rw [swF_t]
  · by_cases h2 : x = t
    · subst h2
      rw [← hz p hp]
      refine sumTo_congr R fun k hk => ?_
      have e : swF g p x p k = g x k := by unfold swF; rw [if_pos rfl]
      rw [e]
    · rw [← hz x hx]
      refine mv_congr (fun k hk => ?_) (fun _ _ => rfl)
      unfold swF
      rw [if_neg h1, if_neg h2]
theorem INJ.neg {R i : Nat} {g g' : Fn2} (h : INJ R g) (h1 : ∀ y, y < R → g' i y = -g i y) (h2 : ∀ x y, x < R → y < R → x ≠ i → g' x y = g x y) : INJ R g' := fun z hz => by
  refine h z fun x hx => ?_
  by_cases hxi : x = i
  · subst hxi
    have e : mv R g' z x = -mv R g z x := by
      unfold mv
      rw [← sumTo_neg]
      exact sumTo_congr R fun k hk => by rw [h1 k hk, Int.neg_mul]
    rw [hz x hx] at e
    omega
  · rw [← hz x hx]
    exact mv_congr (fun k hk => (h2 x k hx hk hxi).symm) (fun _ _ => rfl)
end Go.Proofs.Ytlggfmfelakadaa

/-
  DERIVED. The reduced echelon form with primitive rows: no program in sight.
-/
namespace Go.Proofs.Ytlggfmfelakadaa
set_option linter.unusedVariables false
/-- Row i, as a list. -/
def rw_ (C : Nat) (f : Nat → Nat → Int) (i : Nat) : List Int := tab C (f i)
theorem rw_len (C : Nat) (f : Nat → Nat → Int) (i : Nat) : (rw_ C f i).length = C := tab_len _ _
theorem rw_at {C : Nat} {f : Nat → Nat → Int} {i c : Nat} (h : c < C) : (rw_ C f i).getD c 0 = f i c := tab_getD h
theorem win_tb {R C i : Nat} {f : Nat → Nat → Int} (hi : i < R) : winL (tb R C f) (i * C) C = rw_ C f i := by
  have hl : i * C + C ≤ (tb R C f).length := by
    rw [tb_len]; have h3 := Nat.mul_le_mul_right C (show i + 1 ≤ R by omega); rw [Nat.add_mul, Nat.one_mul] at h3; exact h3
  apply List.ext_getElem?
  intro c
  by_cases hc : c < C
  · have h1 : (winL (tb R C f) (i * C) C).getD c 0 = f i c := by rw [winL_getD hc, tb_at hi hc]
    have h2 := rw_at (f := f) (i := i) hc
    have l1 := winL_len hl
    have l2 := rw_len C f i
    rw [List.getElem?_eq_getElem (by omega), List.getElem?_eq_getElem (by omega)]
    simp [List.getD, show c < (winL (tb R C f) (i * C) C).length by omega] at h1
    simp [List.getD, show c < (rw_ C f i).length by omega] at h2
    rw [h1, h2]
  · rw [List.getElem?_eq_none (by rw [winL_len hl]; omega), List.getElem?_eq_none (by rw [rw_len]; omega)]
/-- Row i anew. -/
def setR (f : Nat → Nat → Int) (i : Nat) (ys : List Int) : Nat → Nat → Int := fun a c => if a = i then ys.getD c 0 else f a c
theorem spl_tb {R C i : Nat} {f : Nat → Nat → Int} {ys : List Int} (hi : i < R) (hy : ys.length = C) : splL (tb R C f) (i * C) ys = tb R C (setR f i ys) := by
  have hl : i * C + C ≤ R * C := by
    have h3 := Nat.mul_le_mul_right C (show i + 1 ≤ R by omega); rw [Nat.add_mul, Nat.one_mul] at h3; exact h3
  have hlen : (splL (tb R C f) (i * C) ys).length = R * C := by rw [splL_len (by rw [tb_len, hy]; exact hl), tb_len]
  rw [tb_of hlen]
  apply tb_ext
  intro a c ha hc
  rw [cel_nat]
  unfold setR
  by_cases hai : a = i
  · subst hai
    rw [if_pos rfl, splL_getD (by rw [tb_len, hy]; exact hl) (by omega)]
  · rw [if_neg hai]
    have hq := idx_nat ha hc
    rw [← tb_at (f := f) ha hc]
    have htl : ((tb R C f).take (i * C)).length = i * C := by rw [List.length_take, tb_len]; omega
    unfold splL
    simp only [List.getD]
    congr 1
    rcases Nat.lt_or_gt_of_ne hai with h | h
    · have h1 : a * C + c < i * C := by
        have h3 := Nat.mul_le_mul_right C (show a + 1 ≤ i by omega); rw [Nat.add_mul, Nat.one_mul] at h3; omega
      rw [List.append_assoc, List.getElem?_append_left (by rw [htl]; exact h1), List.getElem?_take_of_lt h1]
    · have h1 : i * C + C ≤ a * C + c := by
        have h3 := Nat.mul_le_mul_right C (show i + 1 ≤ a by omega); rw [Nat.add_mul, Nat.one_mul] at h3; omega
      rw [List.getElem?_append_right (by rw [List.length_append, htl, hy]; exact h1), List.getElem?_drop, List.length_append, htl, hy]
      congr 1
      omega
/-- The primitive row i. -/
def prF (C : Nat) (f : Nat → Nat → Int) (i : Nat) : Nat → Nat → Int := setR f i (primL (rw_ C f i))
def prK (C : Nat) (f : Nat → Nat → Int) (m : Nat) : Nat → Nat → Int := fun i c => if i < m then (primL (rw_ C f i)).getD c 0 else f i c
theorem prK_zero (C : Nat) (f : Nat → Nat → Int) : prK C f 0 = f := by funext i c; simp [prK]
theorem rw_ext {C : Nat} {f g : Nat → Nat → Int} {i k : Nat} (h : ∀ c, c < C → f i c = g k c) : rw_ C f i = rw_ C g k := by
  unfold rw_ tab
  apply List.map_congr_left
  intro c hc
  exact h c (List.mem_range.1 hc)
theorem prK_step (C : Nat) (f : Nat → Nat → Int) (m : Nat) : prF C (prK C f m) m = prK C f (m + 1) := by
  have e : rw_ C (prK C f m) m = rw_ C f m := rw_ext fun c hc => by simp [prK]
  funext i c
  unfold prF setR
  rw [e]
  unfold prK
  by_cases h : i = m
  · subst h; simp
  · rw [if_neg h]
    by_cases h2 : i < m
    · rw [if_pos h2, if_pos (by omega)]
    · rw [if_neg h2, if_neg (by omega)]
theorem rw_prK {C : Nat} {f : Nat → Nat → Int} {m i : Nat} (h : i < m) : rw_ C (prK C f m) i = primL (rw_ C f i) := by
  apply List.ext_getElem?
  intro c
  by_cases hc : c < C
  · have h1 := rw_at (f := prK C f m) (i := i) hc
    have h2 : prK C f m i c = (primL (rw_ C f i)).getD c 0 := by simp [prK, h]
    rw [h2] at h1
    have l1 := rw_len C (prK C f m) i
    have l2 := primL_len (rw_ C f i)
    rw [rw_len] at l2
    rw [List.getElem?_eq_getElem (by omega), List.getElem?_eq_getElem (by omega)]
    simp [List.getD, show c < (rw_ C (prK C f m) i).length by omega, show c < (primL (rw_ C f i)).length by omega] at h1
    rw [h1]
  · rw [List.getElem?_eq_none (by rw [rw_len]; omega), List.getElem?_eq_none (by rw [primL_len, rw_len]; omega)]
theorem rw_setR {C : Nat} {f : Nat → Nat → Int} {i : Nat} {ys : List Int} (hy : ys.length = C) : rw_ C (setR f i ys) i = ys := by
  apply List.ext_getElem?
  intro c
  by_cases hc : c < C
  · have h1 := rw_at (f := setR f i ys) (i := i) hc
    have h2 : setR f i ys i c = ys.getD c 0 := by simp [setR]
    rw [h2] at h1
    have l1 := rw_len C (setR f i ys) i
    rw [List.getElem?_eq_getElem (by omega), List.getElem?_eq_getElem (by omega)]
    simp [List.getD, show c < (rw_ C (setR f i ys) i).length by omega, show c < ys.length by omega] at h1
    rw [h1]
  · rw [List.getElem?_eq_none (by rw [rw_len]; omega), List.getElem?_eq_none (by omega)]
theorem rw_setR_ne {C : Nat} {f : Nat → Nat → Int} {i k : Nat} {ys : List Int} (h : k ≠ i) : rw_ C (setR f i ys) k = rw_ C f k := rw_ext fun c hc => by simp [setR, h]
theorem primL_idem (l : List Int) : primL (primL l) = primL l := by
  by_cases h0 : gcdL l = 0
  · have e : primL l = l := (primL_eq_iff l).2 (.inl h0)
    rw [e, e]
  · rw [primL_eq_iff]
    right
    have hlt := fcN_lt_iff.2 h0
    have hd0 : divL l ≠ 0 := by intro e; have := divL_abs l; rw [e] at this; simp at this; omega
    have hab := divL_abs l
    have hmem : ∀ x ∈ l, ∃ q, x = divL l * q ∧ x.tdiv (divL l) = q := fun x hx => by
      obtain ⟨q, hq⟩ := divL_dvd hx
      exact ⟨q, hq, by rw [hq]; exact Int.mul_tdiv_cancel_left q hd0⟩
    have hfc : fcN (primL l) = fcN l := by
      refine fcN_eq (by rw [primL_len]; omega) (fun j hj => ?_) (fun _ => ?_)
      · rw [primL_getD (by omega) h0, fcN_zero l j hj]; simp
      · rw [primL_getD hlt h0]
        obtain ⟨q, hq, hq2⟩ := hmem _ (mem_getD hlt)
        rw [hq2]
        intro e
        rw [e, Int.mul_zero] at hq
        exact fcN_ne l hlt hq
    obtain ⟨q0, hq0, hq02⟩ := hmem _ (mem_getD hlt)
    have hpos : 0 < q0 := by
      have hne := fcN_ne l hlt
      have hg : (0 : Int) < gcdL l := by omega
      by_cases hneg : l.getD (fcN l) 0 < 0
      · have e : divL l = -(gcdL l : Int) := by unfold divL; rw [if_pos hneg]
        rw [e] at hq0
        apply Classical.byContradiction
        intro h
        have h1 : 0 ≤ (gcdL l : Int) * -q0 := Int.mul_nonneg (by omega) (by omega)
        rw [Int.mul_neg] at h1
        rw [Int.neg_mul] at hq0
        omega
      · have e : divL l = (gcdL l : Int) := by unfold divL; rw [if_neg hneg]
        rw [e] at hq0
        apply Classical.byContradiction
        intro h
        have h1 : 0 ≤ (gcdL l : Int) * -q0 := Int.mul_nonneg (by omega) (by omega)
        rw [Int.mul_neg] at h1
        omega
    refine ⟨?_, ?_⟩
    · have hdv : gcdL (primL l) * gcdL l ∣ gcdL l := dvd_gcdL fun x hx => by
        obtain ⟨q, hq, hq2⟩ := hmem x hx
        have hxm : x.tdiv (divL l) ∈ primL l := by unfold primL; rw [if_neg h0]; exact List.mem_map.2 ⟨x, hx, rfl⟩
        have h1 := gcdL_dvd hxm
        rw [hq2] at h1
        rw [hq, Int.natCast_mul, Int.mul_comm]
        refine Int.mul_dvd_mul ?_ h1
        rw [← hab]
        exact Int.natAbs_dvd.2 (Int.dvd_refl _)
      have hle := Nat.le_of_dvd (by omega) hdv
      have hne : gcdL (primL l) ≠ 0 := by
        rw [← fcN_lt_iff, hfc, primL_len]; exact hlt
      have h2 : gcdL (primL l) * gcdL l ≤ 1 * gcdL l := by omega
      have h3 := Nat.le_of_mul_le_mul_right h2 (by omega)
      omega
    · rw [hfc, primL_getD hlt h0, hq02]; omega
theorem primL_bd {l : List Int} {M : Nat} (h : ∀ k, (l.getD k 0).natAbs ≤ M) (k : Nat) : ((primL l).getD k 0).natAbs ≤ M := by
  by_cases h0 : gcdL l = 0
  · rw [(primL_eq_iff l).2 (.inl h0)]; exact h k
  · by_cases hk : k < l.length
    · rw [primL_getD hk h0, Int.natAbs_tdiv]
      exact Nat.le_trans (Nat.div_le_self _ _) (h k)
    · simp [List.getD, List.getElem?_eq_none (show (primL l).length ≤ k by rw [primL_len]; omega)]
end Go.Proofs.Ytlggfmfelakadaa

/-
  DERIVED. Determinants by expansion along the first row: linear in rows and columns, zero where two rows or two columns are equal. No program in sight.
-/
namespace Go.Proofs.Ytlggfmfelakadaa
set_option linter.unusedVariables false
def sg (j : Nat) : Int := if j % 2 = 1 then -1 else 1
theorem sg_succ (j : Nat) : sg (j + 1) = -sg j := by
  unfold sg
  rcases Nat.mod_two_eq_zero_or_one j with h | h
  · rw [if_pos (by omega), if_neg (by omega)]
  · rw [if_neg (by omega), if_pos (by omega)]; rfl
/-- The column behind the one that is left out. -/
def sk (j b : Nat) : Nat := if b < j then b else b + 1
/-- Without the first row and column j. -/
def mnr (f : Fn2) (j : Nat) : Fn2 := fun a b => f (a + 1) (sk j b)
def Dt : Nat → Fn2 → Int
  | 0, _ => 1
  | n + 1, f => sumTo (fun j => sg j * f 0 j * Dt n (mnr f j)) (n + 1)
theorem Dt_succ (n : Nat) (f : Fn2) : Dt (n + 1) f = sumTo (fun j => sg j * f 0 j * Dt n (mnr f j)) (n + 1) := rfl
theorem sk_lt {j b n : Nat} (h : b < n) : sk j b < n + 1 := by unfold sk; split <;> omega
theorem sk_ne (j b : Nat) : sk j b ≠ j := by unfold sk; split <;> omega
theorem Dt_congr : ∀ (n : Nat) {f g : Fn2}, EqM n n f g → Dt n f = Dt n g
  | 0, _, _, _ => rfl
  | n + 1, f, g, h => by
    rw [Dt_succ, Dt_succ]
    refine sumTo_congr (n + 1) fun j hj => ?_
    have ih : Dt n (mnr f j) = Dt n (mnr g j) := Dt_congr n fun a b ha hb => h (a + 1) (sk j b) (by omega) (sk_lt hb)
    rw [h 0 j (by omega) hj, ih]
/-- Linear in row i. -/
theorem Dt_row : ∀ (n i : Nat) (t : Int) {f g h : Fn2}, i < n → (∀ y, y < n → f i y = g i y + h i y * t) → (∀ x y, x < n → y < n → x ≠ i → f x y = g x y ∧ f x y = h x y) → Dt n f = Dt n g + Dt n h * t
  | 0, i, _, _, _, _, hi, _, _ => absurd hi (Nat.not_lt_zero _)
  | n + 1, 0, t, f, g, h, _, h1, h2 => by
    rw [Dt_succ, Dt_succ, Dt_succ, ← sumTo_mul, ← sumTo_add]
    refine sumTo_congr (n + 1) fun j hj => ?_
    have e1 : Dt n (mnr g j) = Dt n (mnr f j) := Dt_congr n fun a b ha hb => (h2 (a + 1) (sk j b) (by omega) (sk_lt hb) (by omega)).1.symm
    have e2 : Dt n (mnr h j) = Dt n (mnr f j) := Dt_congr n fun a b ha hb => (h2 (a + 1) (sk j b) (by omega) (sk_lt hb) (by omega)).2.symm
    rw [e1, e2, h1 j hj]
    grind
  | n + 1, i + 1, t, f, g, h, hi, h1, h2 => by
    rw [Dt_succ, Dt_succ, Dt_succ, ← sumTo_mul, ← sumTo_add]
    refine sumTo_congr (n + 1) fun j hj => ?_
    have e1 := (h2 0 j (by omega) hj (by omega)).1
    have e2 := (h2 0 j (by omega) hj (by omega)).2
    have ih := Dt_row n i t (f := mnr f j) (g := mnr g j) (h := mnr h j) (by omega) (fun y hy => h1 (sk j y) (sk_lt hy)) (fun x y hx hy hne => h2 (x + 1) (sk j y) (by omega) (sk_lt hy) (by omega))
    rw [ih, ← e1, ← e2]
    grind
/-- Linear in column c. -/
theorem Dt_col : ∀ (n c : Nat) (t : Int) {f g h : Fn2}, c < n → (∀ x, x < n → f x c = g x c + h x c * t) → (∀ x y, x < n → y < n → y ≠ c → f x y = g x y ∧ f x y = h x y) → Dt n f = Dt n g + Dt n h * t
  | 0, c, _, _, _, _, hc, _, _ => absurd hc (Nat.not_lt_zero _)
  | n + 1, c, t, f, g, h, hc, h1, h2 => by
    rw [Dt_succ, Dt_succ, Dt_succ, ← sumTo_mul, ← sumTo_add]
    refine sumTo_congr (n + 1) fun j hj => ?_
    by_cases e : j = c
    · subst e
      have e1 : Dt n (mnr g j) = Dt n (mnr f j) := Dt_congr n fun a b ha hb => (h2 (a + 1) (sk j b) (by omega) (sk_lt hb) (sk_ne j b)).1.symm
      have e2 : Dt n (mnr h j) = Dt n (mnr f j) := Dt_congr n fun a b ha hb => (h2 (a + 1) (sk j b) (by omega) (sk_lt hb) (sk_ne j b)).2.symm
      rw [e1, e2, h1 0 (by omega)]
      grind
    · have e1 := (h2 0 j (by omega) hj e).1
      have e2 := (h2 0 j (by omega) hj e).2
      obtain ⟨c', hc', hk, hk2⟩ : ∃ c', c' < n ∧ sk j c' = c ∧ ∀ y, sk j y = c → y = c' := by
        by_cases hlt : c < j
        · exact ⟨c, by omega, by unfold sk; rw [if_pos hlt], fun y hy => by unfold sk at hy; split at hy <;> omega⟩
        · refine ⟨c - 1, by omega, by unfold sk; rw [if_neg (by omega)]; omega, fun y hy => by unfold sk at hy; split at hy <;> omega⟩
      have ih := Dt_col n c' t (f := mnr f j) (g := mnr g j) (h := mnr h j) hc' (fun x hx => by
        show f (x + 1) (sk j c') = g (x + 1) (sk j c') + h (x + 1) (sk j c') * t
        rw [hk]
        exact h1 (x + 1) (by omega)) (fun x y hx hy hne => h2 (x + 1) (sk j y) (by omega) (sk_lt hy) (fun e2 => hne (hk2 y e2)))
      rw [ih, ← e1, ← e2]
      grind
/-- Two summands only. -/
theorem sumTo_two {f : Nat → Int} {i : Nat} (n : Nat) (hi : i + 1 < n) (h : ∀ k, k < n → k ≠ i → k ≠ i + 1 → f k = 0) : sumTo f n = f i + f (i + 1) := by
  induction n with
  | zero => omega
  | succ n ih =>
    rw [sumTo_succ]
    by_cases e : i + 1 = n
    · subst e
      rw [sumTo_one (i := i) (i + 1) (by omega) (fun k hk hne => h k (by omega) hne (by omega))]
    · rw [ih (by omega) (fun k hk h1 h2 => h k (by omega) h1 h2), h n (by omega) (by omega) (by omega), Int.add_zero]
/-- Zero where two columns beside each other are equal. -/
theorem Dt_col_eq : ∀ (n c : Nat) {f : Fn2}, c + 1 < n → (∀ x, x < n → f x c = f x (c + 1)) → Dt n f = 0
  | 0, c, _, hc, _ => absurd hc (Nat.not_lt_zero _)
  | n + 1, c, f, hc, h => by
    rw [Dt_succ, sumTo_two (i := c) (n + 1) hc (fun j hj h1 h2 => ?_)]
    · have e : Dt n (mnr f c) = Dt n (mnr f (c + 1)) := Dt_congr n fun a b ha hb => by
        show f (a + 1) (sk c b) = f (a + 1) (sk (c + 1) b)
        by_cases hbc : b = c
        · subst hbc
          have e1 : sk b b = b + 1 := by unfold sk; rw [if_neg (Nat.lt_irrefl _)]
          have e2 : sk (b + 1) b = b := by unfold sk; rw [if_pos (by omega)]
          rw [e1, e2]
          exact (h (a + 1) (by omega)).symm
        · have e3 : sk c b = sk (c + 1) b := by unfold sk; split <;> split <;> omega
          rw [e3]
      rw [e, sg_succ, h 0 (by omega)]
      grind
    · have hz : Dt n (mnr f j) = 0 := by
        obtain ⟨c', hc', e1, e2⟩ : ∃ c', c' + 1 < n ∧ sk j c' = c ∧ sk j (c' + 1) = c + 1 := by
          by_cases hlt : c < j
          · exact ⟨c, by omega, by unfold sk; rw [if_pos hlt], by unfold sk; rw [if_pos (by omega)]⟩
          · exact ⟨c - 1, by omega, by unfold sk; rw [if_neg (by omega)]; omega, by unfold sk; rw [if_neg (by omega)]; omega⟩
        refine Dt_col_eq n c' hc' fun x hx => ?_
        show f (x + 1) (sk j c') = f (x + 1) (sk j (c' + 1))
        rw [e1, e2]
        exact h (x + 1) (by omega)
      rw [hz, Int.mul_zero]
/-- A sum over pairs that change sign when turned is zero. -/
theorem sumTo_anti {g : Nat → Nat → Int} (n : Nat) (h : ∀ a b, a < n → b < n → g a b = -g b a) : sumTo (fun a => sumTo (fun b => g a b) n) n = 0 := by
  have e : sumTo (fun a => sumTo (fun b => g a b) n) n = sumTo (fun a => -sumTo (fun b => g b a) n) n :=
    sumTo_congr n fun a ha => by
      rw [← sumTo_neg]
      exact sumTo_congr n fun b hb => h a b ha hb
  rw [sumTo_neg, sumTo_swap (fun a b => g b a) n n] at e
  omega
/-- A sum that leaves one place out. -/
theorem sumTo_skip {g : Nat → Int} {j : Nat} : ∀ n, j < n + 1 → sumTo (fun k => g (sk j k)) n = sumTo (fun b => if b = j then 0 else g b) (n + 1)
  | 0, hj => by
    have : j = 0 := by omega
    subst this
    rfl
  | n + 1, hj => by
    by_cases e : j = n + 1
    · subst e
      rw [sumTo_succ _ (n + 1), if_pos rfl, Int.add_zero]
      refine sumTo_congr (n + 1) fun k hk => ?_
      unfold sk
      rw [if_pos hk, if_neg (by omega)]
    · rw [sumTo_succ _ n, sumTo_skip n (by omega), sumTo_succ _ (n + 1), if_neg (by omega)]
      have : sk j n = n + 1 := by unfold sk; rw [if_neg (by omega)]
      rw [this]
/-- Without two rows and two columns, whichever goes first. -/
theorem mnr_two {f : Fn2} {a b : Nat} (h : a < b) : mnr (mnr f b) a = mnr (mnr f a) (b - 1) := by
  funext x y
  show f (x + 1 + 1) (sk b (sk a y)) = f (x + 1 + 1) (sk a (sk (b - 1) y))
  have : sk b (sk a y) = sk a (sk (b - 1) y) := by
    unfold sk
    repeat' split
    all_goals omega
  rw [this]
/-- Zero where two rows beside each other are equal. -/
theorem Dt_row_eq : ∀ (n i : Nat) {f : Fn2}, i + 1 < n → (∀ y, y < n → f i y = f (i + 1) y) → Dt n f = 0
  | 0, i, _, hi, _ => absurd hi (Nat.not_lt_zero _)
  | n + 1, i + 1, f, hi, h => by
    rw [Dt_succ]
    refine sumTo_null (n + 1) fun j hj => ?_
    rw [Dt_row_eq n i (f := mnr f j) (by omega) (fun y hy => h (sk j y) (sk_lt hy)), Int.mul_zero]
  | 1, 0, f, hi, h => by omega
  | n + 2, 0, f, hi, h => by
    rw [Dt_succ]
    -- the summand for the columns a of row 0 and b of row 1
    have key : ∀ a, a < n + 2 → sg a * f 0 a * Dt (n + 1) (mnr f a) = sumTo (fun b => if b = a then 0 else sg a * f 0 a * ((if b < a then sg b else sg (b - 1)) * f 0 b * Dt n (mnr (mnr f a) (if b < a then b else b - 1)))) (n + 2) := fun a ha => by
      rw [← sumTo_skip (g := fun b => sg a * f 0 a * ((if b < a then sg b else sg (b - 1)) * f 0 b * Dt n (mnr (mnr f a) (if b < a then b else b - 1)))) (n + 1) ha, Dt_succ, ← sumTo_mul']
      refine sumTo_congr (n + 1) fun k hk => ?_
      have e0 : mnr f a 0 k = f 0 (sk a k) := (h (sk a k) (sk_lt hk)).symm
      have e1 : (if sk a k < a then sk a k else sk a k - 1) = k := by
        unfold sk
        repeat' split
        all_goals omega
      have e2 : (if sk a k < a then sg (sk a k) else sg (sk a k - 1)) = sg k := by
        by_cases hka : k < a
        · have : sk a k = k := by unfold sk; rw [if_pos hka]
          rw [this, if_pos hka]
        · have : sk a k = k + 1 := by unfold sk; rw [if_neg hka]
          rw [this, if_neg (by omega), Nat.add_sub_cancel]
      rw [e0, e1, e2]
    rw [sumTo_congr (n + 2) key]
    refine sumTo_anti (n + 2) fun a b ha hb => ?_
    by_cases e : b = a
    · subst e; rw [if_pos rfl]; rfl
    · rw [if_neg e, if_neg (show ¬ a = b from fun e2 => e e2.symm)]
      by_cases hlt : b < a
      · rw [if_pos hlt, if_pos hlt, if_neg (show ¬ a < b by omega), if_neg (show ¬ a < b by omega), mnr_two hlt]
        have : sg a = -sg (a - 1) := by
          have := sg_succ (a - 1)
          rwa [Nat.sub_add_cancel (by omega)] at this
        rw [this]
        grind
      · have hlt2 : a < b := by omega
        rw [if_neg hlt, if_neg hlt, if_pos hlt2, if_pos hlt2, mnr_two hlt2]
        have : sg b = -sg (b - 1) := by
          have := sg_succ (b - 1)
          rwa [Nat.sub_add_cancel (by omega)] at this
        rw [this]
        grind
/-- Linear in each row, zero where two rows beside each other are equal. -/
structure Alt (n : Nat) (F : Fn2 → Int) : Prop where
  congr : ∀ (f g : Fn2), EqM n n f g → F f = F g
  lin : ∀ (i : Nat) (t : Int) (f g h : Fn2), i < n → (∀ y, y < n → f i y = g i y + h i y * t) → (∀ x y, x < n → y < n → x ≠ i → f x y = g x y ∧ f x y = h x y) → F f = F g + F h * t
  alt : ∀ (i : Nat) (f : Fn2), i + 1 < n → (∀ y, y < n → f i y = f (i + 1) y) → F f = 0
theorem Dt_alt (n : Nat) : Alt n (Dt n) :=
  ⟨fun f g h => Dt_congr n h, fun i t f g h hi h1 h2 => Dt_row n i t hi h1 h2, fun i f hi h => Dt_row_eq n i hi h⟩
theorem Dt_altC (n : Nat) : Alt n (fun f => Dt n (fun a b => f b a)) :=
  ⟨fun f g h => Dt_congr n fun a b ha hb => h b a hb ha, fun i t f g h hi h1 h2 => Dt_col n i t hi (fun x hx => h1 x hx) (fun x y hx hy hne => h2 y x hy hx hne), fun i f hi h => Dt_col_eq n i hi fun x hx => h x hx⟩
/-- Rows i and j anew. -/
def rw2 (f : Fn2) (i j : Nat) (a b : Nat → Int) : Fn2 := fun x y => if x = i then a y else if x = j then b y else f x y
section
variable {n : Nat} {F : Fn2 → Int}
/-- The exchange of two rows, if equal ones give zero there. -/
theorem Alt.turn (H : Alt n F) {i j : Nat} (hi : i < n) (hj : j < n) (hij : i ≠ j) (hz : ∀ f : Fn2, (∀ y, y < n → f i y = f j y) → F f = 0) (f : Fn2) (a b : Nat → Int) : F (rw2 f i j b a) = -F (rw2 f i j a b) := by
  have hji : j ≠ i := fun e => hij e.symm
  have z : ∀ c, F (rw2 f i j c c) = 0 := fun c => hz _ fun y _ => by unfold rw2; rw [if_pos rfl, if_neg hji, if_pos rfl]
  have l1 : ∀ c, F (rw2 f i j (fun y => a y + b y) c) = F (rw2 f i j a c) + F (rw2 f i j b c) := fun c => by
    have := H.lin i 1 (rw2 f i j (fun y => a y + b y) c) (rw2 f i j a c) (rw2 f i j b c) hi (fun y _ => by unfold rw2; rw [if_pos rfl, if_pos rfl, if_pos rfl, Int.mul_one]) (fun x y _ _ hne => by unfold rw2; rw [if_neg hne, if_neg hne, if_neg hne]; exact ⟨rfl, rfl⟩)
    rw [this, Int.mul_one]
  have l2 : ∀ c, F (rw2 f i j c (fun y => a y + b y)) = F (rw2 f i j c a) + F (rw2 f i j c b) := fun c => by
    have := H.lin j 1 (rw2 f i j c (fun y => a y + b y)) (rw2 f i j c a) (rw2 f i j c b) hj (fun y _ => by unfold rw2; rw [if_neg hji, if_pos rfl, if_neg hji, if_pos rfl, if_neg hji, if_pos rfl, Int.mul_one]) (fun x y _ _ hne => by unfold rw2; rw [if_neg hne, if_neg hne, if_neg hne]; exact ⟨rfl, rfl⟩)
    rw [this, Int.mul_one]
  have h0 := z (fun y => a y + b y)
  rw [l1, l2, l2, z, z] at h0
  omega
theorem rw2_self (f : Fn2) (i j : Nat) : rw2 f i j (f i) (f j) = f := by
  funext x y
  unfold rw2
  split
  · rename_i h; rw [h]
  · split
    · rename_i h; rw [h]
    · rfl
theorem rw2_swap (f : Fn2) {i j : Nat} : rw2 f i j (f j) (f i) = swF f i j := by
  funext x y
  unfold rw2 swF
  split
  · rfl
  · split
    · rfl
    · rfl
theorem Alt.adj (H : Alt n F) {i : Nat} (hi : i + 1 < n) (f : Fn2) : F (swF f i (i + 1)) = -F f := by
  have := H.turn (i := i) (j := i + 1) (by omega) hi (by omega) (fun f h => H.alt i f hi h) f (f i) (f (i + 1))
  rw [rw2_self, rw2_swap] at this
  exact this
/-- Zero where two rows are equal. -/
theorem Alt.same_lt (H : Alt n F) : ∀ (d i : Nat) (f : Fn2), i + d + 1 < n → (∀ y, y < n → f i y = f (i + d + 1) y) → F f = 0
  | 0, i, f, hi, h => H.alt i f hi h
  | d + 1, i, f, hi, h => by
    have h1 := H.adj (i := i + d + 1) (by omega) f
    have h2 : F (swF f (i + d + 1) (i + d + 1 + 1)) = 0 := H.same_lt d i _ (by omega) fun y hy => by
      have e1 : swF f (i + d + 1) (i + d + 1 + 1) i y = f i y := by unfold swF; rw [if_neg (by omega), if_neg (by omega)]
      have e2 : swF f (i + d + 1) (i + d + 1 + 1) (i + d + 1) y = f (i + d + 1 + 1) y := by unfold swF; rw [if_pos rfl]
      rw [e1, e2]
      exact h y hy
    rw [h2] at h1
    omega
theorem Alt.same (H : Alt n F) {i j : Nat} (hi : i < n) (hj : j < n) (hij : i ≠ j) (f : Fn2) (h : ∀ y, y < n → f i y = f j y) : F f = 0 := by
  rcases Nat.lt_or_ge i j with hlt | hge
  · exact H.same_lt (j - i - 1) i f (by omega) (by rw [show i + (j - i - 1) + 1 = j by omega]; exact h)
  · exact H.same_lt (i - j - 1) j f (by omega) (by rw [show j + (i - j - 1) + 1 = i by omega]; exact fun y hy => (h y hy).symm)
theorem Alt.swap (H : Alt n F) {i j : Nat} (hi : i < n) (hj : j < n) (hij : i ≠ j) (f : Fn2) : F (swF f i j) = -F f := by
  have := H.turn hi hj hij (fun f h => H.same hi hj hij f h) f (f i) (f j)
  rw [rw2_self, rw2_swap] at this
  exact this
/-- A multiple of a row added to another one. -/
theorem Alt.add (H : Alt n F) {i j : Nat} {t : Int} {f g : Fn2} (hi : i < n) (hj : j < n) (hij : i ≠ j) (h1 : ∀ y, y < n → g i y = f i y + f j y * t) (h2 : ∀ x y, x < n → y < n → x ≠ i → g x y = f x y) : F g = F f := by
  have h3 := H.lin i t g f (fun x y => if x = i then f j y else f x y) hi (fun y hy => by
    show g i y = f i y + (if i = i then f j y else f i y) * t
    rw [if_pos rfl]
    exact h1 y hy) (fun x y hx hy hne => ⟨h2 x y hx hy hne, by show g x y = if x = i then f j y else f x y; rw [if_neg hne]; exact h2 x y hx hy hne⟩)
  have h4 : F (fun x y => if x = i then f j y else f x y) = 0 := H.same hi hj hij _ fun y hy => by
    show (if i = i then f j y else f i y) = if j = i then f j y else f j y
    rw [if_pos rfl, if_neg (fun e => hij e.symm)]
  rw [h3, h4, Int.zero_mul, Int.add_zero]
theorem Alt.zero (H : Alt n F) {i : Nat} {f : Fn2} (hi : i < n) (h : ∀ y, y < n → f i y = 0) : F f = 0 := by
  have h3 := H.lin i 1 f f f hi (fun y hy => by rw [h y hy]; rfl) (fun x y hx hy hne => ⟨rfl, rfl⟩)
  omega
theorem Alt.scale (H : Alt n F) {i : Nat} {t : Int} {f g : Fn2} (hi : i < n) (h1 : ∀ y, y < n → g i y = f i y * t) (h2 : ∀ x y, x < n → y < n → x ≠ i → g x y = f x y) : F g = F f * t := by
  have h3 := H.lin i t g (fun x y => if x = i then 0 else f x y) f hi (fun y hy => by
    show g i y = (if i = i then 0 else f i y) + f i y * t
    rw [if_pos rfl, h1 y hy, Int.zero_add]) (fun x y hx hy hne => ⟨by show g x y = if x = i then 0 else f x y; rw [if_neg hne]; exact h2 x y hx hy hne, h2 x y hx hy hne⟩)
  have h4 : F (fun x y => if x = i then 0 else f x y) = 0 := H.zero hi fun y hy => by
    show (if i = i then (0 : Int) else f i y) = 0
    rw [if_pos rfl]
  rw [h3, h4, Int.zero_add]
end
/-- A matrix with zeros below the diagonal: the product of the diagonal. -/
theorem Dt_id : ∀ n, Dt n idF = 1
  | 0 => rfl
  | n + 1 => by
    rw [Dt_succ, sumTo_one (i := 0) (n + 1) (by omega) (fun k hk hne => ?_)]
    · have e : Dt n (mnr idF 0) = Dt n idF := Dt_congr n fun a b ha hb => by
        show idF (a + 1) (sk 0 b) = idF a b
        unfold idF sk
        rw [if_neg (Nat.not_lt_zero _)]
        by_cases h : a = b
        · rw [if_pos h, if_pos (by omega)]
        · rw [if_neg h, if_neg (by omega)]
      rw [e, Dt_id n]
      rfl
    · have : idF 0 k = 0 := by unfold idF; rw [if_neg (fun e => hne e.symm)]
      rw [this]
      grind
end Go.Proofs.Ytlggfmfelakadaa

/-
  DERIVED. A part of a row anew; a matrix of zeros. No program in sight.
-/
namespace Go.Proofs.Ytlggfmfelakadaa
set_option linter.unusedVariables false
theorem splL_get {xs ys : List Int} {off q : Nat} (h : off + ys.length ≤ xs.length) : (splL xs off ys).getD q 0 = if off ≤ q ∧ q < off + ys.length then ys.getD (q - off) 0 else xs.getD q 0 := by
  by_cases h1 : off ≤ q ∧ q < off + ys.length
  · rw [if_pos h1]
    have := splL_getD (xs := xs) (ys := ys) (off := off) (k := q - off) h (by omega)
    rw [show off + (q - off) = q by omega] at this
    exact this
  · rw [if_neg h1]
    have htl : (xs.take off).length = off := by rw [List.length_take]; omega
    unfold splL
    simp only [List.getD]
    congr 1
    by_cases h2 : q < off
    · rw [List.append_assoc, List.getElem?_append_left (by omega), List.getElem?_take_of_lt h2]
    · rw [List.getElem?_append_right (by rw [List.length_append, htl]; omega), List.getElem?_drop, List.length_append, htl]
      congr 1
      omega
/-- Row i anew from place o on. -/
def setW (f : Nat → Nat → Int) (i o : Nat) (ys : List Int) : Nat → Nat → Int := fun a c => if a = i ∧ o ≤ c ∧ c < o + ys.length then ys.getD (c - o) 0 else f a c
theorem spl_tbo {R C i o : Nat} {f : Nat → Nat → Int} {ys : List Int} (hi : i < R) (hy : o + ys.length ≤ C) : splL (tb R C f) (i * C + o) ys = tb R C (setW f i o ys) := by
  have hl : i * C + C ≤ R * C := by
    have h3 := Nat.mul_le_mul_right C (show i + 1 ≤ R by omega); rw [Nat.add_mul, Nat.one_mul] at h3; exact h3
  have hf : i * C + o + ys.length ≤ (tb R C f).length := by rw [tb_len]; omega
  have hlen : (splL (tb R C f) (i * C + o) ys).length = R * C := by rw [splL_len hf, tb_len]
  rw [tb_of hlen]
  apply tb_ext
  intro a c ha hc
  rw [cel_nat, splL_get hf]
  unfold setW
  rcases Nat.lt_trichotomy a i with h | h | h
  · have h3 := Nat.mul_le_mul_right C (show a + 1 ≤ i by omega)
    rw [Nat.add_mul, Nat.one_mul] at h3
    rw [if_neg (by omega), if_neg (by omega), tb_at ha hc]
  · subst h
    by_cases h4 : o ≤ c ∧ c < o + ys.length
    · rw [if_pos (by omega), if_pos ⟨rfl, h4⟩]
      congr 1
      omega
    · rw [if_neg (by omega), if_neg (by omega), tb_at ha hc]
  · have h3 := Nat.mul_le_mul_right C (show i + 1 ≤ a by omega)
    rw [Nat.add_mul, Nat.one_mul] at h3
    rw [if_neg (by omega), if_neg (by omega), tb_at ha hc]
theorem tb_zeros (R C : Nat) : tb R C (fun _ _ => 0) = List.replicate (R * C) 0 := by
  unfold tb tab
  apply List.ext_getElem?
  intro i
  by_cases h : i < R * C <;> simp [h]
end Go.Proofs.Ytlggfmfelakadaa

/-
  DERIVED. Sums of rows; two matrices whose rows span the same. No program in sight.
-/
namespace Go.Proofs.Ytlggfmfelakadaa
set_option linter.unusedVariables false
/-- v is a sum of rows. -/
def Sp (R C : Nat) (f : Fn2) (v : Nat → Int) : Prop := ∃ c : Nat → Int, ∀ y, y < C → v y = sumTo (fun k => c k * f k y) R
theorem Sp.row {R C : Nat} {f : Fn2} {i : Nat} (hi : i < R) : Sp R C f (f i) := ⟨idF i, fun y hy => by
  rw [sumTo_one (i := i) R hi (fun k hk hne => by unfold idF; rw [if_neg (fun e => hne e.symm), Int.zero_mul])]
  unfold idF; rw [if_pos rfl, Int.one_mul]⟩
theorem Sp.add {R C : Nat} {f : Fn2} {u v z : Nat → Int} {t : Int} (h : Sp R C f u) (h2 : Sp R C f v) (e : ∀ y, y < C → z y = u y + v y * t) : Sp R C f z := by
  obtain ⟨c, hc⟩ := h
  obtain ⟨d, hd⟩ := h2
  refine ⟨fun k => c k + d k * t, fun y hy => ?_⟩
  rw [e y hy, hc y hy, hd y hy, ← sumTo_mul, ← sumTo_add]
  exact sumTo_congr R fun k _ => by grind
theorem Sp.neg {R C : Nat} {f : Fn2} {u z : Nat → Int} (h : Sp R C f u) (e : ∀ y, y < C → z y = -u y) : Sp R C f z := by
  obtain ⟨c, hc⟩ := h
  refine ⟨fun k => -c k, fun y hy => ?_⟩
  rw [e y hy, hc y hy, ← sumTo_neg]
  exact sumTo_congr R fun k _ => by grind
theorem Sp.as {R C : Nat} {f : Fn2} {u z : Nat → Int} (h : Sp R C f u) (e : ∀ y, y < C → z y = u y) : Sp R C f z := by
  obtain ⟨c, hc⟩ := h
  exact ⟨c, fun y hy => by rw [e y hy, hc y hy]⟩
theorem Sp.trans {R R' C : Nat} {f g : Fn2} {v : Nat → Int} (h : Sp R C f v) (k : ∀ i, i < R → Sp R' C g (f i)) : Sp R' C g v := by
  obtain ⟨c, hc⟩ := h
  have hd : ∀ i, ∃ d : Nat → Int, i < R → ∀ y, y < C → f i y = sumTo (fun l => d l * g l y) R' := fun i => by
    by_cases hi : i < R
    · obtain ⟨d, hd⟩ := k i hi
      exact ⟨d, fun _ => hd⟩
    · exact ⟨fun _ => 0, fun h => absurd h hi⟩
  let d : Fn2 := fun i => Classical.choose (hd i)
  have hdd : ∀ i, i < R → ∀ y, y < C → f i y = sumTo (fun l => d i l * g l y) R' := fun i => Classical.choose_spec (hd i)
  refine ⟨fun l => sumTo (fun i => c i * d i l) R, fun y hy => ?_⟩
  rw [hc y hy]
  have e1 : sumTo (fun k => c k * f k y) R = sumTo (fun k => sumTo (fun l => c k * (d k l * g l y)) R') R := sumTo_congr R fun k hk => by
    rw [hdd k hk y hy, sumTo_mul']
  rw [e1, sumTo_swap]
  refine sumTo_congr R' fun l hl => ?_
  rw [← sumTo_mul]
  exact sumTo_congr R fun k hk => by grind
theorem Sp.mm {R n C : Nat} {a f : Fn2} {i : Nat} (hi : i < n) : Sp R C f (mm R a f i) := ⟨a i, fun y _ => rfl⟩
/-- Rows of both span the same. -/
def SPN (R C : Nat) (m f : Fn2) : Prop := (∀ i, i < R → Sp R C m (f i)) ∧ ∀ i, i < R → Sp R C f (m i)
theorem SPN.add {R C i j : Nat} {t : Int} {m f f' : Fn2} (h : SPN R C m f) (hi : i < R) (hj : j < R) (hij : i ≠ j) (h1 : ∀ y, y < C → f' i y = f i y + f j y * t) (h2 : ∀ x y, x < R → y < C → x ≠ i → f' x y = f x y) : SPN R C m f' := by
  have hr : ∀ x, x < R → Sp R C f' (f x) := fun x hx => by
    by_cases e : x = i
    · subst e
      exact Sp.add (t := -t) (Sp.row hi) (Sp.row (i := j) hj) fun y hy => by rw [h1 y hy, h2 j y hj hy (fun e => hij e.symm)]; grind
    · exact (Sp.row hx).as fun y hy => (h2 x y hx hy e).symm
  refine ⟨fun x hx => ?_, fun x hx => (h.2 x hx).trans hr⟩
  by_cases e : x = i
  · subst e
    exact Sp.add (h.1 x hx) (h.1 j hj) h1
  · exact (h.1 x hx).as fun y hy => h2 x y hx hy e
theorem SPN.neg {R C i : Nat} {m f f' : Fn2} (h : SPN R C m f) (hi : i < R) (h1 : ∀ y, y < C → f' i y = -f i y) (h2 : ∀ x y, x < R → y < C → x ≠ i → f' x y = f x y) : SPN R C m f' := by
  have hr : ∀ x, x < R → Sp R C f' (f x) := fun x hx => by
    by_cases e : x = i
    · subst e
      exact Sp.neg (Sp.row hx) fun y hy => by rw [h1 y hy]; omega
    · exact (Sp.row hx).as fun y hy => (h2 x y hx hy e).symm
  refine ⟨fun x hx => ?_, fun x hx => (h.2 x hx).trans hr⟩
  by_cases e : x = i
  · subst e
    exact Sp.neg (h.1 x hx) h1
  · exact (h.1 x hx).as fun y hy => h2 x y hx hy e
theorem SPN.swap {R C i j : Nat} {m f : Fn2} (h : SPN R C m f) (hi : i < R) (hj : j < R) : SPN R C m (swF f i j) := by
  have e1 : ∀ x, ∃ z, (x < R → z < R) ∧ swF f i j x = f z := fun x => ⟨if x = i then j else if x = j then i else x, fun hx => (by (split; exact hj; split; exact hi; exact hx)), rfl⟩
  have e2 : ∀ x, ∃ z, (x < R → z < R) ∧ f x = swF f i j z := fun x => by
    refine ⟨if x = i then j else if x = j then i else x, fun hx => (by (split; exact hj; split; exact hi; exact hx)), ?_⟩
    funext y
    unfold swF
    congr 1
    by_cases a : x = i
    · subst a
      rw [if_pos rfl]
      by_cases b : j = x
      · rw [if_pos b, b]
      · rw [if_neg b, if_pos rfl]
    · rw [if_neg a]
      by_cases b : x = j
      · subst b
        rw [if_pos rfl, if_pos rfl]
      · rw [if_neg b, if_neg a, if_neg b]
  refine ⟨fun x hx => ?_, fun x hx => (h.2 x hx).trans fun k hk => ?_⟩
  · obtain ⟨z, hz, e⟩ := e1 x
    rw [e]; exact h.1 z (hz hx)
  · obtain ⟨z, hz, e⟩ := e2 k
    rw [e]; exact Sp.row (hz hk)
theorem SPN.refl (R C : Nat) (m : Fn2) : SPN R C m m := ⟨fun i hi => Sp.row hi, fun i hi => Sp.row hi⟩
theorem SPN.symm {R C : Nat} {m f : Fn2} (h : SPN R C m f) : SPN R C f m := ⟨h.2, h.1⟩
theorem SPN.trans {R C : Nat} {m f g : Fn2} (h : SPN R C m f) (k : SPN R C f g) : SPN R C m g := ⟨fun i hi => (k.1 i hi).trans h.1, fun i hi => (h.2 i hi).trans k.2⟩
/-- A unimodular matrix times another one: the same rows are spanned. -/
theorem SPN.left {n C : Nat} {u m : Fn2} (h : SPN n n idF u) : SPN n C m (mm n u m) := by
  refine ⟨fun i hi => Sp.mm hi, fun i hi => ?_⟩
  obtain ⟨c, hc⟩ := h.2 i hi
  refine ⟨c, fun y hy => ?_⟩
  have e1 : m i y = sumTo (fun l => idF i l * m l y) n := by
    rw [sumTo_one (i := i) n hi (fun k hk hne => by unfold idF; rw [if_neg (fun e => hne e.symm), Int.zero_mul])]
    unfold idF; rw [if_pos rfl, Int.one_mul]
  rw [e1]
  have e2 : sumTo (fun l => idF i l * m l y) n = sumTo (fun l => sumTo (fun k => c k * (u k l * m l y)) n) n := sumTo_congr n fun l hl => by
    rw [hc l hl, ← sumTo_mul]
    exact sumTo_congr n fun k _ => by grind
  rw [e2, sumTo_swap]
  exact sumTo_congr n fun k hk => by rw [sumTo_mul']; rfl
end Go.Proofs.Ytlggfmfelakadaa

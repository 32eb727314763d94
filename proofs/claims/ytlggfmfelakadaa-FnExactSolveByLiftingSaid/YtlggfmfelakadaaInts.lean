/-
  DERIVED. The contracts of the laws' helpers on slices of ints: toIntS, eqIntS, szIntS, markIntS, heldIntS.
-/
import Derived.Test.YtlggfmfelakadaaMem
namespace Go.Proofs.Ytlggfmfelakadaa
open Go.RowKit
set_option linter.unusedVariables false
/-- The first k numbers, zeros behind them. -/
def fillTo (xs : List Int) (n k : Nat) : List Int := xs.take k ++ List.replicate (n - k) 0
theorem fillTo_len {xs : List Int} {n k : Nat} (hx : xs.length = n) (hk : k ≤ n) : (fillTo xs n k).length = n := by simp [fillTo]; omega
theorem fillTo_zero (xs : List Int) (n : Nat) : fillTo xs n 0 = List.replicate n 0 := by simp [fillTo]
theorem fillTo_all {xs : List Int} {n : Nat} (hx : xs.length = n) : fillTo xs n n = xs := by simp [fillTo, ← hx]
theorem fillTo_set {xs : List Int} {n k : Nat} (hx : xs.length = n) (hk : k < n) : (fillTo xs n k).set k (xs.getD k 0) = fillTo xs n (k + 1) := by
  apply List.ext_getElem?
  intro i
  unfold fillTo
  grind

/-- The call returned a slice of its own that holds ys. -/
def SV (ys : List Int) (w : World) (e : Ending) (w' : World) : Prop := ∃ g, e = .returned (.slice (some ⟨g, 0, none⟩) ys.length ys.length) ∧ OR w' w.heap.size (.slice (some ⟨g, 0, none⟩) ys.length ys.length) ys ∧ Below w.heap.size w w'

theorem laws_toIntS (A : Option Addr) (n cap : Nat) (xs : List Int) (w : World) {C : Nat} (h0' : RI w C A n xs) (hC : C ≤ w.heap.size) (hn : n ≤ 1048576) :
    Calls Try.prog 27 #[.slice A n cap] w (SV xs w) := by
  have h := h0'.more hC
  clear h0' hC
  obtain ⟨i0, hi, hz0, hz1, hz2⟩ := info_parts int_info
  go_enter Try.func27, Try.ntmps27
  go_wp2_with (at_make; refine wpList_make_full _ rfl _ _ 24 rfl w.heap.size 3 i0 (.int .i64 0) 1 Try.underlying24 hi hz0 hz1 _ _ _ _ n rfl rfl rfl rfl ?b2 ?b3 (Nat.le_refl _) ?_)
  case b2 => rw [hz2]; omega
  case b3 => unfold maxLen; omega
  intro w0 hown0 hgrow0
  have h0 := OR.of_made hown0
  clear hown0
  go_wp2
  go_loopw [4] (fun v wr => ∃ k : Nat, v = .int .i64 k ∧ k ≤ n ∧ OR wr w.heap.size (.slice (some ⟨w.heap.size, 0, none⟩) n n) (fillTo xs n k) ∧ Below w.heap.size w wr) (fun v _ => n - (intOf v).toNat)
  case atStart => exact ⟨0, rfl, Nat.zero_le _, by rw [fillTo_zero]; exact h0, (Below.refl _ _).grown hgrow0 (Nat.le_refl _) (by simp)⟩
  case round =>
    obtain ⟨k, rfl, hk, hown, hbw⟩ := hrel
    have hlen := h.len
    by_cases hlt : k < n
    · obtain ⟨b, o, rfl, hbb, hcells⟩ := h.2 (by omega)
      have hcx := (hbw.cell (p := ⟨b, o + k, none⟩) hbb).trans (hcells k hlt)
      have hfl := fillTo_len hlen hk
      have hc1 := hown.cell k (by omega)
      have hf1 := hown.frozen k
      have hset := hown.set_ k (xs.getD k 0)
      rw [fillTo_set hlen hlt] at hset
      clear hcells
      go_wp2
      go_roundw
      case rel => exact ⟨k + 1, by go_num, by omega, by simpa [hlen, hlt] using hset, hbw.setCell (by simp) _⟩
      case measure => simp only [intOf]; omega
    · go_wp2
      go_ret
      obtain rfl : k = n := by omega
      rw [fillTo_all hlen] at hown
      exact ⟨w.heap.size, by rw [hlen]; rfl, by rw [hlen]; exact hown, hbw⟩

theorem laws_szIntS (A : Option Addr) (n cap : Nat) (left : Int) (w : World) (hn : n ≤ 9223372036854775807) (h0 : -1 ≤ left) (h1 : left ≤ 1048576) :
    Calls Try.prog 72 #[.slice A n cap, .int .i64 left] w (EV (.int .i64 (if left < n then -1 else left - n)) w) := by
  by_cases h : left < n
  · rw [if_pos h]
    go_enter Try.func72, Try.ntmps72
    go_wp2
    go_ret
    exact EV.mk rfl
  · rw [if_neg h]
    go_enter Try.func72, Try.ntmps72
    go_wp2
    go_ret
    exact EV.mk rfl

def eqB (xs ys : List Int) : Bool := decide (xs = ys)
theorem getD_some {xs : List Int} {k : Nat} (h : k < xs.length) : xs[k]? = some (xs.getD k 0) := by simp [List.getD, h]
theorem take_next {xs ys : List Int} {k : Nat} (h : k < xs.length) (h' : k < ys.length) (ht : xs.take k = ys.take k) (he : xs.getD k 0 = ys.getD k 0) : xs.take (k + 1) = ys.take (k + 1) := by
  rw [List.take_add_one, List.take_add_one, ht, getD_some h, getD_some h', he]
set_option maxHeartbeats 400000 in
theorem laws_eqIntS (A B : Option Addr) (n m c d : Nat) (xs ys : List Int) (w : World) {C C' : Nat} (h : RI w C A n xs) (h' : RI w C' B m ys) (hn : n ≤ 9223372036854775807) (hm : m ≤ 9223372036854775807) :
    Calls Try.prog 31 #[.slice A n c, .slice B m d] w (DV (.bool (eqB xs ys)) w) := by
  have hlx := h.len
  have hly := h'.len
  by_cases hnm : n = m
  · subst hnm
    have H := Lib.hid h
    have H' := Lib.hid h'
    clear h h'
    have hb : ((n : Int) != (n : Int)) = false := by simp
    go_enter Try.func31, Try.ntmps31
    go_wp2
    go_loopw [5] (fun v wr => ∃ k nd : Nat, v = .int .i64 k ∧ k ≤ n ∧ xs.take k = ys.take k ∧ wr = w.drewN nd) (fun v _ => n - (intOf v).toNat)
    case atStart => exact ⟨0, 0, rfl, Nat.zero_le _, by simp, rfl⟩
    case round =>
      obtain ⟨k, nd, rfl, hk, heq0, rfl⟩ := hrel
      have heq := Lib.hid heq0
      clear heq0
      by_cases hlt : k < n
      · obtain ⟨b, o, rfl, hbb, hcells⟩ := H.out.2 (by omega)
        obtain ⟨b', o', rfl, hbb', hcells'⟩ := H'.out.2 (by omega)
        have c1 := hcells k hlt
        have c2 := hcells' k hlt
        clear hcells hcells'
        have hkx : k < xs.length := by omega
        have hky : k < ys.length := by omega
        by_cases he : xs.getD k 0 = ys.getD k 0
        · have hnext := Lib.hid (take_next hkx hky heq.out he)
          have heb : (xs.getD k 0 != ys.getD k 0) = false := by simp only [bne_eq_false_iff_eq]; exact he
          clear he
          generalize xs.getD k 0 = x at c1 heb
          generalize ys.getD k 0 = y at c2 heb
          go_wp2
          go_region
          all_goals go_wp2
          go_roundw
          case rel => exact ⟨k + 1, nd + 1, by go_num, by omega, hnext.out, rfl⟩
          case measure => simp only [intOf]; omega
        · have hne : eqB xs ys = false := by
            unfold eqB
            rw [decide_eq_false_iff_not]
            intro e
            exact he (by rw [e])
          have heb : (xs.getD k 0 != ys.getD k 0) = true := by simp only [bne_iff_ne, ne_eq]; exact he
          clear he
          generalize xs.getD k 0 = x at c1 heb
          generalize ys.getD k 0 = y at c2 heb
          go_wp2
          go_region
          all_goals go_wp2
          go_ret
          exact DV.mk (nd + 1) (vbool hne.symm)
      · have hall : eqB xs ys = true := by
          unfold eqB
          have := heq.out
          rw [List.take_of_length_le (by omega), List.take_of_length_le (by omega)] at this
          simpa using this
        go_wp2
        go_ret
        exact DV.mk nd (vbool hall.symm)
  · have hb : ((n : Int) != (m : Int)) = true := by simp; omega
    have hne : eqB xs ys = false := by
      unfold eqB
      rw [decide_eq_false_iff_not]
      intro e
      rw [e] at hlx
      omega
    go_enter Try.func31, Try.ntmps31
    go_wp2
    go_ret
    exact DV.mk0 (vbool hne.symm)

/-- n numbers from k on. -/
def iota (k : Int) (n : Nat) : List Int := (List.range n).map fun (i : Nat) => k + (i : Int)
theorem iota_len (k : Int) (n : Nat) : (iota k n).length = n := by simp [iota]
def marked (xs : List Int) (k : Int) (j : Nat) : List Int := iota k j ++ xs.drop j
theorem marked_len {xs : List Int} {k : Int} {j : Nat} (h : j ≤ xs.length) : (marked xs k j).length = xs.length := by simp [marked, iota_len]; omega
theorem marked_zero (xs : List Int) (k : Int) : marked xs k 0 = xs := by simp [marked, iota]
theorem marked_all (xs : List Int) (k : Int) : marked xs k xs.length = iota k xs.length := by simp [marked]
theorem marked_set {xs : List Int} {k : Int} {j : Nat} (h : j < xs.length) : (marked xs k j).set j (k + j) = marked xs k (j + 1) := by
  unfold marked
  rw [List.set_append_right _ _ (by rw [iota_len]; exact Nat.le_refl _), iota_len, Nat.sub_self]
  rw [List.drop_eq_getElem_cons h, List.set_cons_zero]
  simp [iota, List.range_succ]
theorem iota_getD {k : Int} {n j : Nat} (h : j < n) : (iota k n).getD j 0 = k + j := by simp [iota, List.getD, h]
/-- The call returned v, having written just the block of a slice of the call's own, which now holds ys. -/
def WV (r : Value) (sv : Value) (B : Nat) (ys : List Int) (w : World) (e : Ending) (w' : World) : Prop :=
  e = .returned r ∧ OR w' B sv ys ∧ w.grownBy w' sv.ownBlock

theorem laws_markIntS (A : Option Addr) (n cap : Nat) (xs : List Int) (k : Int) (w : World) (B : Nat) (h : OR w B (.slice A n cap) xs) (hn : n = xs.length) (hn2 : n ≤ 1048576) (hk0 : 0 ≤ k) (hk1 : k ≤ 1000000000000) :
    Calls Try.prog 33 #[.slice A n cap, .int .i64 k] w (WV (.int .i64 (k + n)) (.slice A n cap) B (iota k n) w) := by
  rcases h.form with ⟨h1, h2⟩ | ⟨g, cap', h1, hg1, hg2, _⟩
  · injection h1 with e1 e2 e3
    subst e1; subst e2; subst e3; subst h2
    clear hn hn2
    go_enter Try.func33, Try.ntmps33
    go_wp2
    go_rounds 1
    go_ret
    exact ⟨ret_int (show k = k + (0 : Nat) by omega), h, World.grownBy.refl w _⟩
  · injection h1 with e1 e2 e3
    subst e1; subst e3
    have hle1 : n ≤ xs.length := by omega
    have hle2 : xs.length ≤ n := by omega
    have Hn := Lib.hid hn
    clear hn
    go_enter Try.func33, Try.ntmps33
    go_wp2
    go_loopw [1, 5] (fun u v wr => ∃ j : Nat, u = .int .i64 (k + j) ∧ v = .int .i64 j ∧ j ≤ n ∧ OR wr B (.slice (some ⟨g, 0, none⟩) n cap) (marked xs k j) ∧ w.grownBy wr (some g)) (fun _ v _ => n - (intOf v).toNat)
    case atStart => exact ⟨0, by simp, rfl, Nat.zero_le _, by rw [marked_zero]; exact h, World.grownBy.refl w _⟩
    case round =>
      obtain ⟨j, rfl, rfl, hj, hown, hgr⟩ := hrel
      have hml := marked_len (xs := xs) (k := k) (j := j) (by omega)
      by_cases hlt : j < n
      · have hc1 := hown.cell j (by omega)
        have hf1 := hown.frozen j
        have hset := hown.set_ j (k + j)
        rw [marked_set (by omega)] at hset
        go_wp2
        go_roundw
        case rel => exact ⟨j + 1, by go_num, by go_num, by omega, hset, only_set hgr _ _⟩
        case measure => simp only [intOf]; omega
      · obtain rfl : j = n := by omega
        have hown' : OR wr B (.slice (some ⟨g, 0, none⟩) j cap) (iota k j) := by
          have := hown
          rw [Hn.out, marked_all] at this
          rw [Hn.out]; exact this
        go_wp2
        go_ret
        exact ⟨rfl, hown', hgr⟩

end Go.Proofs.Ytlggfmfelakadaa

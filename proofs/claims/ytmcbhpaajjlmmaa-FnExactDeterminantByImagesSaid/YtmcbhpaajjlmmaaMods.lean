/-
  DERIVED. The contracts of AreModuli, both.
-/
import Derived.Test.YtmcbhpaajjlmmaaPlain3
import Derived.Test.YtmcbhpaajjlmmaaFit
import Derived.Test.YtmcbhpaajjlmmaaInts
namespace Go.Proofs.Ytmcbhpaajjlmmaa
open Go.RowKit
set_option linter.unusedVariables false
theorem drop_cons {xs : List Int} {k : Nat} (h : k < xs.length) : xs.drop k = xs.getD k 0 :: xs.drop (k + 1) := by
  rw [List.drop_eq_getElem_cons h]
  simp [List.getD, h]

set_option maxHeartbeats 400000 in
theorem spec_AreModuli (A : Option Addr) (n cap : Nat) (xs : List Int) (w : World) {C : Nat} (h : RI w C A n xs) (hn : n ≤ 1048576) :
    Calls Try.prog 187 #[.slice A n cap] w (DV (.bool (modsOk xs)) w) := by
  have hlen := h.len
  have H := Lib.hid h
  clear h
  by_cases h8 : n ≤ 8
  · have hres : modsOk xs = spF 1 xs := by simp [modsOk, hlen, h8]
    rw [hres]
    clear hres
    have hlx : xs.length ≤ n ∧ n ≤ xs.length := by omega
    have HL := Lib.hid hlen
    clear hlen
    go_enter Try.func187, Try.ntmps187
    go_wp2
    go_loopw [3, 4] (fun u v wr => ∃ (k nd : Nat) (p : Int), u = .int .i64 p ∧ v = .int .i64 k ∧ k ≤ n ∧ 1 ≤ p ∧ p ≤ 400000000 ∧ spF p (xs.drop k) = spF 1 xs ∧ wr = w.drewN nd) (fun _ v _ => n - (intOf v).toNat)
    case atStart => exact ⟨0, 0, 1, rfl, rfl, Nat.zero_le _, by omega, by omega, rfl, rfl⟩
    case round =>
      obtain ⟨k, nd, p, rfl, rfl, hk, hp1, hp2, hs0, rfl⟩ := hrel
      by_cases hlt : k < n
      · obtain ⟨b, o, rfl, hbb, hcells⟩ := H.out.2 (by omega)
        have c1 := hcells k hlt
        clear hcells
        rw [drop_cons (by omega), spF] at hs0
        generalize xs.getD k 0 = x at c1 hs0
        by_cases hx : x < 2 ∨ 400000000 < x
        · rw [if_pos hx] at hs0
          have hs := Lib.hid hs0
          clear hs0
          go_wp2_with (first | (go_at_call 107; (first | refine (spec_l1In_yes _ _ _ _ (by omega)).mono ?_ | refine (spec_l1In_no _ _ _ _ (by omega)).mono ?_ | refine (spec_l1In _ _ _ _).mono ?_); rintro e w' ⟨rfl, rfl⟩))
          go_ret
          exact DV.mk nd (vbool hs.out)
        · rw [if_neg hx] at hs0
          have hx1 : 2 ≤ x := by omega
          have hx2 : x ≤ 400000000 := by omega
          clear hx
          by_cases hg : Int.gcd p x ≠ 1
          · rw [if_pos hg] at hs0
            have hs := Lib.hid hs0
            have hgb : (((Int.gcd p x : Nat) : Int) != 1) = true := by simp; omega
            clear hs0 hg
            go_wp2_with (first | (go_at_call 107; (first | refine (spec_l1In_yes _ _ _ _ (by omega)).mono ?_ | refine (spec_l1In_no _ _ _ _ (by omega)).mono ?_ | refine (spec_l1In _ _ _ _).mono ?_); rintro e w' ⟨rfl, rfl⟩) | (go_at_call 109; refine (spec_GcdOf _ _ _ (by omega) (by omega)).mono ?_; rintro e w' ⟨rfl, nd, rfl⟩))
            go_ret
            exact DV.mk _ (vbool hs.out)
          · rw [if_neg hg] at hs0
            have hgb : (((Int.gcd p x : Nat) : Int) != 1) = false := by
              have : Int.gcd p x = 1 := by omega
              rw [this]; rfl
            clear hg
            obtain ⟨q1, q2⟩ := mul_bd p x 400000000 400000000 (by omega) hp2 (by omega) hx2
            by_cases hm : isNum (p * x) = false
            · rw [if_pos hm] at hs0
              have hs := Lib.hid hs0
              have hv : mulF p x = bad := by rw [mulF_num (by omega) (by omega), fit_out ((isNum_not _).1 hm)]
              have hvb : (bad == -4611686018427387904) = true := rfl
              clear hs0 hm
              go_wp2_with (first | (first | (go_at_call 107; (first | refine (spec_l1In_yes _ _ _ _ (by omega)).mono ?_ | refine (spec_l1In_no _ _ _ _ (by omega)).mono ?_ | refine (spec_l1In _ _ _ _).mono ?_); rintro e w' ⟨rfl, rfl⟩) | (go_at_call 109; refine (spec_GcdOf _ _ _ (by omega) (by omega)).mono ?_; rintro e w' ⟨rfl, nd, rfl⟩)) | (go_at_call 93; refine (spec_l1Mul _ _ _ (.inr (by omega)) (.inr (by omega))).mono ?_; rw [hv]; rintro e w' ⟨rfl, rfl⟩))
              go_ret
              exact DV.mk _ (vbool hs.out)
            · rw [if_neg hm] at hs0
              have hs := Lib.hid hs0
              have hm' := (isNum_iff (p * x)).1 (by simpa using hm)
              have hv : mulF p x = p * x := by rw [mulF_num (by omega) (by omega), fit_in hm']
              have hvb : (p * x == -4611686018427387904) = false := by rw [beq_bad]; simpa using ne_bad (by omega)
              have hpos := Int.mul_le_mul hp1 (show (1 : Int) ≤ x by omega) (by omega) (by omega)
              clear hs0 hm
              go_wp2_with (first | (first | (go_at_call 107; (first | refine (spec_l1In_yes _ _ _ _ (by omega)).mono ?_ | refine (spec_l1In_no _ _ _ _ (by omega)).mono ?_ | refine (spec_l1In _ _ _ _).mono ?_); rintro e w' ⟨rfl, rfl⟩) | (go_at_call 109; refine (spec_GcdOf _ _ _ (by omega) (by omega)).mono ?_; rintro e w' ⟨rfl, nd, rfl⟩)) | (go_at_call 93; refine (spec_l1Mul _ _ _ (.inr (by omega)) (.inr (by omega))).mono ?_; rw [hv]; rintro e w' ⟨rfl, rfl⟩))
              go_roundw
              case rel => exact ⟨k + 1, _, p * x, rfl, by go_num, by omega, by omega, by omega, hs.out, rfl⟩
              case measure => simp only [intOf]; omega
      · have hend : spF p (xs.drop k) = true := by rw [List.drop_of_length_le (by omega)]; rfl
        have hs := Lib.hid (hend.symm.trans hs0)
        clear hs0 hend
        go_wp2
        go_ret
        exact DV.mk nd (vbool (show decide ((n : Int) ≤ 8) = _ by rw [← hs.out]; simp; omega))
  · have hres : modsOk xs = false := by simp [modsOk, hlen]; omega
    rw [hres]
    clear hlen
    go_enter Try.func187, Try.ntmps187
    go_wp2
    go_rounds 1
    go_ret
    exact DV.mk0 (vbool (show decide ((n : Int) ≤ 8) = false by simp; omega))

theorem any_take {xs : List Int} {p : Int → Bool} {j : Nat} (h : j < xs.length) : (xs.take (j + 1)).any p = ((xs.take j).any p || p (xs.getD j 0)) := by
  rw [List.take_add_one, List.any_append, getD_some h]; simp
theorem take_snoc {xs : List Int} {k : Nat} (h : k < xs.length) : xs.take k ++ [xs.getD k 0] = xs.take (k + 1) := by
  rw [List.take_add_one, getD_some h]; rfl
theorem take_take_any {xs : List Int} {p : Int → Bool} {k : Nat} (h : k ≤ xs.length) {j : Nat} (hj : j < k) (hp : p (xs.getD j 0) = true) : (xs.take k).any p = true := by
  rw [List.any_eq_true]
  refine ⟨xs.getD j 0, ?_, hp⟩
  rw [List.mem_take_iff_getElem]
  exact ⟨j, by omega, by simp [List.getD, show j < xs.length by omega]⟩
/-- The numbers seen are within the limit. -/
def Seen (xs : List Int) (k : Nat) : Prop := ∀ j, j < k → -400000000 ≤ xs.getD j 0 ∧ xs.getD j 0 ≤ 400000000
theorem Seen.zero (xs : List Int) : Seen xs 0 := fun j h => absurd h (by omega)
theorem Seen.succ {xs : List Int} {k : Nat} (h : Seen xs k) {x : Int} (e : xs.getD k 0 = x) (hx : -400000000 ≤ x ∧ x ≤ 400000000) : Seen xs (k + 1) := fun j hj => by
  rcases Nat.lt_or_ge j k with h1 | h1
  · exact h j h1
  · obtain rfl : j = k := by omega
    rw [e]; exact hx
set_option maxHeartbeats 1000000 in
theorem impl_AreModuli (A : Option Addr) (n cap : Nat) (xs : List Int) (w : World) {C : Nat} (h : RI w C A n xs) (hn : n ≤ 1048576) (hnc : n ≤ cap) :
    Calls Try.prog 189 #[.slice A n cap] w (DV (.bool (modsOk xs)) w) := by
  rw [← imF_mods]
  have hlen := h.len
  have H := Lib.hid h
  clear h
  have hlx : xs.length ≤ n ∧ n ≤ xs.length := by omega
  have HL := Lib.hid hlen
  clear hlen
  go_enter Try.func189, Try.ntmps189
  go_wp2
  go_loopw [3, 10] (fun u v wr => ∃ (k nd : Nat) (p : Int), u = .int .i64 p ∧ v = .int .i64 k ∧ k ≤ n ∧ 1 ≤ p ∧ p ≤ 400000000 ∧ imF (xs.take k) p (xs.drop k) = imF [] 1 xs ∧ Seen xs k ∧ wr = w.drewN nd) (fun _ v _ => n - (intOf v).toNat)
  case atStart => exact ⟨0, 0, 1, rfl, rfl, Nat.zero_le _, by omega, by omega, rfl, Seen.zero xs, rfl⟩
  case round =>
    obtain ⟨k, nd, p, rfl, rfl, hk, hp1, hp2, hs0, hseen, rfl⟩ := hrel
    by_cases hlt : k < n
    · obtain ⟨b, o, rfl, hbb, hcells⟩ := H.out.2 (by omega)
      have c1 := hcells k hlt
      have HC := Lib.hid hcells
      clear hcells
      rw [drop_cons (by omega), imF, take_snoc (by omega)] at hs0
      have hsx := Lib.hid (fun (x : Int) (e : xs.getD k 0 = x) => Seen.succ hseen e)
      generalize hxe : xs.getD k 0 = x at c1 hs0
      have hsn := Lib.hid (hsx.out x hxe)
      clear hsx hxe
      by_cases hx : x < 2 ∨ isNum x = false
      · rw [if_pos hx] at hs0
        have hs := Lib.hid hs0
        clear hs0
        by_cases hx2 : x < 2
        · go_wp2_with (first | (go_at_call 95; (first | refine (impl_IsNumber_yes _ _ (by omega)).mono ?_ | refine (impl_IsNumber_no _ _ (by omega)).mono ?_ | refine (impl_IsNumber _ _).mono ?_); rintro e w' ⟨rfl, rfl⟩))
          go_ret
          exact DV.mk nd (vbool hs.out)
        · have hx3 := (isNum_not x).1 (hx.resolve_left hx2)
          go_wp2_with (first | (go_at_call 95; (first | refine (impl_IsNumber_yes _ _ (by omega)).mono ?_ | refine (impl_IsNumber_no _ _ (by omega)).mono ?_ | refine (impl_IsNumber _ _).mono ?_); rintro e w' ⟨rfl, rfl⟩))
          go_ret
          exact DV.mk nd (vbool hs.out)
      · rw [if_neg hx] at hs0
        have hx1 : 2 ≤ x := by omega
        have hx2 := (isNum_iff x).1 (by simpa using fun h => hx (.inr h))
        clear hx
        obtain ⟨q1, q2⟩ := mul_bd p x 400000000 400000000 (by omega) hp2 (by omega) (by omega)
        by_cases hm : isNum (p * x) = false
        · rw [if_pos hm] at hs0
          have hs := Lib.hid hs0
          have hm' := (isNum_not _).1 hm
          clear hs0 hm
          go_wp2_with (first | (go_at_call 95; (first | refine (impl_IsNumber_yes _ _ (by omega)).mono ?_ | refine (impl_IsNumber_no _ _ (by omega)).mono ?_ | refine (impl_IsNumber _ _).mono ?_); rintro e w' ⟨rfl, rfl⟩))
          go_ret
          exact DV.mk nd (vbool hs.out)
        · rw [if_neg hm] at hs0
          have hm' := (isNum_iff (p * x)).1 (by simpa using hm)
          have hpos := Int.mul_le_mul hp1 (show (1 : Int) ≤ x by omega) (by omega) (by omega)
          clear hm
          have hs := Lib.hid hs0
          clear hs0
          go_wp2_with (first | (go_at_call 95; (first | refine (impl_IsNumber_yes _ _ (by omega)).mono ?_ | refine (impl_IsNumber_no _ _ (by omega)).mono ?_ | refine (impl_IsNumber _ _).mono ?_); rintro e w' ⟨rfl, rfl⟩))
          go_loopw [32] (fun v wr => ∃ (j nd' : Nat), v = .int .i64 j ∧ j ≤ k ∧ (xs.take j).any (fun y => decide (1 < Int.gcd x y)) = false ∧ wr = w.drewN nd') (fun v _ => k - (intOf v).toNat)
          case atStart => exact ⟨0, nd, rfl, Nat.zero_le _, by simp, rfl⟩
          case round =>
            obtain ⟨j, nd', rfl, hj, hany0, rfl⟩ := hrel
            have hany := Lib.hid hany0
            clear hany0
            by_cases hjk : j < k
            · have c2 := HC.out j (by omega)
              have hat := any_take (xs := xs) (p := fun y => decide (1 < Int.gcd x y)) (show j < xs.length by omega)
              have hta := take_take_any (xs := xs) (p := fun y => decide (1 < Int.gcd x y)) (show k ≤ xs.length by omega) hjk
              rw [hany.out, Bool.false_or] at hat
              have hyb : -400000000 ≤ xs.getD j 0 ∧ xs.getD j 0 ≤ 400000000 := hseen j hjk
              generalize xs.getD j 0 = y at c2 hat hta hyb
              by_cases hg : 1 < Int.gcd x y
              · have hgi : (1 : Int) < ((Int.gcd x y : Nat) : Int) := by omega
                have hfin := Lib.hid (show false = imF [] 1 xs by rw [← hs.out, if_pos (hta (by simpa using hg))])
                clear hat hta
                go_wp2_with (first | (go_at_call 166; refine (impl_gcd _ _ _ (by omega) (by omega) (by omega) (by omega)).mono ?_; rintro e w' ⟨rfl, nd, rfl⟩))
                go_ret
                exact DV.mk _ (vbool hfin.out)
              · have hgi : ¬ (1 : Int) < ((Int.gcd x y : Nat) : Int) := by omega
                have hn2 := Lib.hid (show (xs.take (j + 1)).any (fun y => decide (1 < Int.gcd x y)) = false by rw [hat]; simpa using hg)
                clear hat hta
                go_wp2_with (first | (go_at_call 166; refine (impl_gcd _ _ _ (by omega) (by omega) (by omega) (by omega)).mono ?_; rintro e w' ⟨rfl, nd, rfl⟩))
                go_roundw
                case rel => exact ⟨j + 1, _, by go_num, by omega, hn2.out, rfl⟩
                case measure => simp only [intOf]; omega
            · obtain rfl : j = k := by omega
              have hfin := Lib.hid (show imF (xs.take (j + 1)) (p * x) (xs.drop (j + 1)) = imF [] 1 xs by rw [← hs.out, if_neg (by rw [hany.out]; simp)])
              go_wp2
              go_roundw
              case rel => exact ⟨j + 1, _, p * x, rfl, by go_num, by omega, by omega, by omega, hfin.out, hsn.out (by omega), rfl⟩
              case measure => simp only [intOf]; omega
    · have hend : imF (xs.take k) p (xs.drop k) = decide ((n : Int) ≤ 8) := by
        rw [List.drop_of_length_le (by omega), List.take_of_length_le (by omega), imF, HL.out]
        rw [Bool.eq_iff_iff]; simp; omega
      have hs := Lib.hid (hend.symm.trans hs0)
      clear hs0 hend
      go_wp2
      go_ret
      exact DV.mk nd (vbool hs.out)
end Go.Proofs.Ytmcbhpaajjlmmaa

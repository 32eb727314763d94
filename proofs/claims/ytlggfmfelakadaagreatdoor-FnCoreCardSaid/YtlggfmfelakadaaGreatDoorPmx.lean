/-
  DERIVED. ParseMatrix of what FormatMatrix writes.
-/
import Derived.Test.YtlggfmfelakadaaGreatDoorFmx
import Derived.Test.YtlggfmfelakadaaGreatDoorc2
namespace Go.Proofs.YtlggfmfelakadaaGreatDoor
open Go.RowKit
set_option linter.unusedVariables false
set_option linter.unusedSimpArgs false
theorem i32_beq (x y : Nat) : ((x : Int) == (y : Int)) = (x == y) := by
  rw [Bool.eq_iff_iff, beq_iff_eq, beq_iff_eq]; omega
theorem sep_gives (x : Nat) (W : World) : FnGives Tryz.prog 27 #[] #[encR x] (.bool (isSep x)) W := by
  unfold FnGives
  show Calls Tryz.prog 27 #[.int .i32 (x : Int)] W _
  unfold isSep
  rcases hx : (x == 32) with _ | _
  · have h1 : ((x : Int) == 32) = false := by rw [show ((32 : Int)) = ((32 : Nat) : Int) from rfl, i32_beq]; exact hx
    have h2 : ((x : Int) == 59) = (x == 59) := i32_beq x 59
    go_enter Tryz.func27, Tryz.ntmps27
    go_wp2
    go_ret
    refine ⟨?_, 0, rfl⟩
    simp [h2]
  · have h1 : ((x : Int) == 32) = true := by rw [show ((32 : Int)) = ((32 : Nat) : Int) from rfl, i32_beq]; exact hx
    go_enter Tryz.func27, Tryz.ntmps27
    go_wp2
    go_ret
    exact ⟨rfl, 0, rfl⟩
theorem c_Fields (s : Bs) (w : World) (hs : s.length ≤ 1000000) : Calls Tryz.prog 26 #[.string (bs s), .func (.func 27) #[] #[]] w fun e w' => ∃ A, e = .returned (.slice (some ⟨A, 0, none⟩) (Lib.goFieldsP isSep (bs s)).length (Lib.goFieldsP isSep (bs s)).length) ∧ OT w' w.heap.size (.slice (some ⟨A, 0, none⟩) (Lib.goFieldsP isSep (bs s)).length (Lib.goFieldsP isSep (bs s)).length) ((Lib.goFieldsP isSep (bs s)).map fun x => x.data.toList) ∧ Below w.heap.size w w' := by
  refine (Tryz.strings_FieldsFunc_runes 27 #[] (enters_of Tryz.func27 (by kernel_rfl) rfl) isSep (bs s) w (by rw [bs_size]; omega) (fun W x _ _ => sep_gives x W)).mono ?_
  rintro e w' ⟨A, rfl, _, ho, hb⟩
  refine ⟨A, rfl, ?_, hb⟩
  unfold OT
  rw [List.length_map, List.map_map]
  exact ho
set_option maxRecDepth 100000 in
set_option maxHeartbeats 4000000 in
theorem impl_ParseMatrix_nil (w : World) (hv : LV w) : Calls Tryz.prog 8 #[.string (bs [])] w (MBR ⟨0, 0, []⟩ false w) := by
  have hC1 : ∀ w, LV w → Calls Tryz.prog 23 #[.string (bs []), .string ⟨#[91]⟩] w (GV (.tuple #[.string (bs []), .string (bs []), .bool false]) w) := fun w hv => c_Cut [] [91] w hv (by simp)
  have hC2 : ∀ w, LV w → Calls Tryz.prog 23 #[.string (bs []), .string ⟨#[120]⟩] w (GV (.tuple #[.string (bs []), .string (bs []), .bool false]) w) := fun w hv => c_Cut [] [120] w hv (by simp)
  go_enter Tryz.func8, Tryz.ntmps8
  go_wp2_with (first | (go_at_call 24; refine (impl_ParseInt_nil _ hv3).mono ?_; rintro e w4 ⟨rfl, hb4⟩; have hbm4 : BM w4 w.heap.size 0 0 none 0 0 := (Kb hbm3); have hbw4 : Below w.heap.size w w4 := Kw; have hs4 := hb4.size; clear hb4 hbw3 hbm3 hv3; obtain ⟨ma, mb, mc, mf, ml⟩ := hbm4.mx) | (go_at_call 24; refine (impl_ParseInt_nil _ hv2).mono ?_; rintro e w3 ⟨rfl, hb3⟩; have hv3 := LV.below hv2 hb3 hv2.lo; have hbm3 : BM w3 w.heap.size 0 0 none 0 0 := (Kb hbm2); have hbw3 : Below w.heap.size w w3 := Kw; have hs3 := hb3.size; clear hb3 hbw2 hbm2 hv2) | (go_at_call 23; refine (hC2 _ hv1).mono ?_; rintro e w2 ⟨rfl, hb2⟩; have hv2 := LV.below hv1 hb2 hv1.lo; have hbm2 : BM w2 w.heap.size 0 0 none 0 0 := (Kb hbm1); have hbw2 : Below w.heap.size w w2 := Kw; have hs2 := hb2.size; clear hb2 hbw1 hbm1 hv1) | (go_at_call 23; refine (hC1 _ (LV.below hv (C := w.heap.size) Kw hv.lo)).mono ?_; rintro e w1 ⟨rfl, hb1⟩; have hbm1 : BM w1 w.heap.size 0 0 none 0 0 := Ka; have hbw1 : Below w.heap.size w w1 := Kw; have hv1 := LV.below hv (C := w.heap.size) hbw1 hv.lo; have hs1 := hb1.size; (try simp at hs1); clear hb1))
  refine ret_MB (b := w.heap.size) rfl rfl (BX.put ⟨_, _, _, hbm4⟩) rfl ?_
  clear ma mb mc mf ml
  exact MBR.mk rfl (OR.nil_ _ _) Kw
theorem ext_mat (b : Bs) : (bs (b ++ [93])).extract 0 b.length = bs b := by
  have h := extract_toList (bs (b ++ [93])) 0 b.length
  rw [bs_list] at h
  simp at h
  have h2 : ((bs (b ++ [93])).extract 0 b.length) = ⟨((bs (b ++ [93])).extract 0 b.length).data.toList.toArray⟩ := rfl
  rw [h2, ByteArray.data_extract, Array.toList_extract]
  simp
theorem OR.shapeP {w : World} {B : Nat} {v : Value} {xs : List Int} (h : OR w B v xs) : ∃ A n c, v = .slice A n c := by
  rcases h.form with ⟨h1, h2⟩ | ⟨g, cap, h1, _⟩
  · exact ⟨_, _, _, h1⟩
  · exact ⟨_, _, _, h1⟩
theorem suf_mat (b : Bs) : Lib.hasSuffix (b ++ [93]) [93] = true := by
  unfold Lib.hasSuffix
  rw [List.isSuffixOf_iff_suffix]
  exact ⟨b, rfl⟩
set_option maxRecDepth 100000 in
set_option maxHeartbeats 8000000 in
theorem impl_ParseMatrix (R C : Nat) (xs : List Int) (w : World) (hM : isMat R C xs = true) (hv : LV w) : Calls Tryz.prog 8 #[.string (bs (matT R C xs))] w (MBR ⟨R, C, xs⟩ true w) := by
  have hR : R ≤ 24 := by have := (isMat_iff.1 hM).r1; omega
  have hC : C ≤ 24 := by have := (isMat_iff.1 hM).c1; omega
  have hlen : xs.length = R * C := by have := (isMat_iff.1 hM).len; exact_mod_cast this
  have hx := isMat_cells hM
  have hn6 : xs.length ≤ 576 := by rw [hlen]; exact Nat.le_trans (Nat.mul_le_mul hR hC) (by omega)
  have hbl := body_len hlen hx
  have hml := mat_len hlen (by omega) (by omega) hx
  have hhl : (headT R C).length ≤ 21 := by
    have h2 := itoa_len (n := (R : Int)) (by omega)
    have h3 := itoa_len (n := (C : Int)) (by omega)
    unfold headT
    rw [List.length_append, List.length_cons]; omega
  have hC1 : ∀ w, LV w → Calls Tryz.prog 23 #[.string (bs (matT R C xs)), .string ⟨#[91]⟩] w (GV (.tuple #[.string (bs (headT R C)), .string (bs (bodyT R C xs ++ [93])), .bool true]) w) := by
    intro w hv
    have := c_Cut (matT R C xs) [91] w hv (by omega)
    rw [cut_mat] at this
    exact this
  have hC2 : ∀ w, LV w → Calls Tryz.prog 23 #[.string (bs (headT R C)), .string ⟨#[120]⟩] w (GV (.tuple #[.string (bs (Lib.itoa (R : Int))), .string (bs (Lib.itoa (C : Int))), .bool true]) w) := by
    intro w hv
    have := c_Cut (headT R C) [120] w hv (by omega)
    rw [cut_head] at this
    exact this
  have hP1 := impl_ParseInt (R : Int) (by omega)
  have hP2 := impl_ParseInt (C : Int) (by omega)
  have hS : ∀ w, Calls Tryz.prog 25 #[.string (bs (bodyT R C xs ++ [93])), .string ⟨#[93]⟩] w (GV (.bool true) w) := by
    intro w
    have := c_HasSuffix (bodyT R C xs ++ [93]) [93] w (by rw [List.length_append]; simp; omega)
    rw [suf_mat] at this
    exact this
  have hFM : ∀ (A : Option Addr) (n cap : Nat) (w : World), RI w w.heap.size A n xs → n ≤ cap → cap ≤ 9223372036854775807 → n ≤ 1048576 → LV w → Calls Tryz.prog 6 #[.agg #[.int .i64 R, .int .i64 C, .slice A n cap]] w (GV (.string (bs (matT R C xs))) w) := fun A n cap w h h2 h3 h4 h5 => impl_FormatMatrix R C A n cap xs w h (Nat.le_refl _) h2 h3 h4 hM h5
  have HX := Lib.hid hx
  have HN := Lib.hid hlen
  have hl8 : (matT R C xs).length ≤ 8000 := by omega
  have hb8 : (bodyT R C xs).length ≤ 8000 := by omega
  have hn9 : xs.length ≤ 1048576 := by omega
  clear hn6 hbl hml hhl hx hlen
  generalize matT R C xs = mt at *
  generalize headT R C = hd at *
  generalize hbd : bodyT R C xs = bd at *
  have HB := Lib.hid hbd
  clear hbd
  generalize Lib.itoa (R : Int) = tr at *
  generalize Lib.itoa (C : Int) = tc at *
  have hc8 : ¬ 8000 < mt.length := by omega
  have hE : (bs (bd ++ [93])).extract 0 bd.length = bs bd := ext_mat bd
  by_cases hb0 : bd = []
  · have he0 : bd.isEmpty = true := by rw [hb0]; rfl
    have hxs : xs = [] := by
      rcases Nat.eq_zero_or_pos R with hr | hr
      · exact List.eq_nil_of_length_eq_zero (by rw [HN.out, hr, Nat.zero_mul])
      · rcases Nat.eq_zero_or_pos C with hc | hc
        · exact List.eq_nil_of_length_eq_zero (by rw [HN.out, hc, Nat.mul_zero])
        · exact absurd (HB.out.trans hb0) (body_some hr hc HN.out)
    clear hb0
    go_enter Tryz.func8, Tryz.ntmps8
    go_wp2_with (first | (go_at_call 25; refine (hS _).mono ?_; rintro e w5 ⟨rfl, hb5⟩; have hbm5 : BM w5 w.heap.size 0 0 none 0 0 := (Kb hbm4); have hbw5 : Below w.heap.size w w5 := Kw; have hv5 : LV w5 := LV.below hv4 (C := w.heap.size) (hb5.mono (by have := hbw4.size; omega)) hv.lo; have hs5 := hb5.size; clear hb5 hbw4 hbm4 hv4) | (go_at_call 24; refine (hP2 _ hv3).mono ?_; rintro e w4 ⟨rfl, hb4⟩; have hbm4 : BM w4 w.heap.size 0 0 none 0 0 := (Kb hbm3); have hbw4 : Below w.heap.size w w4 := Kw; have hv4 : LV w4 := LV.below hv3 (C := w.heap.size) (hb4.mono (by have := hbw3.size; omega)) hv.lo; have hs4 := hb4.size; clear hb4 hbw3 hbm3 hv3) | (go_at_call 24; refine (hP1 _ hv2).mono ?_; rintro e w3 ⟨rfl, hb3⟩; have hbm3 : BM w3 w.heap.size 0 0 none 0 0 := (Kb hbm2); have hbw3 : Below w.heap.size w w3 := Kw; have hv3 : LV w3 := LV.below hv2 (C := w.heap.size) (hb3.mono (by have := hbw2.size; omega)) hv.lo; have hs3 := hb3.size; clear hb3 hbw2 hbm2 hv2) | (go_at_call 23; refine (hC2 _ hv1).mono ?_; rintro e w2 ⟨rfl, hb2⟩; have hbm2 : BM w2 w.heap.size 0 0 none 0 0 := (Kb hbm1); have hbw2 : Below w.heap.size w w2 := Kw; have hv2 : LV w2 := LV.below hv1 (C := w.heap.size) (hb2.mono (by have := hbw1.size; omega)) hv.lo; have hs2 := hb2.size; clear hb2 hbw1 hbm1 hv1) | (go_at_call 23; refine (hC1 _ (LV.below hv (C := w.heap.size) Kw hv.lo)).mono ?_; rintro e w1 ⟨rfl, hb1⟩; have hbm1 : BM w1 w.heap.size 0 0 none 0 0 := Ka; have hbw1 : Below w.heap.size w w1 := Kw; have hv1 := LV.below hv (C := w.heap.size) hbw1 hv.lo; have hs1 := hb1.size; (try simp at hs1); clear hb1))
    have hbmR : BM ((w5.alloc (.cells #[] 3)).alloc (.cells #[.int .i64 R, .int .i64 C, .slice (some ⟨w5.heap.size, 0, none⟩) 0 0] 26)) w.heap.size 0 0 none 0 0 := (BX.alloc (BX.alloc hbm5 _) _)
    have hbmM : BM ((w5.alloc (.cells #[] 3)).alloc (.cells #[.int .i64 R, .int .i64 C, .slice (some ⟨w5.heap.size, 0, none⟩) 0 0] 26)) (w5.heap.size + 1) R C (some ⟨w5.heap.size, 0, none⟩) 0 0 := Ka
    have hlR := hbm5.lt
    have h5M : w5.heap.size < w5.heap.size + 1 := Nat.lt_succ_self _
    have hor : OR ((w5.alloc (.cells #[] 3)).alloc (.cells #[.int .i64 R, .int .i64 C, .slice (some ⟨w5.heap.size, 0, none⟩) 0 0] 26)) (w.heap.size + 1) (.slice (some ⟨w5.heap.size, 0, none⟩) 0 0) [] := (OR.empty' w5 w5.heap.size rfl (B := w.heap.size + 1) (by omega)).alloc _
    have hbw6 : Below w.heap.size w ((w5.alloc (.cells #[] 3)).alloc (.cells #[.int .i64 R, .int .i64 C, .slice (some ⟨w5.heap.size, 0, none⟩) 0 0] 26)) := Kw
    have hszM : w5.heap.size + 1 < ((w5.alloc (.cells #[] 3)).alloc (.cells #[.int .i64 R, .int .i64 C, .slice (some ⟨w5.heap.size, 0, none⟩) 0 0] 26)).heap.size := by simp
    have hv6 := LV.below hv (C := w.heap.size) hbw6 hv.lo
    clear hbm5 hbw5 hv5 hs5 hs4 hs3 hs2 hs1
    generalize ((w5.alloc (.cells #[] 3)).alloc (.cells #[.int .i64 R, .int .i64 C, .slice (some ⟨w5.heap.size, 0, none⟩) 0 0] 26)) = W at *
    generalize w5.heap.size + 1 = bM at *
    rw [← hxs] at hor
    have HLN : Hid (xs.length = 0) := Lib.hid (by rw [hxs]; rfl)
    clear hxs
    obtain ⟨hcp1, hcp2⟩ := hor.caps
    have hnl := hor.lenEq
    rw [HLN.out] at hnl
    have hnl2 : 0 ≤ 1048576 := by omega
    clear hnl
    refine (impl_IsMatrix R C _ _ _ xs _ (C := W.heap.size) hor.reads (Nat.le_refl _) hnl2).mono ?_
    rw [hM]
    rintro e w7 ⟨rfl, hb7⟩
    have hbmR7 : BM w7 w.heap.size 0 0 none 0 0 := BX.below hbmR hb7 hbmR.lt
    have hbmM7 : BM w7 bM R C _ _ _ := BX.below hbmM hb7 hbmM.lt
    have hor7 : OR w7 (w.heap.size + 1) _ xs := OR.below hor hb7 (Nat.le_refl _)
    have hbw7 : Below w.heap.size w w7 := hbw6.trans (hb7.mono (by have := hbw6.size; omega))
    have hv7 := LV.below hv (C := w.heap.size) hbw7 hv.lo
    clear hbmR hbmM hor hbw6 hb7
    (try clear hv6)
    obtain ⟨ra, rb, rc, rf, rl⟩ := hbmR7.mx
    obtain ⟨ma, mb, mc, mf, ml⟩ := hbmM7.mx
    go_wp2_with fail
    refine (hFM _ _ _ _ hor7.reads hcp1 hcp2 hnl2 hv7).mono ?_
    rintro e w8 ⟨rfl, hb8⟩
    have hbmR8 : BM w8 w.heap.size 0 0 none 0 0 := BX.below hbmR7 hb8 hbmR7.lt
    have hbmM8 : BM w8 bM R C _ _ _ := BX.below hbmM7 hb8 hbmM7.lt
    have hor8 : OR w8 (w.heap.size + 1) _ xs := OR.below hor7 hb8 (Nat.le_refl _)
    have hbw8 : Below w.heap.size w w8 := hbw7.trans (hb8.mono (by have := hbw7.size; omega))
    clear hbmR7 hbmM7 hor7 hbw7 hv7 hb8 ra rb rc rf rl ma mb mc mf ml
    obtain ⟨ra, rb, rc, rf, rl⟩ := hbmR8.mx
    obtain ⟨ma, mb, mc, mf, ml⟩ := hbmM8.mx
    go_wp2_with fail
    clear ra rb rc rf ma mb mc mf ml
    refine ret_MB (b := w.heap.size) rfl rfl (BX.put ⟨_, _, _, hbmR8⟩) rfl ?_
    exact MBR.mk rfl (OR.mono (B := w.heap.size + 1) (((hor8.low (by simp) _).low (by simp) _).low (by simp) _) (by omega)) Kw
  · have he0 : bd.isEmpty = false := by
      rw [← Bool.not_eq_true, List.isEmpty_iff]; exact hb0
    have hrc : 0 < R ∧ 0 < C := by
      refine ⟨Nat.pos_of_ne_zero fun e => hb0 ?_, Nat.pos_of_ne_zero fun e => hb0 ?_⟩
      · rw [← HB.out]; exact body_none (.inl e)
      · rw [← HB.out]; exact body_none (.inr e)
    have htok : (Lib.goFieldsP isSep (bs bd)).map (fun x => x.data.toList) = xs.map Lib.itoa := by
      rw [← HB.out]; exact fields_mat hrc.1 hrc.2 HN.out
    have hN : (Lib.goFieldsP isSep (bs bd)).length = xs.length := by
      have := congrArg List.length htok
      rw [List.length_map, List.length_map] at this
      exact this
    have HTK := Lib.hid (And.intro htok hN)
    clear hb0 hrc htok hN
    go_enter Tryz.func8, Tryz.ntmps8
    go_wp2_with (first | (go_at_call 25; refine (hS _).mono ?_; rintro e w5 ⟨rfl, hb5⟩; have hbm5 : BM w5 w.heap.size 0 0 none 0 0 := (Kb hbm4); have hbw5 : Below w.heap.size w w5 := Kw; have hv5 : LV w5 := LV.below hv4 (C := w.heap.size) (hb5.mono (by have := hbw4.size; omega)) hv.lo; have hs5 := hb5.size; clear hb5 hbw4 hbm4 hv4) | (go_at_call 24; refine (hP2 _ hv3).mono ?_; rintro e w4 ⟨rfl, hb4⟩; have hbm4 : BM w4 w.heap.size 0 0 none 0 0 := (Kb hbm3); have hbw4 : Below w.heap.size w w4 := Kw; have hv4 : LV w4 := LV.below hv3 (C := w.heap.size) (hb4.mono (by have := hbw3.size; omega)) hv.lo; have hs4 := hb4.size; clear hb4 hbw3 hbm3 hv3) | (go_at_call 24; refine (hP1 _ hv2).mono ?_; rintro e w3 ⟨rfl, hb3⟩; have hbm3 : BM w3 w.heap.size 0 0 none 0 0 := (Kb hbm2); have hbw3 : Below w.heap.size w w3 := Kw; have hv3 : LV w3 := LV.below hv2 (C := w.heap.size) (hb3.mono (by have := hbw2.size; omega)) hv.lo; have hs3 := hb3.size; clear hb3 hbw2 hbm2 hv2) | (go_at_call 23; refine (hC2 _ hv1).mono ?_; rintro e w2 ⟨rfl, hb2⟩; have hbm2 : BM w2 w.heap.size 0 0 none 0 0 := (Kb hbm1); have hbw2 : Below w.heap.size w w2 := Kw; have hv2 : LV w2 := LV.below hv1 (C := w.heap.size) (hb2.mono (by have := hbw1.size; omega)) hv.lo; have hs2 := hb2.size; clear hb2 hbw1 hbm1 hv1) | (go_at_call 23; refine (hC1 _ (LV.below hv (C := w.heap.size) Kw hv.lo)).mono ?_; rintro e w1 ⟨rfl, hb1⟩; have hbm1 : BM w1 w.heap.size 0 0 none 0 0 := Ka; have hbw1 : Below w.heap.size w w1 := Kw; have hv1 := LV.below hv (C := w.heap.size) hbw1 hv.lo; have hs1 := hb1.size; (try simp at hs1); clear hb1))
    have hbmR : BM ((w5.alloc (.cells #[] 3)).alloc (.cells #[.int .i64 R, .int .i64 C, .slice (some ⟨w5.heap.size, 0, none⟩) 0 0] 26)) w.heap.size 0 0 none 0 0 := (BX.alloc (BX.alloc hbm5 _) _)
    have hbmM : BM ((w5.alloc (.cells #[] 3)).alloc (.cells #[.int .i64 R, .int .i64 C, .slice (some ⟨w5.heap.size, 0, none⟩) 0 0] 26)) (w5.heap.size + 1) R C (some ⟨w5.heap.size, 0, none⟩) 0 0 := Ka
    have hlR := hbm5.lt
    have h5M : w5.heap.size < w5.heap.size + 1 := Nat.lt_succ_self _
    have hor : OR ((w5.alloc (.cells #[] 3)).alloc (.cells #[.int .i64 R, .int .i64 C, .slice (some ⟨w5.heap.size, 0, none⟩) 0 0] 26)) (w.heap.size + 1) (.slice (some ⟨w5.heap.size, 0, none⟩) 0 0) [] := (OR.empty' w5 w5.heap.size rfl (B := w.heap.size + 1) (by omega)).alloc _
    have hbw6 : Below w.heap.size w ((w5.alloc (.cells #[] 3)).alloc (.cells #[.int .i64 R, .int .i64 C, .slice (some ⟨w5.heap.size, 0, none⟩) 0 0] 26)) := Kw
    have hszM : w5.heap.size + 1 < ((w5.alloc (.cells #[] 3)).alloc (.cells #[.int .i64 R, .int .i64 C, .slice (some ⟨w5.heap.size, 0, none⟩) 0 0] 26)).heap.size := by simp
    have hv6 := LV.below hv (C := w.heap.size) hbw6 hv.lo
    clear hbm5 hbw5 hv5 hs5 hs4 hs3 hs2 hs1
    generalize ((w5.alloc (.cells #[] 3)).alloc (.cells #[.int .i64 R, .int .i64 C, .slice (some ⟨w5.heap.size, 0, none⟩) 0 0] 26)) = W at *
    generalize w5.heap.size + 1 = bM at *
    refine (c_Fields bd W (by omega)).mono ?_
    rintro e W2 ⟨A2, rfl, hot, hb⟩
    rw [HTK.out.1, HTK.out.2] at hot
    rw [HTK.out.2]
    have hA2 : W.heap.size ≤ A2 ∧ A2 < W2.heap.size := by
      rcases hot.form with ⟨h1, h2⟩ | ⟨g, c, h1, h2, h3, _⟩
      · injection h1 with e1; cases e1
      · injection h1 with e1 e2 e3; injection e1 with e1; injection e1 with e1; subst e1; exact ⟨h2, h3⟩
    have hsW := hbw6.size
    have hbmR_1 : BM W2 w.heap.size 0 0 none 0 0 := BX.below hbmR hb hbmR.lt
    have hbmM_1 : BM W2 bM R C (some ⟨w5.heap.size, 0, none⟩) 0 0 := BX.below hbmM hb hbmM.lt
    have hor_1 : OR W2 (w.heap.size + 1) (.slice (some ⟨w5.heap.size, 0, none⟩) 0 0) [] := OR.below hor hb (Nat.le_refl _)
    have hbw_1 : Below w.heap.size w W2 := hbw6.trans (hb.mono hsW)
    clear hbmR hbmM hor hbw6 hv6 hb
    obtain ⟨ra, rb, rc, rf, rl⟩ := hbmR_1.mx
    obtain ⟨ma, mb, mc, mf, ml⟩ := hbmM_1.mx
    generalize hLN : xs.length = N at *
    have HLN := Lib.hid hLN
    clear hLN
    go_wp2_with fail
    go_loopw [80] (fun v wr => ∃ (k : Nat) (Am : Option Addr) (nm cm : Nat), v = .int .i64 k ∧ k ≤ N ∧ BM wr w.heap.size 0 0 none 0 0 ∧ BM wr bM R C Am nm cm ∧ OR wr (w.heap.size + 1) (.slice Am nm cm) (xs.take k) ∧ (∀ h, (Value.slice Am nm cm).ownBlock = some h → h ≠ A2 ∧ h ≠ bM) ∧ OT wr W.heap.size (.slice (some ⟨A2, 0, none⟩) N N) (xs.map Lib.itoa) ∧ Below w.heap.size w wr ∧ A2 < wr.heap.size) (fun v _ => N - (intOf v).toNat)
    case atStart => exact ⟨0, _, _, _, rfl, Nat.zero_le _, hbmR_1, hbmM_1, by rw [List.take_zero]; exact hor_1, (fun h e => by have e2 : some w5.heap.size = some h := e; injection e2 with e2; have := hA2.1; exact ⟨by omega, by omega⟩), hot, hbw_1, hA2.2⟩
    case round =>
      clear hbmR_1 hbmM_1 hor_1 hot hbw_1 ra rb rc rf rl ma mb mc mf ml
      obtain ⟨k, Am, nm, cm, rfl, hk, hbmR, hbmM, hor, hav, hot, hbw6, hAs⟩ := hrel
      obtain ⟨ra, rb, rc, rf, rl⟩ := hbmR.mx
      obtain ⟨ma, mb, mc, mf, ml⟩ := hbmM.mx
      by_cases hlt : k < N
      · have hkx : k < xs.length := by rw [HLN.out]; exact hlt
        have hxk := HX.out (xs.getD k 0) (by
          rw [List.getD_eq_getElem?_getD, List.getElem?_eq_getElem hkx]
          exact List.getElem_mem hkx)
        have hc := hot.cell k (by rw [List.length_map]; exact hkx)
        have hgx : (xs.map Lib.itoa).getD k [] = Lib.itoa (xs.getD k 0) := by
          rw [List.getD_eq_getElem?_getD, List.getElem?_map, List.getD_eq_getElem?_getD, List.getElem?_eq_getElem hkx]
          rfl
        rw [hgx] at hc
        have happ : xs.take k ++ [xs.getD k 0] = xs.take (k + 1) := by
          rw [List.take_add_one, List.getD_eq_getElem?_getD, List.getElem?_eq_getElem hkx]
          rfl
        have HA := Lib.hid happ
        have hlk : (xs.take k).length ≤ 1048576 := by rw [List.length_take, HLN.out]; omega
        have HLK := Lib.hid hlk
        clear hgx happ hkx hlk
        generalize xs.getD k 0 = x at *
        go_wp2_with fail
        refine (impl_ParseInt x hxk _ (LV.below hv (C := w.heap.size) hbw6 hv.lo)).mono ?_
        rintro e w2 ⟨rfl, hb2⟩
        have hbmR2 : BM w2 w.heap.size 0 0 none 0 0 := BX.below hbmR hb2 hbmR.lt
        have hbmM2 : BM w2 bM R C Am nm cm := BX.below hbmM hb2 hbmM.lt
        have hor2 : OR w2 (w.heap.size + 1) (.slice Am nm cm) (xs.take k) := OR.below hor hb2 (Nat.le_refl _)
        have hot2 : OT w2 W.heap.size (.slice (some ⟨A2, 0, none⟩) N N) (xs.map Lib.itoa) := OT.below hot hb2 (Nat.le_refl _)
        have hs2 := hb2.size
        have hbw2 : Below w.heap.size w w2 := hbw6.trans (hb2.mono hbw6.size)
        have hsw2 := hbw2.size
        have hlM := hbmM2.lt
        clear hbmR hbmM hor hot hb2 hbw6 hc ra rb rc rf rl ma mb mc mf ml
        obtain ⟨ma, mb, mc, mf, ml⟩ := hbmM2.mx
        go_wp2_with (at_builtin; refine wpList_append_one _ rfl (.tmp 93) (.tmp 95) rfl (w.heap.size + 1) _ (xs.take k) rfl ?c1 _ x rfl ?c2 ?c3 ?c4 ?_)
        case c1 => exact hor2.alloc _
        case c2 => simp [go_sem]
        case c3 => have := HLK.out; omega
        case c4 => simp; omega
        intro v1 w6 hown hgr hat
        rw [HA.out] at hown
        have hA1 : ∀ h, v1.ownBlock = some h → h ≠ A2 ∧ h ≠ bM := by
          intro h e
          rcases hat with h1 | h1
          · exact hav h (h1.symm.trans e)
          · rw [e] at h1
            injection h1 with h1
            (try simp at h1)
            omega
        have hbmM6 : BM w6 bM R C Am nm cm := Blk.grown (BX.alloc hbmM2 _) hgr (fun e => (hav bM e.symm).2 rfl)
        have hbmR6 : BM w6 w.heap.size 0 0 none 0 0 := Blk.grown (BX.alloc hbmR2 _) hgr (OR.ne_low hor2 (Nat.lt_succ_self _))
        have hot6 : OT w6 W.heap.size (.slice (some ⟨A2, 0, none⟩) N N) (xs.map Lib.itoa) := OT.kept (hot2.alloc _) hgr (.inr fun e => (hav A2 e.symm).1 rfl)
        have hb6 : Below (w.heap.size + 1) (w2.alloc (.cells #[.int .i64 x] 3)) w6 := OR.below_grown (hor2.alloc _) hgr (by simp; omega)
        have hbw6 : Below w.heap.size w w6 := (hbw2.alloc (by omega) _).trans (hb6.mono (by omega))
        have hs6 : A2 < w6.heap.size := by have := hb6.size; simp at this; omega
        obtain ⟨P', n', c', rfl⟩ := OR.shapeP hown
        clear hbmM2 hbmR2 hot2 hor2 hb6 hgr hat hav hbw2 ma mb mc mf ml
        obtain ⟨ma, mb, mc, mf, ml⟩ := hbmM6.mx
        go_wp2_with fail
        clear ma mb mc mf ml
        go_roundw
        case rel => exact ⟨k + 1, P', n', c', by go_num, by omega, (Kb hbmR6), BX.put2 hbmM6, OR.far hown (fun e => (hA1 _ e).2 rfl) _, hA1, OT.far hot6 (fun e => by injection e with e; simp at e; omega) _, Kw, by simp; omega⟩
        case measure => simp only [intOf]; omega
      · have hkN : k = N := by omega
        subst hkN
        have ht : xs.take k = xs := List.take_of_length_le (by rw [HLN.out]; exact Nat.le_refl _)
        rw [ht] at hor
        clear ht hot hav
        go_wp2_with fail
        obtain ⟨hcp1, hcp2⟩ := hor.caps
        have hnl := hor.lenEq
        rw [HLN.out] at hnl
        have hnl2 : nm ≤ 1048576 := by omega
        clear hnl
        refine (impl_IsMatrix R C _ _ _ xs _ (C := wr.heap.size) hor.reads (Nat.le_refl _) hnl2).mono ?_
        rw [hM]
        rintro e w7 ⟨rfl, hb7⟩
        have hbmR7 : BM w7 w.heap.size 0 0 none 0 0 := BX.below hbmR hb7 hbmR.lt
        have hbmM7 : BM w7 bM R C _ _ _ := BX.below hbmM hb7 hbmM.lt
        have hor7 : OR w7 (w.heap.size + 1) _ xs := OR.below hor hb7 (Nat.le_refl _)
        have hbw7 : Below w.heap.size w w7 := hbw6.trans (hb7.mono (by have := hbw6.size; omega))
        have hv7 := LV.below hv (C := w.heap.size) hbw7 hv.lo
        clear hbmR hbmM hor hbw6 hb7
        (try clear hv6)
        obtain ⟨ra, rb, rc, rf, rl⟩ := hbmR7.mx
        obtain ⟨ma, mb, mc, mf, ml⟩ := hbmM7.mx
        go_wp2_with fail
        refine (hFM _ _ _ _ hor7.reads hcp1 hcp2 hnl2 hv7).mono ?_
        rintro e w8 ⟨rfl, hb8⟩
        have hbmR8 : BM w8 w.heap.size 0 0 none 0 0 := BX.below hbmR7 hb8 hbmR7.lt
        have hbmM8 : BM w8 bM R C _ _ _ := BX.below hbmM7 hb8 hbmM7.lt
        have hor8 : OR w8 (w.heap.size + 1) _ xs := OR.below hor7 hb8 (Nat.le_refl _)
        have hbw8 : Below w.heap.size w w8 := hbw7.trans (hb8.mono (by have := hbw7.size; omega))
        clear hbmR7 hbmM7 hor7 hbw7 hv7 hb8 ra rb rc rf rl ma mb mc mf ml
        obtain ⟨ra, rb, rc, rf, rl⟩ := hbmR8.mx
        obtain ⟨ma, mb, mc, mf, ml⟩ := hbmM8.mx
        go_wp2_with fail
        clear ra rb rc rf ma mb mc mf ml
        refine ret_MB (b := w.heap.size) rfl rfl (BX.put ⟨_, _, _, hbmR8⟩) rfl ?_
        exact MBR.mk rfl (OR.mono (B := w.heap.size + 1) (((hor8.low (by simp) _).low (by simp) _).low (by simp) _) (by omega)) Kw
end Go.Proofs.YtlggfmfelakadaaGreatDoor

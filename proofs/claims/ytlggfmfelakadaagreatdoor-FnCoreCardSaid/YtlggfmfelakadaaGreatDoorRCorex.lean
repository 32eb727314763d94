/-
  DERIVED. The statement of the law FnCore: for every input it returns true, and each argument reads afterwards as it read before; its condition: the library's variables that it reads hold what the program's text lays (tied by the card).
-/
import Derived.Test.YtlggfmfelakadaaGreatDoorc1
import Derived.Test.YtlggfmfelakadaaGreatDoorc7
import Derived.Test.YtlggfmfelakadaaGreatDoorLCorex
import Derived.Test.YtlggfmfelakadaaGreatDoorTie
import Derived.Test.YtlggfmfelakadaaGreatDoorCards
import Derived.LaidMore
import Derived.LaidHandle
import Derived.LaidLaws
import Derived.MakeChecks
import Derived.Stop.LaidErr
import Derived.Stop.Joined
import Derived.Shelf.Vars
import Derived.SevenTiedAt
namespace Go.Proofs.YtlggfmfelakadaaGreatDoor.fnCore
open Go.RowKit
open Go.ChangeShapes Go.WideShapes Go.ChangeAt Go.Joins
set_option linter.unusedVariables false
theorem star : "*" ++ "errors.errorString" = "*errors.errorString" := by decide +kernel
theorem row147 (u : TypeId) (h : Tryz.prog.typeName? 3 u = some "*errors.errorString") : u = 147 :=
  typeName_ptr_named (nm := "errors.errorString") (by rw [star]; kernel_rfl) (by kernel_rfl) (by decide) u (by rw [star]; exact h)
/-- The table as the row lists it. -/
theorem tab_eq : (Rows.laid_internal_strconv_uint64pow10 : DataW Unit) = Lib.tabData .u64 Lib.pow10Tab := by kernel_rfl
/-- What the row's condition and the world's shape give the walk. -/
theorem lv_of {W : World} (hL : laidMetH Tryz.prog Rows.fnCoreRow.laid W) (hsh : W.ShapedOpen Tryz.prog) : LV W := by
  rw [MakeChecks.laidMetH_plain _ _ _ (by kernel_rfl)] at hL
  have h0 : laidMet Tryz.prog (("math/bits.deBruijn32tab", Rows.laid_math_bits_deBruijn32tab) :: ("math/bits.deBruijn64tab", Rows.laid_math_bits_deBruijn64tab) :: (powName, Rows.laid_internal_strconv_uint64pow10) :: ("strconv.ErrRange", Rows.laid_strconv_ErrRange) :: ("strconv.ErrSyntax", Rows.laid_strconv_ErrSyntax) :: []) W := hL
  have h2 := h0.tail.tail
  have h4 := h2.tail.tail
  rw [tab_eq] at h2
  obtain ⟨a0, s0, hv0, -, -, -⟩ := laid_sentinel (g := 1) (ti := 84) (tp := 147) h4 (by kernel_rfl) (by kernel_rfl) Tryz.underlying84 row147 Tryz.underlying147 Tryz.underlying149 rfl rfl Tryz.underlying9 (by kernel_rfl) (by kernel_rfl)
  have hT : Lib.TabIs Tryz.prog W powName .u64 Lib.pow10Tab := Lib.tabIs_of_head (g := 3) (t := 142) (e := 127) (n := 20) pow_at (by kernel_rfl) Tryz.underlying142 Tryz.underlying127 (by kernel_rfl) (by kernel_rfl) h2
  have hc := hT.cell pow_at 0 (by rw [Lib.pow10Tab_length]; omega)
  refine ⟨hT, ?_, ⟨_, World.var?_cell (g := 1) (by kernel_rfl) hv0 0, Or.inr ⟨_, _, rfl⟩⟩, ?_⟩
  · exact cell_of_shapedOpen_int (g := 0) (t := 3) (zero := #[.int .i64 0]) hsh (by decide +kernel) (by kernel_rfl) rfl (by kernel_rfl) (by kernel_rfl) Tryz.underlying3
  · rcases Nat.lt_or_ge 3 W.heap.size with h' | h'
    · omega
    · exfalso
      unfold World.cell? at hc
      rw [Array.getElem?_eq_none h'] at hc
      cases hc
/-- The heap that the variables' own start leaves meets the condition. -/
theorem door_met (os : Os) (args : Array Value) : laidMetH Tryz.prog Rows.fnCoreRow.laid ((World.doorLaid Tryz.prog 400 os).forCall (fun _ _ => 0) ⟨#[], args, []⟩).memory :=
  laidMetH_of_parts (laidMet_of_run' 8 (by kernel_rfl) (by kernel_rfl)) (by kernel_rfl)
set_option maxRecDepth 100000 in
theorem lifted (os : Os) (started : os.Started) (H : Type) (enc : TypeId × Value → H) :
    ReturnsInHanded {} Tryz.checked os 3 .any (fun w args => (Rows.fnCoreSpec.pre enc Tryz.prog Tryz.f3 [] false w args ∧ laidMetH Tryz.prog Rows.fnCoreRow.laid w) ∧ sizedMet enc Tryz.prog Tryz.f3 (OpenSpec.ofChange Rows.fnCoreSpec) false w args)
      (Rows.fnCoreSpec.post enc Tryz.prog Tryz.f3 false true false false) := by
  refine returnsInHanded_of_calls own started (by kernel_rfl)
    (ChangeSpec.witness_shaped (enc := enc) (C := Tryz.checked) (os := os) (X := fun w _ => laidMetH Tryz.prog Rows.fnCoreRow.laid w) false (World.doorLaid Tryz.prog 400 os) #[.slice none 0 0] 8 rfl (World.shaped_of_RefB (by kernel_rfl) (by kernel_rfl)) (by kernel_rfl) (by kernel_rfl) (by kernel_rfl) (door_met os _)) ?_
  intro w tape i _ hsh _ hok hpre _
  obtain ⟨_, _, _, fn, hfn, _, _, _, _, hval0⟩ := hok
  obtain rfl : fn = Tryz.f3 := Option.some.inj (hfn.symm.trans Tryz.func3)
  obtain ⟨⟨⟨ds, gs, before, hw, -⟩, hx⟩, -⟩ := hpre
  have hW : DataW.Whole enc Tryz.prog (Tryz.f3).params.toList Rows.fnCoreSpec.vars false (w.forCall tape i) i.args.toList ds gs before := DataW.Whole.of_heap (w' := w.forCall tape i) (by rfl) hw
  have hL : laidMetH Tryz.prog Rows.fnCoreRow.laid (w.forCall tape i) := hx.of_heap (by rfl)
  have hv := lv_of hL hsh
  generalize w.forCall tape i = W at *
  generalize i.args = args at *
  suffices hC : Calls Tryz.prog 3 args W fun e W' => ∃ v, e = .returned v ∧ Rows.fnCoreSpec.post enc Tryz.prog Tryz.f3 false true false false W args v W' by
    refine hC.mono fun e W' ⟨v, he, hp⟩ => ?_
    subst he
    exact ChangeSpec.post_blind hp
  have hval : ∀ (j : Nat) t v, Tryz.f3.params[j]? = some t → args[j]? = some v → Value.okWide Tryz.prog W .any _ t v := hval0
  have hW' := hW
  have hlt : ∀ p ∈ before, p.block < W.heap.size := fun p hp => hW.lt p hp
  obtain ⟨p, q, hA0, hV, rfl, hfz, hnd⟩ := hW
  have hA : DataW.TrodAll enc Tryz.prog W 0 (fun _ => true) true Tryz.f3.params.toList args.toList ds p := hA0
  rw [Tryz.params3] at hA hval
  obtain ⟨v0, vs0, d0, ds0, p0, q0, hargs0, rfl, rfl, h0, r0⟩ := trodAll_cons hA
  obtain ⟨rfl, rfl, rfl⟩ := trodAll_nil r0
  obtain rfl : args = #[v0] := by cases args; simp_all
  obtain ⟨rfl, rfl⟩ := trodVars_none hV
  clear hA0 hval0
  have l0 : ∀ x ∈ p0, x.block < W.heap.size := fun x hx => hlt x (by simp [hx])
  have s0 := fun (W' : World) (hb : Below W.heap.size W W') => same_arg laidOut (by kernel_rfl : Tryz.prog.readableRec 22 = true) (of_decide_eq_true (by kernel_rfl)) h0 hb l0
  obtain ⟨aa0, nn0, ac0, rfl⟩ := okWide_slice Tryz.underlying22 (hval 0 _ v0 rfl rfl)
  obtain ⟨fu0, hf0⟩ := h0
  obtain ⟨A0, n0, cap0, xs0, ev0, c0, cc0, ri0⟩ := reads_bytes Tryz.underlying22 Tryz.underlying5 (by kernel_rfl) (v := .slice aa0 nn0 ac0) hf0 (fun x hx => l0 x hx)
  cases ev0
  simp only [List.append_nil] at hW'
  refine (law_FnCore W aa0 nn0 ac0 xs0 c0 cc0 ri0 hv).mono fun e W' ⟨he, hb⟩ => ?_
  subst he
  exact ⟨_, rfl, post_below (pv := []) hW' (fun _ _ _ => (trodAll_cons_mk (shut_bool Tryz.underlying4 _) trodAll_mk0))
    (fun sp hsp => (trodAll_cons_mk (s0 W' hb sp (fun x hx => hsp x (by grind))) trodAll_mk0)) (fun _ _ => rfl) (by simp) hb (ok_one (by kernel_rfl) rfl (okWide_bool_mk Tryz.underlying4 _))⟩
/-- The row. -/
theorem over : Rows.FnCoreSaid :=
  OpenClaim.holds_of_wide 3 Tryz.f3 rfl rfl rfl rfl rfl rfl rfl ⟨rfl, rfl, rfl, rfl, rfl⟩ rfl rfl rfl rfl rfl (by kernel_rfl) Tryz.func3 (by kernel_rfl)
    (of_decide_eq_true (by kernel_rfl)) (by unfold Func.isWrapper; first | (rw [if_pos (by decide +kernel)]; kernel_rfl) | (rw [if_neg (by decide +kernel)]; exact ⟨rfl, rfl⟩))
    (fun os started H enc _ => lifted os started H enc)
/-- The statement: the tied card. -/
theorem proved : Rows.FnCoreCardSaid :=
  Claim7.holds_tied_plain_at .later [] [.data, .data, .data, .sentinel, .sentinel] true (true, "e2b5c089c132ea2dbae10b706851ca9f452281a9377f8221a40c5271c5e39abc") true
    over (fun _ h => by cases h) (by kernel_rfl) (fun _ h => by cases h) fnCore_row_tie rfl ⟨rfl, rfl⟩ (by kernel_rfl) rfl
    (fun f fn hf hfn => by
      obtain rfl : f = 3 := Option.some.inj ((show Tryz.prog.funcNamed "loop.example/g03411/laws.FnCore" = some 3 by kernel_rfl).symm.trans hf) |>.symm
      obtain rfl : fn = Tryz.f3 := (Option.some.inj (Tryz.func3.symm.trans hfn)).symm
      exact ⟨by kernel_rfl, fun j t ht => by
        rw [Tryz.params3] at ht
        have h3 : t = 22 := by
          rcases j with _ | j
          · simpa using ht.symm
          · simp at ht
        subst h3
        exact (show Tryz.prog.wantsStandIn 22 = false by kernel_rfl)⟩)
    (by kernel_rfl)
#print axioms proved
end Go.Proofs.YtlggfmfelakadaaGreatDoor.fnCore

/-
  DERIVED. The statement of the law FnRowOps: for every input it returns true, and each argument reads afterwards as it read before. No conditions.
-/
import Derived.Test.YtlggfmfelakadaaX1
import Derived.Test.YtlggfmfelakadaaX5
import Derived.Test.YtlggfmfelakadaaLRowOpsx
namespace Go.Proofs.Ytlggfmfelakadaa.fnRowOps
open Go.ChangeShapes Go.WideShapes Go.ChangeAt Go.RowKit Go.Joins
set_option linter.unusedVariables false
set_option maxRecDepth 100000 in
theorem lifted (os : Os) (started : os.Started) (H : Type) (enc : TypeId × Value → H) :
    ReturnsInHanded {} Try.checked os 3 .any (Rows.fnRowOpsSpec.pre6 enc Try.prog Try.f3 Rows.fnRowOpsRow.domain false) (Rows.fnRowOpsSpec.post enc Try.prog Try.f3 false true false false) := by
  refine returnsInHanded_of_change (C := Try.checked) own started (by kernel_rfl) Try.func3
    (ChangeSpec.witness6 (enc := enc) (C := Try.checked) false ⟨#[], #[.slice none 0 0], []⟩ 8 (by kernel_rfl) (by kernel_rfl) (by kernel_rfl) (by kernel_rfl)) ?_
  intro W base args ds gs before hval0 hW hcnd _
  have hval : ∀ (j : Nat) t v, Try.f3.params[j]? = some t → args[j]? = some v → Value.okWide Try.prog W .any base t v := hval0
  have hW' := hW
  have hlt : ∀ p ∈ before, p.block < W.heap.size := fun p hp => hW.lt p hp
  obtain ⟨p, q, hA0, hV, rfl, hfz, hnd⟩ := hW
  have hA : DataW.TrodAll enc Try.prog W 0 (fun _ => true) true Try.f3.params.toList args.toList ds p := hA0
  rw [Try.params3] at hA hval
  obtain ⟨v0, vs0, d0, ds0, p0, q0, hargs0, rfl, rfl, h0, r0⟩ := trodAll_cons hA
  obtain ⟨rfl, rfl, rfl⟩ := trodAll_nil r0
  obtain rfl : args = #[v0] := by cases args; simp_all
  obtain ⟨rfl, rfl⟩ := trodVars_none hV
  clear hA0 hval0
  have l0 : ∀ x ∈ p0, x.block < W.heap.size := fun x hx => hlt x (by simp [hx])
  have s0 := fun (W' : World) (hb : Below W.heap.size W W') => same_arg laidOut (by kernel_rfl : Try.prog.readableRec 22 = true) (of_decide_eq_true (by kernel_rfl)) h0 hb l0
  obtain ⟨aa0, nn0, ac0, rfl⟩ := okWide_slice Try.underlying22 (hval 0 _ v0 rfl rfl)
  obtain ⟨fu0, hf0⟩ := h0
  obtain ⟨A0, n0, cap0, xs0, ev0, c0, cc0, ri0⟩ := reads_bytes Try.underlying22 Try.underlying5 (by kernel_rfl) (v := .slice aa0 nn0 ac0) hf0 (fun x hx => l0 x hx)
  cases ev0
  simp only [List.append_nil] at hW'
  refine (law_FnRowOps W aa0 nn0 ac0 xs0 c0 cc0 ri0).mono fun e W' ⟨he, hb⟩ => ?_
  subst he
  exact ⟨_, rfl, post_below (pv := []) hW' (fun _ _ _ => (trodAll_cons_mk (shut_bool Try.underlying4 _) trodAll_mk0))
    (fun sp hsp => (trodAll_cons_mk (s0 W' hb sp (fun x hx => hsp x (by grind))) trodAll_mk0)) (fun _ _ => rfl) (by simp) hb (ok_one (by kernel_rfl) rfl (okWide_bool_mk Try.underlying4 _))⟩

theorem over : Rows.fnRowOpsRow.holds Try.pinned (OpenSpec.ofChange Rows.fnRowOpsSpec) :=
  OpenClaim.holds_of_wide 3 Try.f3 rfl rfl rfl rfl rfl rfl rfl ⟨rfl, rfl, rfl, rfl, rfl⟩ rfl rfl rfl rfl rfl (by kernel_rfl) Try.func3 (by kernel_rfl)
    (of_decide_eq_true (by kernel_rfl)) (by unfold Func.isWrapper; first | (rw [if_pos (by decide +kernel)]; kernel_rfl) | (rw [if_neg (by decide +kernel)]; exact ⟨rfl, rfl⟩))
    (fun os started H enc _ => lifted os started H enc)

/-- The statement. -/
theorem proved : Rows.FnRowOpsSaid :=
  over
#print axioms proved
end Go.Proofs.Ytlggfmfelakadaa.fnRowOps

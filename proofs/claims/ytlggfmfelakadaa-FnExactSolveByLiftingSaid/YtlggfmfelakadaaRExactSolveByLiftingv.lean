/-
  DERIVED. The statement of the law FnExactSolveByLifting: for every input it returns true, and each argument reads afterwards as it read before. No conditions.
-/
import Derived.Test.YtlggfmfelakadaaVS
import Derived.Test.YtlggfmfelakadaaV1
import Derived.Test.YtlggfmfelakadaaLSolveByLiftingv
namespace Go.Proofs.Ytlggfmfelakadaa.fnExactSolveByLifting
open Go.ChangeShapes Go.WideShapes Go.ChangeAt Go.RowKit Go.Joins
set_option linter.unusedVariables false
set_option maxRecDepth 100000 in
theorem lifted (os : Os) (started : os.Started) (H : Type) (enc : TypeId × Value → H) :
    ReturnsInHanded {} Try.checked os 5 .any (Rows.fnExactSolveByLiftingSpec.pre6 enc Try.prog Try.f5 Rows.fnExactSolveByLiftingRow.domain false) (Rows.fnExactSolveByLiftingSpec.post enc Try.prog Try.f5 false true false false) := by
  refine returnsInHanded_of_change (C := Try.checked) own started (by kernel_rfl) Try.func5
    (ChangeSpec.witness6 (enc := enc) (C := Try.checked) false ⟨#[], #[.agg #[.int .i64 0, .int .i64 0, .slice none 0 0], .slice none 0 0], []⟩ 8 (by kernel_rfl) (by kernel_rfl) (by kernel_rfl) (by kernel_rfl)) ?_
  intro W base args ds gs before hval0 hW hcnd _
  have hval : ∀ (j : Nat) t v, Try.f5.params[j]? = some t → args[j]? = some v → Value.okWide Try.prog W .any base t v := hval0
  have hW' := hW
  have hlt : ∀ p ∈ before, p.block < W.heap.size := fun p hp => hW.lt p hp
  obtain ⟨p, q, hA0, hV, rfl, hfz, hnd⟩ := hW
  have hA : DataW.TrodAll enc Try.prog W 0 (fun _ => true) true Try.f5.params.toList args.toList ds p := hA0
  rw [Try.params5] at hA hval
  obtain ⟨v0, vs0, d0, ds0, p0, q0, hargs0, rfl, rfl, h0, r0⟩ := trodAll_cons hA
  obtain ⟨v1, vs1, d1, ds1, p1, q1, hargs1, rfl, rfl, h1, r1⟩ := trodAll_cons r0
  subst hargs1
  obtain ⟨rfl, rfl, rfl⟩ := trodAll_nil r1
  obtain rfl : args = #[v0, v1] := by cases args; simp_all
  obtain ⟨rfl, rfl⟩ := trodVars_none hV
  clear hA0 hval0
  have l0 : ∀ x ∈ p0, x.block < W.heap.size := fun x hx => hlt x (by simp [hx])
  have l1 : ∀ x ∈ p1, x.block < W.heap.size := fun x hx => hlt x (by simp [hx])
  have s0 := fun (W' : World) (hb : Below W.heap.size W W') => same_arg laidOut (by kernel_rfl : Try.prog.readableRec 44 = true) (of_decide_eq_true (by kernel_rfl)) h0 hb l0
  have s1 := fun (W' : World) (hb : Below W.heap.size W W') => same_arg laidOut (by kernel_rfl : Try.prog.readableRec 24 = true) (of_decide_eq_true (by kernel_rfl)) h1 hb l1
  obtain ⟨u00, u01, u02, y00, y01, y02, m0, rfl, rfl, rfl, k00, k01, k02⟩ := open_agg3 Try.underlying44 (by kernel_rfl) (by kernel_rfl) (hval 0 _ v0 rfl rfl) h0
  obtain ⟨a00, e00, x00, w00⟩ := DataW.trod_int Try.underlying3 k00
  obtain rfl : u00 = .int .i64 a00 := by injection e00
  obtain ⟨a01, e01, x01, w01⟩ := DataW.trod_int Try.underlying3 k01
  obtain rfl : u01 = .int .i64 a01 := by injection e01
  obtain ⟨A0, n0, cap0, xs0, rfl, c0, cc0, ri0, wf0⟩ := reads_ints Try.underlying24 Try.underlying3 (by kernel_rfl) k02 (fun x hx => l0 x (by grind))
  obtain ⟨aa1, nn1, ac1, rfl⟩ := okWide_slice Try.underlying24 (hval 1 _ v1 rfl rfl)
  obtain ⟨fu1, hf1⟩ := h1
  obtain ⟨A1, n1, cap1, xs1, ev1, c1, cc1, ri1, wf1⟩ := reads_ints Try.underlying24 Try.underlying3 (by kernel_rfl) (v := .slice aa1 nn1 ac1) hf1 (fun x hx => l1 x hx)
  cases ev1
  simp only [List.append_nil] at hW'
  refine (law_FnExactSolveByLifting W a00 (wf_bounds w00) a01 (wf_bounds w01) A0 n0 cap0 xs0 c0 cc0 ri0 wf0 aa1 nn1 ac1 xs1 c1 cc1 ri1 wf1).mono fun e W' ⟨he, hb⟩ => ?_
  subst he
  exact ⟨_, rfl, post_below (pv := []) hW' (fun _ _ _ => (trodAll_cons_mk (shut_bool Try.underlying4 _) trodAll_mk0))
    (fun sp hsp => (trodAll_cons_mk (s0 W' hb sp (fun x hx => hsp x (by grind))) (trodAll_cons_mk (s1 W' hb sp (fun x hx => hsp x (by grind))) trodAll_mk0))) (fun _ _ => rfl) (by simp) hb (ok_one (by kernel_rfl) rfl (okWide_bool_mk Try.underlying4 _))⟩

theorem over : Rows.fnExactSolveByLiftingRow.holds Try.pinned (OpenSpec.ofChange Rows.fnExactSolveByLiftingSpec) :=
  OpenClaim.holds_of_wide 5 Try.f5 rfl rfl rfl rfl rfl rfl rfl ⟨rfl, rfl, rfl, rfl, rfl⟩ rfl rfl rfl rfl rfl (by kernel_rfl) Try.func5 (by kernel_rfl)
    (of_decide_eq_true (by kernel_rfl)) (by unfold Func.isWrapper; first | (rw [if_pos (by decide +kernel)]; kernel_rfl) | (rw [if_neg (by decide +kernel)]; exact ⟨rfl, rfl⟩))
    (fun os started H enc _ => lifted os started H enc)

/-- The statement. -/
theorem proved : Rows.FnExactSolveByLiftingSaid :=
  over
#print axioms proved
end Go.Proofs.Ytlggfmfelakadaa.fnExactSolveByLifting

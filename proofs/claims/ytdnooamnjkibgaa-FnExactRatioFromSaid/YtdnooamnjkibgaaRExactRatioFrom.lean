/-
  DERIVED. The statement of the law FnExactRatioFrom: for every input it returns true, and each argument reads afterwards as it read before. No conditions.
-/
import Derived.Test.YtdnooamnjkibgaaRowkit
import Derived.Test.YtdnooamnjkibgaaLaw5
namespace Go.Proofs.Ytdnooamnjkibgaa.fnExactRatioFrom
open Go.ChangeShapes Go.WideShapes Go.ChangeAt Go.RowKit Go.Joins
set_option linter.unusedVariables false
set_option maxRecDepth 100000 in
theorem lifted (os : Os) (started : os.Started) (H : Type) (enc : TypeId × Value → H) :
    ReturnsInHanded {} Try.checked os 8 .any (Rows.fnExactRatioFromSpec.pre6 enc Try.prog Try.f8 Rows.fnExactRatioFromRow.domain false) (Rows.fnExactRatioFromSpec.post enc Try.prog Try.f8 false true false false) := by
  refine returnsInHanded_of_change (C := Try.checked) own started (by kernel_rfl) Try.func8
    (ChangeSpec.witness6 (enc := enc) (C := Try.checked) false ⟨#[], #[.int .i64 0, .int .i64 0, .int .i64 0], []⟩ 8 (by kernel_rfl) (by kernel_rfl) (by kernel_rfl) (by kernel_rfl)) ?_
  intro W base args ds gs before hval0 hW hcnd _
  have hval : ∀ (j : Nat) t v, Try.f8.params[j]? = some t → args[j]? = some v → Value.okWide Try.prog W .any base t v := hval0
  have hW' := hW
  have hlt : ∀ p ∈ before, p.block < W.heap.size := fun p hp => hW.lt p hp
  obtain ⟨p, q, hA0, hV, rfl, hfz, hnd⟩ := hW
  have hA : DataW.TrodAll enc Try.prog W 0 (fun _ => true) true Try.f8.params.toList args.toList ds p := hA0
  rw [Try.params8] at hA hval
  obtain ⟨v0, vs0, d0, ds0, p0, q0, hargs0, rfl, rfl, h0, r0⟩ := trodAll_cons hA
  obtain ⟨v1, vs1, d1, ds1, p1, q1, hargs1, rfl, rfl, h1, r1⟩ := trodAll_cons r0
  subst hargs1
  obtain ⟨v2, vs2, d2, ds2, p2, q2, hargs2, rfl, rfl, h2, r2⟩ := trodAll_cons r1
  subst hargs2
  obtain ⟨rfl, rfl, rfl⟩ := trodAll_nil r2
  obtain rfl : args = #[v0, v1, v2] := by cases args; simp_all
  obtain ⟨rfl, rfl⟩ := trodVars_none hV
  clear hA0 hval0
  have l0 : ∀ x ∈ p0, x.block < W.heap.size := fun x hx => hlt x (by simp [hx])
  have l1 : ∀ x ∈ p1, x.block < W.heap.size := fun x hx => hlt x (by simp [hx])
  have l2 : ∀ x ∈ p2, x.block < W.heap.size := fun x hx => hlt x (by simp [hx])
  have s0 := fun (W' : World) (hb : Below W.heap.size W W') => same_arg laidOut (by kernel_rfl : Try.prog.readableRec 3 = true) (of_decide_eq_true (by kernel_rfl)) h0 hb l0
  have s1 := fun (W' : World) (hb : Below W.heap.size W W') => same_arg laidOut (by kernel_rfl : Try.prog.readableRec 3 = true) (of_decide_eq_true (by kernel_rfl)) h1 hb l1
  have s2 := fun (W' : World) (hb : Below W.heap.size W W') => same_arg laidOut (by kernel_rfl : Try.prog.readableRec 3 = true) (of_decide_eq_true (by kernel_rfl)) h2 hb l2
  obtain ⟨a0, rfl, rfl, rfl, w0⟩ := open_int Try.underlying3 (hval 0 _ v0 rfl rfl) h0
  obtain ⟨a1, rfl, rfl, rfl, w1⟩ := open_int Try.underlying3 (hval 1 _ v1 rfl rfl) h1
  obtain ⟨a2, rfl, rfl, rfl, w2⟩ := open_int Try.underlying3 (hval 2 _ v2 rfl rfl) h2
  simp only [List.append_nil] at hW'
  refine (law_FnExactRatioFrom a0 (wf_bounds w0) a1 (wf_bounds w1) a2 (wf_bounds w2) W).mono fun e W' ⟨he, hb⟩ => ?_
  subst he
  exact ⟨_, rfl, post_below (pv := []) hW' (fun _ _ _ => (trodAll_cons_mk (shut_bool Try.underlying4 _) trodAll_mk0))
    (fun sp hsp => (trodAll_cons_mk (s0 W' hb sp (fun x hx => hsp x (by grind))) (trodAll_cons_mk (s1 W' hb sp (fun x hx => hsp x (by grind))) (trodAll_cons_mk (s2 W' hb sp (fun x hx => hsp x (by grind))) trodAll_mk0)))) (fun _ _ => rfl) (by simp) hb (ok_one (by kernel_rfl) rfl (okWide_bool_mk Try.underlying4 _))⟩

theorem over : Rows.fnExactRatioFromRow.holds Try.pinned (OpenSpec.ofChange Rows.fnExactRatioFromSpec) :=
  OpenClaim.holds_of_wide 8 Try.f8 rfl rfl rfl rfl rfl rfl rfl ⟨rfl, rfl, rfl, rfl, rfl⟩ rfl rfl rfl rfl rfl (by kernel_rfl) Try.func8 (by kernel_rfl)
    (of_decide_eq_true (by kernel_rfl)) (by unfold Func.isWrapper; first | (rw [if_pos (by decide +kernel)]; kernel_rfl) | (rw [if_neg (by decide +kernel)]; exact ⟨rfl, rfl⟩))
    (fun os started H enc _ => lifted os started H enc)

/-- The statement. -/
theorem proved : Rows.FnExactRatioFromSaid :=
  over
#print axioms proved
end Go.Proofs.Ytdnooamnjkibgaa.fnExactRatioFrom

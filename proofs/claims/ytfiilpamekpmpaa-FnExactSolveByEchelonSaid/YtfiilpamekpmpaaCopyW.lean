/-
  DERIVED. The builtin copy of ints onto a window of an owned block.
-/
import Derived.Test.YtfiilpamekpmpaaPlainW
import Derived.Test.YtfiilpamekpmpaaRowOp
import Derived.Laws.CopyOwn
import Derived.Laws.IdiomCopy
namespace Go.Proofs.Ytfiilpamekpmpaa
open Go.RowKit
set_option linter.unusedVariables false
theorem splL_nil (xs : List Int) (off : Nat) : splL xs off [] = xs := by simp [splL]
theorem run_copy_win (w : World) (B : Nat) (ty : TypeId) (Av : Option Addr) (n cap : Nat) (xs : List Int) (hown : OR w B (.slice Av n cap) xs) (off m dL dCap sCap : Nat) (hdL : m ≤ dL) (dp A : Option Addr) (C : Nat) (ys : List Int) (hr : RI w C A m ys)
    (hfit : off + m ≤ xs.length) (hd : 0 < m → dp = Av.map fun x => x.add off) :
    ∃ w', (Builtin.copy_ #[22, 22] ty #[.slice dp dL dCap, .slice A m sCap]).run Try.prog w = .ok (goInt m) w' ∧ OR w' B (.slice Av n cap) (splL xs off ys) ∧ w.grownBy w' (Value.slice Av n cap).ownBlock ∧ w.heap.size = w'.heap.size := by
  obtain ⟨i0, hi, hz0, hz1, hz2⟩ := info_parts int_info
  have hs : (Try.prog.info? 3).map (·.size) = some 1 := by rw [hi]; simp [hz1]
  have hl := hr.len
  by_cases h0 : m = 0
  · subst h0
    have hn : ys = [] := List.eq_nil_of_length_eq_zero hl
    subst hn
    refine ⟨w, ?_, by rw [splL_nil]; exact hown, World.grownBy.refl w _, rfl⟩
    exact run_copy_none (P := Try.prog) w 22 22 ty 3 dp A dL dCap 0 sCap Try.underlying22 hs (by simp)
  · obtain ⟨b, o, rfl, hbb, hc⟩ := hr.2 (by omega)
    rcases hown.2 with ⟨h1, h2⟩ | ⟨g, cap', cur, h1, hbg, hg, hnc, hcm, hcs, htake⟩
    · omega
    · injection h1 with e1 e2 e3
      subst e1; subst e2; subst e3
      have e4 := hd (by omega)
      simp only [Option.map_some, addr_add, Nat.zero_add] at e4
      subst e4
      have hcells : ∀ j u, (ys.map (Value.int .i64))[j]? = some u → w.cell? ((⟨b, o, none⟩ : Addr).add j) = some u := by
        intro j u hu
        have hj : j < ys.length := by
          have := (List.getElem?_eq_some_iff.1 hu).1
          simpa using this
        rw [addr_add, hc j (by omega)]
        simp [hj] at hu
        simp [List.getD, hj, hu]
      have hcz : cur.size = cap := by rw [hcs, Nat.mul_one]
      have hone : ∀ v ∈ ys.map (Value.int .i64), v.oneCell' = true := by
        intro u hu
        obtain ⟨y, _, rfl⟩ := List.mem_map.1 hu
        rfl
      have hrun := run_copy_row (P := Try.prog) w 22 22 ty 3 g off dL dCap ⟨b, o, none⟩ m sCap cur 3 (ys.map (Value.int .i64)) Try.underlying22 hs hg (by rw [List.length_map, hl]; exact (Nat.min_eq_left hdL).symm) hcells (by simp [hl]; omega) hone
      have e5 : (ys.map (Value.int .i64)).length = m := by simp [hl]
      rw [e5] at hrun
      refine ⟨_, hrun, ⟨by simp, .inr ⟨g, cap, _, by rw [splL_len (by omega)], hbg, setRow_heap w g cur _ _ _ hg, by rw [splL_len (by omega)]; exact hnc, hcm, ?_, ?_⟩⟩, ⟨rfl, rfl, rfl, by simp, fun k _ hk => setRow_other w g k _ (fun e => hk (by simp [Value.ownBlock, e]))⟩, by simp⟩
      · simp only [List.size_toArray, List.length_append, List.length_take, List.length_drop, Array.length_toList, e5]
        omega
      · have ht : cur.toList.take xs.length = xs.map (Value.int .i64) := by simpa using htake
        have e6 : cur.toList = xs.map (Value.int .i64) ++ cur.toList.drop xs.length := by rw [← ht, List.take_append_drop]
        rw [splL_len (by omega), Nat.mul_one]
        unfold splL
        rw [e6]
        have e7 : (xs.map (Value.int .i64)).length = xs.length := by simp
        rw [List.take_append_of_le_length (i := off) (l₁ := xs.map (Value.int .i64)) (by omega), List.drop_append_of_le_length (i := off + m) (l₁ := xs.map (Value.int .i64)) (by omega)]
        have e8 : (List.take off (xs.map (Value.int .i64)) ++ ys.map (Value.int .i64) ++ (List.drop (off + m) (xs.map (Value.int .i64)) ++ cur.toList.drop xs.length)) = (List.take off (xs.map (Value.int .i64)) ++ ys.map (Value.int .i64) ++ List.drop (off + m) (xs.map (Value.int .i64))) ++ cur.toList.drop xs.length := by simp only [List.append_assoc]
        rw [show ∀ l : List Value, l.toArray.toList = l from fun _ => rfl, e8, List.take_append_of_le_length (by simp [hl]; omega), List.take_of_length_le (by simp [hl]; omega)]
        simp [hl]
theorem OR.win {w : World} {B g n cap off m : Nat} {xs : List Int} (h : OR w B (.slice (some ⟨g, 0, none⟩) n cap) xs) (hf : off + m ≤ xs.length) : RI w (g + 1) (some ⟨g, off, none⟩) m (winL xs off m) :=
  ⟨winL_len hf, fun _ => ⟨g, off, rfl, by omega, fun k hk => by rw [winL_getD hk]; exact h.cell (off + k) (by omega)⟩⟩
section
variable (w : World)
theorem step_copy_win {ops : Array Oper} {o : Oper} {a : Act} {K : Act → World → Prop} {Q : Exit → Act → World → Prop} {E : Prop} (hgd : o.guard = none) (d s : Operand)
    (ho : o.op = .call { callee := .builtin .copy, args := #[d, s], argTypes := #[22, 22] })
    (B : Nat) (Av : Option Addr) (n cap : Nat) (xs : List Int) (hown : OR w B (.slice Av n cap) xs) (off m dL dCap sCap : Nat) (hdL : m ≤ dL) (dp A : Option Addr) (hdv : a.eval d = .slice dp dL dCap) (hsv : a.eval s = .slice A m sCap) (C : Nat) (ys : List Int) (hr : RI w C A m ys)
    (hfit : off + m ≤ xs.length) (hd : 0 < m → dp = Av.map fun x => x.add off)
    (h : ∀ w', OR w' B (.slice Av n cap) (splL xs off ys) → w.grownBy w' (Value.slice Av n cap).ownBlock → w.heap.size = w'.heap.size → K (a.put o.dst (goInt m)) w') :
    if Region.wanted o (yielded ops a.tmps) = true then Oper.wp Try.prog o a w K Q else E := by
  have hw : Region.wanted o (yielded ops a.tmps) = true := by simp [Region.wanted, hgd]
  rw [if_pos hw]
  obtain ⟨w', hrun, h2, h3, h4⟩ := run_copy_win w B o.type Av n cap xs hown off m dL dCap sCap hdL dp A C ys hr hfit hd
  unfold Oper.wp execOp
  simp only [ho, resolve, invoke, builtin, Sem.run_bind, Sem.run_pure, Result.andThen_ok, List.map_toArray, List.map_cons, List.map_nil, hdv, hsv, hrun]
  exact h w' h2 h3 h4
end
end Go.Proofs.Ytfiilpamekpmpaa

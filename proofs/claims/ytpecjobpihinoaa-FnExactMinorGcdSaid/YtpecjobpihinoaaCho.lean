/-
  DERIVED. Choices of k of n indices as a list of lists; lists of slices, each in a block that is not the list's own; choices of the program.
-/
import Derived.Test.YtpecjobpihinoaaDetW
import Derived.Deep.LoopGhost
namespace Go.Proofs.Ytpecjobpihinoaa
open Go.RowKit
set_option linter.unusedVariables false
set_option linter.unusedSimpArgs false
def frm (c : List Int) : Int := if c.length = 0 then 0 else c.getD (c.length - 1) 0 + 1
def extF (n : Int) (c : List Int) : Nat → Int → List (List Int)
  | 0, _ => []
  | m + 1, i => if i < n then (c ++ [i]) :: extF n c m (i + 1) else []
def extL (n : Int) (c : List Int) (i : Int) : List (List Int) := extF n c (n - i).toNat i
theorem extL_yes {n : Int} {c : List Int} {i : Int} (h : i < n) : extL n c i = (c ++ [i]) :: extL n c (i + 1) := by
  unfold extL
  obtain ⟨m, hm⟩ : ∃ m, (n - i).toNat = m + 1 := ⟨(n - i).toNat - 1, by omega⟩
  rw [hm, show (n - (i + 1)).toNat = m by omega]
  show (if _ then _ else _) = _
  rw [if_pos h]
theorem extL_no {n : Int} {c : List Int} {i : Int} (h : ¬ i < n) : extL n c i = [] := by
  unfold extL
  rw [show (n - i).toNat = 0 by omega]
  rfl
theorem extF_len (n : Int) (c : List Int) : ∀ m i, (extF n c m i).length ≤ m
  | 0, _ => Nat.le_refl _
  | m + 1, i => by
    show (if _ then _ else _ : List (List Int)).length ≤ _
    split
    · have := extF_len n c m (i + 1); simp; omega
    · exact Nat.zero_le _
theorem extF_mem {n : Int} {c r : List Int} : ∀ m i, r ∈ extF n c m i → ∃ j, i ≤ j ∧ j < n ∧ r = c ++ [j]
  | 0, _, h => by cases h
  | m + 1, i, h => by
    have h' : r ∈ (if i < n then (c ++ [i]) :: extF n c m (i + 1) else []) := h
    split at h'
    · rename_i hi
      rcases List.mem_cons.1 h' with e | e
      · exact ⟨i, Int.le_refl _, hi, e⟩
      · obtain ⟨j, h1, h2, h3⟩ := extF_mem m (i + 1) e
        exact ⟨j, by omega, h2, h3⟩
    · cases h'
def chL (n : Int) : Nat → List (List Int)
  | 0 => [[]]
  | k + 1 => (chL n k).flatMap fun c => extL n c (frm c)
theorem frm_bd {n : Int} {c : List Int} (h : ∀ x ∈ c, 0 ≤ x ∧ x < n) (hn : 0 ≤ n) : 0 ≤ frm c ∧ frm c ≤ n := by
  unfold frm
  split
  · omega
  · rename_i h0
    have hm : c.getD (c.length - 1) 0 ∈ c := by
      have hlt : c.length - 1 < c.length := by omega
      simp [List.getD, hlt]
    have := h _ hm
    omega
theorem chL_mem {n : Int} (hn : 0 ≤ n) : ∀ k, ∀ c ∈ chL n k, c.length = k ∧ ∀ x ∈ c, 0 ≤ x ∧ x < n
  | 0, c, h => by
    have : c = [] := by simpa [chL] using h
    subst this
    exact ⟨rfl, fun x hx => by cases hx⟩
  | k + 1, c, h => by
    obtain ⟨d, hd, hc⟩ := List.mem_flatMap.1 h
    obtain ⟨h1, h2⟩ := chL_mem hn k d hd
    have hb := frm_bd h2 hn
    obtain ⟨j, h3, h4, rfl⟩ := extF_mem _ _ hc
    refine ⟨by simp [h1], fun x hx => ?_⟩
    rcases List.mem_append.1 hx with hx | hx
    · exact h2 x hx
    · have : x = j := by simpa using hx
      subst this
      omega
theorem flat_len_le {l : List (List Int)} {f : List Int → List (List Int)} {N : Nat} (h : ∀ c ∈ l, (f c).length ≤ N) : (l.flatMap f).length ≤ l.length * N := by
  induction l with
  | nil => simp
  | cons c l ih =>
    rw [List.flatMap_cons, List.length_append, List.length_cons, Nat.add_mul, Nat.one_mul]
    have h1 := h c (by simp)
    have h2 := ih (fun d hd => h d (by simp [hd]))
    omega
theorem chL_len {n : Nat} (hn : n ≤ 6) : ∀ k, (chL (n : Int) k).length ≤ 6 ^ k
  | 0 => by simp [chL]
  | k + 1 => by
    have h1 := chL_len hn k
    have h2 : ((chL (n : Int) k).flatMap fun c => extL n c (frm c)).length ≤ (chL (n : Int) k).length * 6 := flat_len_le fun c hc => by
      have hb := frm_bd (chL_mem (Int.natCast_nonneg n) k c hc).2 (Int.natCast_nonneg n)
      have := extF_len n c (n - frm c).toNat (frm c)
      unfold extL
      omega
    show ((chL (n : Int) k).flatMap fun c => extL n c (frm c)).length ≤ _
    rw [Nat.pow_succ]
    omega
/-- From block B on, the slice value v owns just these slice values. -/
def OT (w : World) (B : Nat) (v : Value) (vs : List Value) : Prop := w.ownsRow B 22 1 v vs.length vs
/-- These slice values read as these rows; each that holds something lies in a block from B on that is not v's own. -/
def Rwx (w : World) (B : Nat) (v : Value) (vs : List Value) (rs : List (List Int)) : Prop :=
  vs.length = rs.length ∧ ∀ k, k < rs.length → ∃ A m c, vs[k]? = some (.slice A m c) ∧ RI w w.heap.size A m (rs.getD k []) ∧ (0 < m → ∀ b o, A = some ⟨b, o, none⟩ → B ≤ b ∧ v.ownBlock ≠ some b)
section
variable {w w' : World} {B : Nat} {v v' : Value} {vs : List Value} {rs : List (List Int)}
theorem OT.kept {row : Option Nat} (h : OT w B v vs) (hg : w.grownBy w' row) (hne : v.ownBlock = none ∨ v.ownBlock ≠ row) : OT w' B v vs := World.ownsRow.kept h hg hne
theorem OT.alloc (h : OT w B v vs) (o : Obj) : OT (w.alloc o) B v vs := World.ownsRow.alloc h o
theorem OT.below {C : Nat} (h : OT w B v vs) (hb : Below C w w') (hC : w.heap.size ≤ C) : OT w' B v vs :=
  h.kept (row := none) ⟨hb.os, hb.tape, hb.output, hb.size, fun k hk _ => hb.block k (by omega)⟩ (by cases v.ownBlock <;> simp)
theorem OT.form (h : OT w B v vs) : (v = .slice none 0 0 ∧ vs = []) ∨ ∃ g cap, v = .slice (some ⟨g, 0, none⟩) vs.length cap ∧ B ≤ g ∧ g < w.heap.size ∧ vs.length ≤ cap ∧ cap ≤ maxLen := by
  rcases h.2 with ⟨h1, h2⟩ | ⟨g, cap, cur, h1, h2, h3, h4, h5, _⟩
  · exact .inl ⟨h1, List.eq_nil_of_length_eq_zero h2⟩
  · refine .inr ⟨g, cap, h1, h2, ?_, h4, h5⟩
    rcases Nat.lt_or_ge g w.heap.size with hlt | hge
    · exact hlt
    · rw [Array.getElem?_eq_none hge] at h3; cases h3
theorem OT.own (h : OT w B v vs) : Own v B w.heap.size := by
  intro g hg
  rcases h.form with ⟨h1, h2⟩ | ⟨g', cap', h1, h2, h3, _⟩
  · subst h1; cases hg
  · subst h1
    have e : g' = g := by simpa [Value.ownBlock] using hg
    subst e; exact ⟨h2, h3⟩
theorem OT.cell {g n cap : Nat} (h : OT w B (.slice (some ⟨g, 0, none⟩) n cap) vs) (k : Nat) (hk : k < vs.length) : w.cell? ⟨g, k, none⟩ = vs[k]? := by
  have hn : n = vs.length := by
    rcases h.2 with ⟨h1, _⟩ | ⟨g', cap', cur, h1, _⟩
    · cases h1
    · injection h1
  subst hn
  exact World.ownsRow.cellAt h k (by omega)
theorem OT.empty (w : World) (g : Nat) (hg : g = w.heap.size) {B : Nat} (hB : B ≤ w.heap.size) : OT (w.alloc (.cells #[] 22)) B (.slice (some ⟨g, 0, none⟩) 0 0) [] := by
  subst hg
  exact ⟨rfl, .inr ⟨w.heap.size, 0, #[], rfl, hB, heap_alloc_new w _, Nat.le_refl _, Nat.zero_le _, rfl, rfl⟩⟩
theorem OT.one (w : World) (y : Value) (g : Nat) (hg : g = w.heap.size) {B : Nat} (hB : B ≤ w.heap.size) : OT (w.alloc (.cells #[y] 22)) B (.slice (some ⟨g, 0, none⟩) 1 1) [y] := by
  subst hg
  exact ⟨rfl, .inr ⟨w.heap.size, 1, #[y], rfl, hB, heap_alloc_new w _, Nat.le_refl _, by unfold maxLen; omega, rfl, rfl⟩⟩
theorem OT.shape (h : OT w B v vs) : ∃ A c, v = .slice A vs.length c := by
  rcases h.form with ⟨h1, h2⟩ | ⟨g, cap, h1, _⟩
  · subst h2; exact ⟨none, 0, h1⟩
  · exact ⟨_, _, h1⟩
theorem Rwx.nil_ (w : World) (B : Nat) (v : Value) : Rwx w B v [] [] := ⟨rfl, fun k h => absurd h (Nat.not_lt_zero _)⟩
theorem Rwx.below {D : Nat} (h : Rwx w B v vs rs) (hb : Below D w w') (hD : w.heap.size ≤ D) : Rwx w' B v vs rs :=
  ⟨h.1, fun k hk => by
    obtain ⟨A, m, c, e, hr, hx⟩ := h.2 k hk
    exact ⟨A, m, c, e, (hr.below hb hD).more hb.size, hx⟩⟩
theorem Rwx.grown (h : Rwx w B v vs rs) (hg : w.grownBy w' v.ownBlock) (hat : v'.ownBlock = v.ownBlock ∨ v'.ownBlock = some w.heap.size) : Rwx w' B v' vs rs :=
  ⟨h.1, fun k hk => by
    obtain ⟨A, m, c, e, hr, hx⟩ := h.2 k hk
    refine ⟨A, m, c, e, ⟨hr.1, fun hm => ?_⟩, fun hm b o hA => ?_⟩
    · obtain ⟨b, o, hA, hb, hc⟩ := hr.2 hm
      have hne := (hx hm b o hA).2
      refine ⟨b, o, hA, by have := hg.size; omega, fun q hq => ?_⟩
      rw [World.cell?_of_block (hg.block b hb (fun e => hne e.symm))]
      exact hc q hq
    · obtain ⟨b', o', hA', hb, hc⟩ := hr.2 hm
      have e2 : b' = b := by rw [hA] at hA'; injection hA' with e3; injection e3 with e4; exact e4.symm
      subst e2
      obtain ⟨h1, h2⟩ := hx hm b' o hA
      refine ⟨h1, ?_⟩
      rcases hat with e | e
      · rw [e]; exact h2
      · rw [e]; intro e3; injection e3 with e3; omega⟩
theorem Rwx.snoc {A : Option Addr} {m c : Nat} {r : List Int} (h : Rwx w B v vs rs) (hr : RI w w.heap.size A m r) (hx : 0 < m → ∀ b o, A = some ⟨b, o, none⟩ → B ≤ b ∧ v.ownBlock ≠ some b) : Rwx w B v (vs ++ [.slice A m c]) (rs ++ [r]) := by
  refine ⟨by simp [h.1], fun k hk => ?_⟩
  have hl := h.1
  simp at hk
  by_cases hlt : k < rs.length
  · obtain ⟨A', m', c', e, hr', hx'⟩ := h.2 k hlt
    refine ⟨A', m', c', ?_, ?_, hx'⟩
    · rw [List.getElem?_append_left (by omega)]; exact e
    · rw [List.getD, List.getElem?_append_left hlt]; exact hr'
  · obtain rfl : k = rs.length := by omega
    refine ⟨A, m, c, ?_, ?_, hx⟩
    · rw [← hl]; simp
    · simpa using hr
end
theorem sl_infoT : (Try.prog.info? 22).map (fun i => (i.zero, i.size, i.bytes)) = some (some (.slice none 0 0), 1, 24) := by kernel_rfl
section
variable (w : World)
set_option maxRecDepth 100000 in
theorem wpList_append_slT {ops : Array Oper} {rest : List Oper} {o : Oper} {a : Act} {Q : Exit → Act → World → Prop} (hgd : o.guard = none) (s x : Operand)
    (ho : o.op = .call { callee := .builtin .append, args := #[s, x], argTypes := #[76, 76] })
    (B : Nat) (v : Value) (vs : List Value) (hs : a.eval s = v) (hown : OT w B v vs) (g : Nat) (y : Value) (hy : y.oneCell' = true) (hx : a.eval x = .slice (some ⟨g, 0, none⟩) 1 1) (hc : w.cell? ⟨g, 0, none⟩ = some y)
    (h63 : vs.length ≤ 100000000) (hbase : B ≤ w.heap.size)
    (h : ∀ v' w', OT w' B v' (vs ++ [y]) → w.grownBy w' v.ownBlock → (v'.ownBlock = v.ownBlock ∨ v'.ownBlock = some w.heap.size) → wpList Try.prog ops Q rest (a.put o.dst v') w') : wpList Try.prog ops Q (o :: rest) a w := by
  refine wpList_plain hgd fun _ hK => ?_
  obtain ⟨i0, hi, hz0, hz1, hz2⟩ := info_parts sl_infoT
  obtain ⟨v', w', hrun, h2, h3, _, h5⟩ := run_append_own_at (P := Try.prog) w B 76 o.type 22 i0 (.slice none 0 0) 1 24 Try.underlying76 hi hz0 hz1 hz2 rfl (by omega) v vs.length vs hown ⟨g, 0, none⟩ 1 1 [y] rfl (by
    intro j u hu
    rcases j with _ | j
    · simp at hu
      subst hu
      rw [show (⟨g, 0, none⟩ : Addr).add 0 = ⟨g, 0, none⟩ from Go.WideShapes.add_plain g 0 0, hc]
    · simp at hu) (by simp [hy]) (by unfold maxLen; omega) (by omega) hbase
  unfold Oper.wp execOp
  simp only [ho, resolve, invoke, builtin, Sem.run_bind, Sem.run_pure, Result.andThen_ok, List.map_toArray, List.map_cons, List.map_nil, hs, hx, hrun]
  exact hK _ _ (h v' w' (by
    unfold OT
    rw [List.length_append]
    exact h2) h3 h5)
end
/-- The call returned a list of rows of its own. -/
def ChR (rs : List (List Int)) (w : World) (e : Ending) (w' : World) : Prop := ∃ A n cap vs, e = .returned (.slice A n cap) ∧ OT w' w.heap.size (.slice A n cap) vs ∧ Rwx w' w.heap.size (.slice A n cap) vs rs ∧ Below w.heap.size w w'
end Go.Proofs.Ytpecjobpihinoaa

/-
  DERIVED. Several small texts in one: RowB, PlRe, DrL.
-/
import Derived.Test.YtacjonkehcamgaaZS
import Derived.Test.YtacjonkehcamgaaZ1
import Derived.Test.YtacjonkehcamgaaDrwq
import Derived.Test.YtacjonkehcamgaaRatioFromq
/-
  DERIVED. A slice of bytes that came in, read.
-/
namespace Go.Proofs.Ytacjonkehcamgaa
open Go.ChangeShapes Go.WideShapes Go.ChangeAt Go.RowKit Go.Joins
set_option linter.unusedVariables false
section
variable {H : Type} {enc : TypeId × Value → H} {P : Program}
theorem reads_bytes {w : World} {base : Nat} {spare : Nat → Bool} {held : Bool} {t e : TypeId} {fuel : Nat} {v : Value} {x : DataW H × List MemPlace}
    (ht : P.underlying t = some (.slice e)) (he : P.underlying e = some (.int .u8)) (hc : P.cellsOf e = 1) (h : DataW.trod enc P w base spare held fuel t [v] = some x)
    (hlt : ∀ p ∈ x.2, p.block < w.heap.size) :
    ∃ A n cap xs, v = .slice A n cap ∧ n ≤ cap ∧ cap ≤ maxLen ∧ RB w w.heap.size A n xs := by
  rcases open_ints ht he hc h with ⟨hcs, hx⟩ | ⟨a, len, cap, zs, hcs, hb, hl, hm, hz, hx, hcell, hwf⟩
  · injection hcs with hv
    exact ⟨none, 0, 0, [], hv, Nat.le_refl _, by unfold maxLen; omega, rfl, fun h => absurd h (by omega), fun k => by simp⟩
  · injection hcs with hv
    have hzl : len ≤ zs.length := by rw [hz]; split <;> omega
    refine ⟨some a, len, cap, zs.take len, hv, hl, hm, by simp; omega, fun hn => ?_, fun k => ?_⟩
    · obtain ⟨b, off, rfl, hc'⟩ := ints_at hcell (by omega)
      refine ⟨b, off, rfl, ?_, fun k hk => ?_⟩
      · have h0 : MemPlace.cell b off ∈ x.2 := by
          rw [hx]
          simp only [MemPlace.row, List.mem_map, List.mem_range]
          exact ⟨0, by omega, rfl⟩
        exact hlt _ h0
      · rw [hc' k (by omega)]
        simp [List.getD, hk]
    · by_cases hk : k < (zs.take len).length
      · have h1 : (zs.take len).getD k 0 ∈ zs := by
          have : (zs.take len).getD k 0 = (zs.take len)[k] := by unfold List.getD; rw [List.getElem?_eq_getElem hk]; rfl
          rw [this]
          exact List.mem_of_mem_take (List.getElem_mem hk)
        simpa [Lit.wf, IntKind.min, IntKind.max, IntKind.signed, IntKind.bits] using hwf _ h1
      · have : (zs.take len).getD k 0 = 0 := by simp [List.getD, List.getElem?_eq_none (show (zs.take len).length ≤ k by omega)]
        rw [this]; omega
end
end Go.Proofs.Ytacjonkehcamgaa

/-
  DERIVED. A ratio with small parts comes back from its residue: no program in sight.
-/
namespace Go.Proofs.Ytacjonkehcamgaa
set_option linter.unusedVariables false
theorem invOf_spec {a m : Int} (hm : 1 ≤ m) (hm2 : m ≤ 400000000) (hg : Int.gcd a m = 1) : m ∣ a * invOf a m - 1 := by
  obtain ⟨b1, b2⟩ := emod_bds a m hm
  have hs := egRes_spec (a := a % m) (b := m) (by omega) (by omega)
  have e1 := Int.emod_add_mul_ediv a m
  have hg2 : Int.gcd (a % m) m = 1 := by
    have : Int.gcd (a % m + m * (a / m)) m = Int.gcd (a % m) m := Int.gcd_add_mul_left_left _ _ _
    rw [e1] at this
    omega
  obtain ⟨-, hc, -, -⟩ := hs
  rw [hg2] at hc
  unfold invOf
  generalize (egRes (a % m) m).2.1 = x at *
  generalize (egRes (a % m) m).2.2 = y at *
  have e2 := Int.emod_add_mul_ediv x m
  refine ⟨a / m * (x % m) - a % m * (x / m) - y, ?_⟩
  have h1 : a * (x % m) = a % m * (x % m) + m * (a / m * (x % m)) := by
    conv => lhs; rw [← e1]
    grind
  have h2 : a % m * x = a % m * (x % m) + m * (a % m * (x / m)) := by
    conv => lhs; rw [← e2]
    grind
  rw [Int.mul_sub, Int.mul_sub]
  generalize m * (a / m * (x % m)) = P at *
  generalize m * (a % m * (x / m)) = Q at *
  generalize a % m * (x % m) = S at *
  generalize a % m * x = T at *
  omega
theorem resVal_yes {n d m : Int} (h : resOk n d m = true) : (1 ≤ m ∧ m ≤ 400000000) ∧ ratOk n d = true ∧ 0 ≤ resVal n d m ∧ resVal n d m < m ∧ m ∣ resVal n d m * d - n ∧ Int.gcd d m = 1 := by
  have hv : resVal n d m = (n % m * invOf d m) % m := by unfold resVal; rw [h]; rfl
  simp only [resOk, Bool.and_eq_true, decide_eq_true_eq] at h
  obtain ⟨⟨⟨h1, h2⟩, h3⟩, h4⟩ := h
  obtain ⟨b1, b2⟩ := emod_bds (n % m * invOf d m) m h2
  obtain ⟨k, hk⟩ := invOf_spec h2 h3 h4
  have e1 := Int.emod_add_mul_ediv n m
  have e2 := Int.emod_add_mul_ediv (n % m * invOf d m) m
  rw [hv]
  refine ⟨⟨h2, h3⟩, h1, b1, b2, ⟨n % m * k - (n % m * invOf d m) / m * d - n / m, ?_⟩, h4⟩
  generalize (n % m * invOf d m) / m = q at *
  have e3 : (n % m * invOf d m) % m = n % m * invOf d m - m * q := by omega
  rw [e3]
  have e4 : invOf d m * d = m * k + 1 := by rw [Int.mul_comm]; omega
  have e5 : (n % m * invOf d m - m * q) * d = n % m * (invOf d m * d) - m * (q * d) := by grind
  rw [e5, e4, Int.mul_sub, Int.mul_sub, Int.mul_add]
  have e6 : n % m * (m * k) = m * (n % m * k) := by grind
  rw [e6]
  omega
theorem resVal_img {n d m : Int} (h : resOk n d m = true) : imgOk n d (resVal n d m) m = true := by
  obtain ⟨⟨h1, h2⟩, h3, h4, h5, h6, h7⟩ := resVal_yes h
  exact (imgOk_iff _ _ _ _).2 ⟨h3, ⟨by omega, by omega⟩, ⟨h1, h2⟩, h7, Int.emod_eq_zero_of_dvd h6⟩
/-- The bound that a ratio needs. -/
def rbd (n d : Int) : Int := max 1 (max (n.natAbs : Int) d)
theorem rf_back {n d m : Int} (h : resOk n d m = true) (hb : rbd n d ≤ 20000) (h2 : 2 * rbd n d * rbd n d < m) : rfRes (resVal n d m) m (rbd n d) = some (n, d) := by
  obtain ⟨⟨k1, k2⟩, k3, k4, k5, k6, k7⟩ := resVal_yes h
  obtain ⟨j1, j2, j3, j4⟩ := ratOk_bds k3
  have r1 : 1 ≤ rbd n d ∧ (n.natAbs : Int) ≤ rbd n d ∧ d ≤ rbd n d := by unfold rbd; omega
  generalize rbd n d = b at *
  have g : RfOk (resVal n d m) m b := ⟨by omega, by omega, k1, k2, by omega, hb, h2⟩
  have hG : Good (resVal n d m) m b n d := (good_iff g n d).2 ⟨⟨j1, by omega⟩, by omega, resVal_img h⟩
  have hk : rfOkB (resVal n d m) m b = true := by
    simp only [rfOkB, Bool.and_eq_true, decide_eq_true_eq]
    exact ⟨⟨⟨⟨⟨(isNum_iff _).2 ⟨by omega, by omega⟩, k1⟩, k2⟩, by omega⟩, hb⟩, h2⟩
  unfold rfRes
  rw [if_pos hk]
  rcases hI : rfI (resVal n d m) m b b.toNat 1 with _ | r
  · exact (rfI_none g _ _ hI n d hG hG.d1 (by have := hG.d2; have := hG.d1; omega)).elim
  · have hg := rfI_some g _ _ r (by omega) (by omega) hI
    obtain ⟨e1, e2⟩ := Good.uniq g.bm hG hg
    obtain ⟨a, b⟩ := r
    dsimp only at e1 e2
    rw [e1, e2]
end Go.Proofs.Ytacjonkehcamgaa

/-
  DERIVED. Slices of ints that are drawn: moduli, right sides.
-/
namespace Go.Proofs.Ytacjonkehcamgaa
open Go.RowKit
set_option linter.unusedVariables false
set_option linter.unusedSimpArgs false
/-- What the call lays from block B0 on is a slice of at most lim ints. -/
def OIs (B0 lim : Nat) (w' : World) (v : Value) : Prop := ∃ A m c ys, v = .slice A m c ∧ OR w' B0 (.slice A m c) ys ∧ ys.length ≤ lim
theorem OIs.mk {B0 lim : Nat} {w' : World} {v : Value} {ys : List Int} (h : OR w' B0 v ys) (hl : ys.length ≤ lim) : OIs B0 lim w' v := by
  rcases h.form with ⟨h1, h2⟩ | ⟨g, cap, h1, _⟩ <;> subst h1 <;> exact ⟨_, _, _, ys, rfl, h, hl⟩
theorem CT.own {w0 w w' : World} {B b n cap : Nat} {A : Option Addr} {xs : List Int} {v : Value} {B1 : Nat} {ys : List Int} (h : CT w0 w B b n cap A xs) (hg : w.grownBy w' v.ownBlock) (ho : OR w B1 v ys) (hB : w0.heap.size ≤ B1) : CT w0 w' B b n cap A xs :=
  h.below (only_below hg (Nat.le_trans h.size (Nat.le_refl _)) fun g e => by have := (ho.own g e).1; omega) (Nat.le_refl _)
/-- The turning of the cursor keeps what is owned above it. -/
theorem OR.turned {w w' : World} {B B1 b n cap : Nat} {A : Option Addr} {xs ys : List Int} {v : Value} (h : OR w B1 v ys) (hc : CT w w' B b n cap A xs) (hb : b < B1) : OR w' B1 v ys :=
  h.kept hc.gr (.inr fun e => by have := (h.own b e).1; omega)
set_option maxRecDepth 100000 in
set_option maxHeartbeats 4000000 in
theorem spec_l8Right (b n cap : Nat) (A : Option Addr) (xs : List Int) (m : Int) (w : World) {B : Nat} (hct : CT w w B b n cap A xs) (hm : m ≤ 1000) :
    Calls Try.prog 122 #[.pointer (some ⟨b, 0, none⟩), .int .i64 m] w (DRV (OIs w.heap.size (m.toNat + 1)) B b n cap A xs w) := by
  have hsz := hct.size
  have hb := hct.hb
  go_enter Try.func122, Try.ntmps122
  go_wp2_with fail
  have ho : OR (w.alloc (.cells #[] 3)) w.heap.size (.slice (some ⟨w.heap.size, 0, none⟩) 0 0) [] := OR.empty w (Nat.le_refl _)
  go_loopw [5, 6] (fun u v wr => ∃ (k : Nat) (ys : List Int), v = .int .i64 k ∧ k ≤ m.toNat ∧ OR wr w.heap.size u ys ∧ ys.length = k ∧ CT w wr B b n cap A xs) (fun _ v _ => m.toNat - (intOf v).toNat)
  case atStart => exact ⟨0, [], rfl, by omega, ho, rfl, by (with_reducible (repeat (first | exact hct | refine CT.drew ?_ | refine CT.drewN ?_ _ | refine CT.alloc ?_ _ | refine CT.far ?_ Ks _ | refine CT.below ?_ (by assumption) Ks)))⟩
  case round =>
    clear hct ho
    obtain ⟨k, ys, rfl, hk0, ho, hl, hct⟩ := hrel
    have HL := Lib.hid hl
    have hl2 : ys.length ≤ 1000 := by omega
    clear hl
    have hsz := hct.size
    by_cases hk : (k : Int) < m
    · go_wp2_with (first | (go_at_call 200; refine (spec_l1Num b n cap A xs 9 _ (CT.self (w0 := w) (B := B) (by (with_reducible (repeat (first | exact hct | refine CT.drew ?_ | refine CT.drewN ?_ _ | refine CT.alloc ?_ _ | refine CT.far ?_ Ks _ | refine CT.below ?_ (by assumption) Ks))))) (by omega)).mono ?_; rintro e w1 ⟨v, rfl, ⟨x, rfl, hx0, hx1⟩, hc1⟩; have hct_1 : CT w w1 B b n cap A xs := CT.trans (by (with_reducible (repeat (first | exact hct | refine CT.drew ?_ | refine CT.drewN ?_ _ | refine CT.alloc ?_ _ | refine CT.far ?_ Ks _ | refine CT.below ?_ (by assumption) Ks)))) hc1; (first | have ho_1 := OR.turned ho hc1 hb | have ho_1 := OR.turned (OR.alloc ho _) hc1 hb | have ho_1 := OR.turned (OR.drew ho) hc1 hb); clear hct ho hc1; have hct := hct_1; have ho := ho_1; clear hct_1 ho_1; have hsz := hct.size) | (at_builtin; refine wpList_append_one _ rfl (.tmp 13) (.tmp 16) rfl w.heap.size _ _ rfl (ho.alloc _) _ x rfl ?f1 ?f2 ?f3 ?_; (case f1 => (simp [go_sem])); (case f2 => omega); (case f3 => (simp; omega)); intro v1 w2 hown1 hgr hat; (have hct_1 : CT w w2 B b n cap A xs := CT.own (by (with_reducible (repeat (first | exact hct | refine CT.drew ?_ | refine CT.drewN ?_ _ | refine CT.alloc ?_ _ | refine CT.far ?_ Ks _ | refine CT.below ?_ (by assumption) Ks)))) hgr (ho.alloc _) (Nat.le_refl _)); clear hct ho hgr hat; have hct := hct_1; have ho := hown1; clear hct_1 hown1; have hsz := hct.size))
      go_roundw
      case rel => exact ⟨k + 1, _, by go_num, by omega, ho, by simp [HL.out], hct⟩
      case measure => simp only [intOf]; omega
    · go_wp2_with (first | (go_at_call 170; refine (spec_l1Once b n cap A xs 24 _ (CT.self (w0 := w) (B := B) (by (with_reducible (repeat (first | exact hct | refine CT.drew ?_ | refine CT.drewN ?_ _ | refine CT.alloc ?_ _ | refine CT.far ?_ Ks _ | refine CT.below ?_ (by assumption) Ks)))))).mono ?_; rintro e w1 ⟨v, rfl, ⟨q, rfl⟩, hc1⟩; have hct_1 : CT w w1 B b n cap A xs := CT.trans (by (with_reducible (repeat (first | exact hct | refine CT.drew ?_ | refine CT.drewN ?_ _ | refine CT.alloc ?_ _ | refine CT.far ?_ Ks _ | refine CT.below ?_ (by assumption) Ks)))) hc1; (first | have ho_1 := OR.turned ho hc1 hb | have ho_1 := OR.turned (OR.alloc ho _) hc1 hb | have ho_1 := OR.turned (OR.drew ho) hc1 hb); clear hct ho hc1; have hct := hct_1; have ho := ho_1; clear hct_1 ho_1; have hsz := hct.size) | (at_builtin; refine wpList_append_one _ rfl (.tmp 20) (.tmp 21) rfl w.heap.size _ _ rfl (ho.alloc _) _ 1 rfl ?f1 ?f2 ?f3 ?_; (case f1 => (simp [go_sem])); (case f2 => omega); (case f3 => (simp; omega)); intro v1 w2 hown1 hgr hat; (have hct_1 : CT w w2 B b n cap A xs := CT.own (by (with_reducible (repeat (first | exact hct | refine CT.drew ?_ | refine CT.drewN ?_ _ | refine CT.alloc ?_ _ | refine CT.far ?_ Ks _ | refine CT.below ?_ (by assumption) Ks)))) hgr (ho.alloc _) (Nat.le_refl _)); clear hct ho hgr hat; have hct := hct_1; have ho := hown1; clear hct_1 hown1; have hsz := hct.size))
      all_goals go_ret
      all_goals exact ⟨_, rfl, OIs.mk ho (by have := HL.out; first | omega | (simp; omega)), by (with_reducible (repeat (first | exact hct | refine CT.drew ?_ | refine CT.drewN ?_ _ | refine CT.alloc ?_ _ | refine CT.far ?_ Ks _ | refine CT.below ?_ (by assumption) Ks)))⟩
end Go.Proofs.Ytacjonkehcamgaa

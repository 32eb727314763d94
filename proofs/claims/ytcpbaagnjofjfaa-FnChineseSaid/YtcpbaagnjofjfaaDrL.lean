/-
  DERIVED. Slices of ints that are drawn: moduli, right sides.
-/
import Derived.Test.YtcpbaagnjofjfaaDrw
namespace Go.Proofs.Ytcpbaagnjofjfaa
open Go.RowKit
set_option linter.unusedVariables false
set_option linter.unusedSimpArgs false
/-- What the call lays from block B0 on is a slice of at most lim ints. -/
def OIs (B0 lim : Nat) (w' : World) (v : Value) : Prop := ∃ A m c ys, v = .slice A m c ∧ OR w' B0 (.slice A m c) ys ∧ ys.length ≤ lim
theorem OIs.mk {B0 lim : Nat} {w' : World} {v : Value} {ys : List Int} (h : OR w' B0 v ys) (hl : ys.length ≤ lim) : OIs B0 lim w' v := by
  rcases h.form with ⟨h1, h2⟩ | ⟨g, cap, h1, _⟩ <;> subst h1 <;> exact ⟨_, _, _, ys, rfl, h, hl⟩
theorem CT.own {w0 w w' : World} {B b n cap : Nat} {A : Option Addr} {xs : List Int} {v : Value} {B1 : Nat} {ys : List Int} (h : CT w0 w B b n cap A xs) (hg : w.grownBy w' v.ownBlock) (ho : OR w B1 v ys) (hB : w0.heap.size ≤ B1) : CT w0 w' B b n cap A xs :=
  h.below (only_below hg (Nat.le_trans h.size (Nat.le_refl _)) fun g e => by have := (ho.own g e).1; omega) (Nat.le_refl _)
/-- The turning of the cursor keeps what is owned above it. -/
theorem OR.turned {w w' : World} {B B1 b n cap : Nat} {A : Option Addr} {xs ys : List Int} {v : Value} (h : OR w B1 v ys) (hc : CT w w' B b n cap A xs) (hb : b < B1) : OR w' B1 v ys :=
  h.kept hc.gr (.inr fun e => by have := (h.own b e).1; omega)
set_option maxRecDepth 100000 in
set_option maxHeartbeats 4000000 in
theorem spec_l9Moduli (b n cap : Nat) (A : Option Addr) (xs : List Int) (w : World) {B : Nat} (hct : CT w w B b n cap A xs) :
    Calls Try.prog 72 #[.pointer (some ⟨b, 0, none⟩)] w (DRV (OIs w.heap.size 4) B b n cap A xs w) := by
  have hsz := hct.size
  have hb := hct.hb
  go_enter Try.func72, Try.ntmps72
  go_wp2_with fail
  have ho : OR (w.alloc (.cells #[] 3)) w.heap.size (.slice (some ⟨w.heap.size, 0, none⟩) 0 0) [] := OR.empty w (Nat.le_refl _)
  go_wp2_with (go_at_call 126; refine (spec_l1Below b n cap A xs (4) _ (CT.self (w0 := w) (B := B) (by (repeat (first | (with_reducible exact hct) | (with_reducible refine CT.drew ?_) | (with_reducible refine CT.drewN ?_ _) | (with_reducible refine CT.alloc ?_ _) | (with_reducible refine CT.far ?_ (by first | omega | (simp; done) | (simp; omega)) _) | (with_reducible refine CT.below ?_ (by assumption) (by first | omega | (simp; done) | (simp; omega)))))))).mono ?_; rintro e w1 ⟨v, rfl, ⟨x, rfl, hx0, hx1⟩, hc1⟩; have hct_1 : CT w w1 B b n cap A xs := CT.trans (by (repeat (first | (with_reducible exact hct) | (with_reducible refine CT.drew ?_) | (with_reducible refine CT.drewN ?_ _) | (with_reducible refine CT.alloc ?_ _) | (with_reducible refine CT.far ?_ (by first | omega | (simp; done) | (simp; omega)) _) | (with_reducible refine CT.below ?_ (by assumption) (by first | omega | (simp; done) | (simp; omega)))))) hc1; (first | have ho_1 := OR.turned ho hc1 hb | have ho_1 := OR.turned (OR.alloc ho _) hc1 hb | have ho_1 := OR.turned (OR.drew ho) hc1 hb); clear hct ho hc1; have hct := hct_1; have ho := ho_1; clear hct_1 ho_1; have hsz := hct.size)
  go_loopw [3, 4] (fun u v wr => ∃ (k : Int) (ys : List Int), v = .int .i64 k ∧ 0 ≤ k ∧ k ≤ 3 ∧ OR wr w.heap.size u ys ∧ ys.length + k ≤ 3 ∧ CT w wr B b n cap A xs) (fun _ v _ => (intOf v).toNat)
  case atStart => exact ⟨x, [], rfl, by omega, by omega, ho, by simp; omega, hct⟩
  case round =>
    clear hct ho
    obtain ⟨k, ys, rfl, hk0, hk3, ho, hl, hct⟩ := hrel
    have hsz := hct.size
    by_cases hk : 0 < k
    · go_wp2_with (first | (go_at_call 128; refine (spec_l1PickInt b n cap A xs (some ⟨(wr.heap.size), 0, none⟩) _ _ ([2, 3, 5, 7, 9, 11, 16, 25, 101]) _ (B2 := (wr.heap.size) + 1) (CT.self (w0 := w) (B := B) (by (repeat (first | (with_reducible exact hct) | (with_reducible refine CT.drew ?_) | (with_reducible refine CT.drewN ?_ _) | (with_reducible refine CT.alloc ?_ _) | (with_reducible refine CT.far ?_ (by first | omega | (simp; done) | (simp; omega)) _) | (with_reducible refine CT.below ?_ (by assumption) (by first | omega | (simp; done) | (simp; omega))))))) ?h2 ?h3 ?h4 ?h5 ?h6).mono ?h7; (case h2 => (exact (RI.lit (Blk.new _ _ _)))); (case h3 => (exact (by first | omega | (simp; done) | (simp; omega)))); (case h4 => (exact (not_at (by first | omega | (simp; done) | (simp; omega))))); (case h5 => decide); (case h6 => decide); rintro e w1 ⟨v, rfl, ⟨x, rfl, hx0⟩, hc1⟩; have hct_1 : CT w w1 B b n cap A xs := CT.trans (by (repeat (first | (with_reducible exact hct) | (with_reducible refine CT.drew ?_) | (with_reducible refine CT.drewN ?_ _) | (with_reducible refine CT.alloc ?_ _) | (with_reducible refine CT.far ?_ (by first | omega | (simp; done) | (simp; omega)) _) | (with_reducible refine CT.below ?_ (by assumption) (by first | omega | (simp; done) | (simp; omega)))))) hc1; (first | have ho_1 := OR.turned ho hc1 hb | have ho_1 := OR.turned (OR.alloc ho _) hc1 hb | have ho_1 := OR.turned (OR.drew ho) hc1 hb); clear hct ho hc1; have hct := hct_1; have ho := ho_1; clear hct_1 ho_1; have hsz := hct.size) | (at_builtin; refine wpList_append_one _ rfl (.tmp 12) (.tmp 16) rfl w.heap.size _ _ rfl (ho.alloc _) _ x rfl ?f1 ?f2 ?f3 ?_; (case f1 => (simp [go_sem])); (case f2 => omega); (case f3 => (simp; omega)); intro v1 w2 hown1 hgr hat; (have hct_1 : CT w w2 B b n cap A xs := CT.own (by (repeat (first | (with_reducible exact hct) | (with_reducible refine CT.drew ?_) | (with_reducible refine CT.drewN ?_ _) | (with_reducible refine CT.alloc ?_ _) | (with_reducible refine CT.far ?_ (by first | omega | (simp; done) | (simp; omega)) _) | (with_reducible refine CT.below ?_ (by assumption) (by first | omega | (simp; done) | (simp; omega)))))) hgr (ho.alloc _) (Nat.le_refl _)); clear hct ho hgr hat; have hct := hct_1; have ho := hown1; clear hct_1 hown1; have hsz := hct.size))
      go_roundw
      case rel => exact ⟨k - 1, _, by go_num, by omega, by omega, ho, by simp; omega, hct⟩
      case measure => simp only [intOf]; omega
    · go_wp2_with (first | (go_at_call 131; refine (spec_l1Once b n cap A xs 14 _ (CT.self (w0 := w) (B := B) (by (repeat (first | (with_reducible exact hct) | (with_reducible refine CT.drew ?_) | (with_reducible refine CT.drewN ?_ _) | (with_reducible refine CT.alloc ?_ _) | (with_reducible refine CT.far ?_ (by first | omega | (simp; done) | (simp; omega)) _) | (with_reducible refine CT.below ?_ (by assumption) (by first | omega | (simp; done) | (simp; omega)))))))).mono ?_; rintro e w1 ⟨v, rfl, ⟨q, rfl⟩, hc1⟩; have hct_1 : CT w w1 B b n cap A xs := CT.trans (by (repeat (first | (with_reducible exact hct) | (with_reducible refine CT.drew ?_) | (with_reducible refine CT.drewN ?_ _) | (with_reducible refine CT.alloc ?_ _) | (with_reducible refine CT.far ?_ (by first | omega | (simp; done) | (simp; omega)) _) | (with_reducible refine CT.below ?_ (by assumption) (by first | omega | (simp; done) | (simp; omega)))))) hc1; (first | have ho_1 := OR.turned ho hc1 hb | have ho_1 := OR.turned (OR.alloc ho _) hc1 hb | have ho_1 := OR.turned (OR.drew ho) hc1 hb); clear hct ho hc1; have hct := hct_1; have ho := ho_1; clear hct_1 ho_1; have hsz := hct.size) | (go_at_call 127; refine (spec_l1Odd b n cap A xs _ (CT.self (w0 := w) (B := B) (by (repeat (first | (with_reducible exact hct) | (with_reducible refine CT.drew ?_) | (with_reducible refine CT.drewN ?_ _) | (with_reducible refine CT.alloc ?_ _) | (with_reducible refine CT.far ?_ (by first | omega | (simp; done) | (simp; omega)) _) | (with_reducible refine CT.below ?_ (by assumption) (by first | omega | (simp; done) | (simp; omega)))))))).mono ?_; rintro e w1 ⟨v, rfl, ⟨x, rfl, hx0, hx1⟩, hc1⟩; have hct_1 : CT w w1 B b n cap A xs := CT.trans (by (repeat (first | (with_reducible exact hct) | (with_reducible refine CT.drew ?_) | (with_reducible refine CT.drewN ?_ _) | (with_reducible refine CT.alloc ?_ _) | (with_reducible refine CT.far ?_ (by first | omega | (simp; done) | (simp; omega)) _) | (with_reducible refine CT.below ?_ (by assumption) (by first | omega | (simp; done) | (simp; omega)))))) hc1; (first | have ho_1 := OR.turned ho hc1 hb | have ho_1 := OR.turned (OR.alloc ho _) hc1 hb | have ho_1 := OR.turned (OR.drew ho) hc1 hb); clear hct ho hc1; have hct := hct_1; have ho := ho_1; clear hct_1 ho_1; have hsz := hct.size) | (at_builtin; refine wpList_append_one _ rfl (.tmp 20) (.tmp 23) rfl w.heap.size _ _ rfl (ho.alloc _) _ x rfl ?f1 ?f2 ?f3 ?_; (case f1 => (simp [go_sem])); (case f2 => omega); (case f3 => (simp; omega)); intro v1 w2 hown1 hgr hat; (have hct_1 : CT w w2 B b n cap A xs := CT.own (by (repeat (first | (with_reducible exact hct) | (with_reducible refine CT.drew ?_) | (with_reducible refine CT.drewN ?_ _) | (with_reducible refine CT.alloc ?_ _) | (with_reducible refine CT.far ?_ (by first | omega | (simp; done) | (simp; omega)) _) | (with_reducible refine CT.below ?_ (by assumption) (by first | omega | (simp; done) | (simp; omega)))))) hgr (ho.alloc _) (Nat.le_refl _)); clear hct ho hgr hat; have hct := hct_1; have ho := hown1; clear hct_1 hown1; have hsz := hct.size))
      all_goals go_ret
      all_goals exact ⟨_, rfl, OIs.mk ho (by first | omega | (simp; omega)), by (repeat (first | (with_reducible exact hct) | (with_reducible refine CT.drew ?_) | (with_reducible refine CT.drewN ?_ _) | (with_reducible refine CT.alloc ?_ _) | (with_reducible refine CT.far ?_ (by first | omega | (simp; done) | (simp; omega)) _) | (with_reducible refine CT.below ?_ (by assumption) (by first | omega | (simp; done) | (simp; omega)))))⟩
set_option maxRecDepth 100000 in
set_option maxHeartbeats 4000000 in
theorem spec_l8Right (b n cap : Nat) (A : Option Addr) (xs : List Int) (m : Int) (w : World) {B : Nat} (hct : CT w w B b n cap A xs) (hm : m ≤ 1000) :
    Calls Try.prog 73 #[.pointer (some ⟨b, 0, none⟩), .int .i64 m] w (DRV (OIs w.heap.size (m.toNat + 1)) B b n cap A xs w) := by
  have hsz := hct.size
  have hb := hct.hb
  go_enter Try.func73, Try.ntmps73
  go_wp2_with fail
  have ho : OR (w.alloc (.cells #[] 3)) w.heap.size (.slice (some ⟨w.heap.size, 0, none⟩) 0 0) [] := OR.empty w (Nat.le_refl _)
  go_loopw [5, 6] (fun u v wr => ∃ (k : Nat) (ys : List Int), v = .int .i64 k ∧ k ≤ m.toNat ∧ OR wr w.heap.size u ys ∧ ys.length = k ∧ CT w wr B b n cap A xs) (fun _ v _ => m.toNat - (intOf v).toNat)
  case atStart => exact ⟨0, [], rfl, by omega, ho, rfl, by (repeat (first | (with_reducible exact hct) | (with_reducible refine CT.drew ?_) | (with_reducible refine CT.drewN ?_ _) | (with_reducible refine CT.alloc ?_ _) | (with_reducible refine CT.far ?_ (by first | omega | (simp; done) | (simp; omega)) _) | (with_reducible refine CT.below ?_ (by assumption) (by first | omega | (simp; done) | (simp; omega)))))⟩
  case round =>
    clear hct ho
    obtain ⟨k, ys, rfl, hk0, ho, hl, hct⟩ := hrel
    have HL := Lib.hid hl
    have hl2 : ys.length ≤ 1000 := by omega
    clear hl
    have hsz := hct.size
    by_cases hk : (k : Int) < m
    · go_wp2_with (first | (go_at_call 132; refine (spec_l1Num b n cap A xs 9 _ (CT.self (w0 := w) (B := B) (by (repeat (first | (with_reducible exact hct) | (with_reducible refine CT.drew ?_) | (with_reducible refine CT.drewN ?_ _) | (with_reducible refine CT.alloc ?_ _) | (with_reducible refine CT.far ?_ (by first | omega | (simp; done) | (simp; omega)) _) | (with_reducible refine CT.below ?_ (by assumption) (by first | omega | (simp; done) | (simp; omega))))))) (by omega)).mono ?_; rintro e w1 ⟨v, rfl, ⟨x, rfl, hx0, hx1⟩, hc1⟩; have hct_1 : CT w w1 B b n cap A xs := CT.trans (by (repeat (first | (with_reducible exact hct) | (with_reducible refine CT.drew ?_) | (with_reducible refine CT.drewN ?_ _) | (with_reducible refine CT.alloc ?_ _) | (with_reducible refine CT.far ?_ (by first | omega | (simp; done) | (simp; omega)) _) | (with_reducible refine CT.below ?_ (by assumption) (by first | omega | (simp; done) | (simp; omega)))))) hc1; (first | have ho_1 := OR.turned ho hc1 hb | have ho_1 := OR.turned (OR.alloc ho _) hc1 hb | have ho_1 := OR.turned (OR.drew ho) hc1 hb); clear hct ho hc1; have hct := hct_1; have ho := ho_1; clear hct_1 ho_1; have hsz := hct.size) | (at_builtin; refine wpList_append_one _ rfl (.tmp 13) (.tmp 16) rfl w.heap.size _ _ rfl (ho.alloc _) _ x rfl ?f1 ?f2 ?f3 ?_; (case f1 => (simp [go_sem])); (case f2 => omega); (case f3 => (simp; omega)); intro v1 w2 hown1 hgr hat; (have hct_1 : CT w w2 B b n cap A xs := CT.own (by (repeat (first | (with_reducible exact hct) | (with_reducible refine CT.drew ?_) | (with_reducible refine CT.drewN ?_ _) | (with_reducible refine CT.alloc ?_ _) | (with_reducible refine CT.far ?_ (by first | omega | (simp; done) | (simp; omega)) _) | (with_reducible refine CT.below ?_ (by assumption) (by first | omega | (simp; done) | (simp; omega)))))) hgr (ho.alloc _) (Nat.le_refl _)); clear hct ho hgr hat; have hct := hct_1; have ho := hown1; clear hct_1 hown1; have hsz := hct.size))
      go_roundw
      case rel => exact ⟨k + 1, _, by go_num, by omega, ho, by simp [HL.out], hct⟩
      case measure => simp only [intOf]; omega
    · go_wp2_with (first | (go_at_call 131; refine (spec_l1Once b n cap A xs 24 _ (CT.self (w0 := w) (B := B) (by (repeat (first | (with_reducible exact hct) | (with_reducible refine CT.drew ?_) | (with_reducible refine CT.drewN ?_ _) | (with_reducible refine CT.alloc ?_ _) | (with_reducible refine CT.far ?_ (by first | omega | (simp; done) | (simp; omega)) _) | (with_reducible refine CT.below ?_ (by assumption) (by first | omega | (simp; done) | (simp; omega)))))))).mono ?_; rintro e w1 ⟨v, rfl, ⟨q, rfl⟩, hc1⟩; have hct_1 : CT w w1 B b n cap A xs := CT.trans (by (repeat (first | (with_reducible exact hct) | (with_reducible refine CT.drew ?_) | (with_reducible refine CT.drewN ?_ _) | (with_reducible refine CT.alloc ?_ _) | (with_reducible refine CT.far ?_ (by first | omega | (simp; done) | (simp; omega)) _) | (with_reducible refine CT.below ?_ (by assumption) (by first | omega | (simp; done) | (simp; omega)))))) hc1; (first | have ho_1 := OR.turned ho hc1 hb | have ho_1 := OR.turned (OR.alloc ho _) hc1 hb | have ho_1 := OR.turned (OR.drew ho) hc1 hb); clear hct ho hc1; have hct := hct_1; have ho := ho_1; clear hct_1 ho_1; have hsz := hct.size) | (at_builtin; refine wpList_append_one _ rfl (.tmp 20) (.tmp 21) rfl w.heap.size _ _ rfl (ho.alloc _) _ 1 rfl ?f1 ?f2 ?f3 ?_; (case f1 => (simp [go_sem])); (case f2 => omega); (case f3 => (simp; omega)); intro v1 w2 hown1 hgr hat; (have hct_1 : CT w w2 B b n cap A xs := CT.own (by (repeat (first | (with_reducible exact hct) | (with_reducible refine CT.drew ?_) | (with_reducible refine CT.drewN ?_ _) | (with_reducible refine CT.alloc ?_ _) | (with_reducible refine CT.far ?_ (by first | omega | (simp; done) | (simp; omega)) _) | (with_reducible refine CT.below ?_ (by assumption) (by first | omega | (simp; done) | (simp; omega)))))) hgr (ho.alloc _) (Nat.le_refl _)); clear hct ho hgr hat; have hct := hct_1; have ho := hown1; clear hct_1 hown1; have hsz := hct.size))
      all_goals go_ret
      all_goals exact ⟨_, rfl, OIs.mk ho (by have := HL.out; first | omega | (simp; omega)), by (repeat (first | (with_reducible exact hct) | (with_reducible refine CT.drew ?_) | (with_reducible refine CT.drewN ?_ _) | (with_reducible refine CT.alloc ?_ _) | (with_reducible refine CT.far ?_ (by first | omega | (simp; done) | (simp; omega)) _) | (with_reducible refine CT.below ?_ (by assumption) (by first | omega | (simp; done) | (simp; omega)))))⟩
set_option maxRecDepth 100000 in
set_option maxHeartbeats 4000000 in
theorem spec_DrawChineseOf (n cap : Nat) (A : Option Addr) (xs : List Int) (wo : World) (hby : RB wo wo.heap.size A n xs) (hn : n ≤ 2000000) :
    Calls Try.prog 20 #[.slice A n cap] wo (fun e w' => ∃ A1 n1 c1 rs A2 n2 c2 ms, e = .returned (.tuple #[.slice A1 n1 c1, .slice A2 n2 c2]) ∧ OR w' wo.heap.size (.slice A1 n1 c1) rs ∧ OR w' wo.heap.size (.slice A2 n2 c2) ms ∧ rs.length ≤ 5 ∧ ms.length ≤ 4 ∧ Below wo.heap.size wo w') := by
  have HBY := Lib.hid hby
  clear hby
  go_enter Try.func20, Try.ntmps20
  go_wp2_with fail
  refine (spec_l1New n cap A xs _ (B := wo.heap.size) (by (repeat (first | (with_reducible exact HBY.out) | (with_reducible refine RB.drew ?_) | (with_reducible refine RB.drewN ?_ _) | (with_reducible refine RB.alloc ?_ (by first | omega | (simp; done) | (simp; omega)) _) | (with_reducible refine RB.setCell ?_ (by first | omega | (simp; done) | (simp; omega)) _) | (with_reducible refine RB.below ?_ (by assumption) (by first | omega | (simp; done) | (simp; omega)))))) hn).mono ?_; rintro e w ⟨b, rfl, hcu, hbs, hb2⟩; have hsz2 := hb2.size; (try simp at hsz2 hbs)
  have hct : CT w w wo.heap.size b n cap A xs := CT.new hcu (by (repeat (first | (with_reducible exact HBY.out) | (with_reducible refine RB.drew ?_) | (with_reducible refine RB.drewN ?_ _) | (with_reducible refine RB.alloc ?_ (by first | omega | (simp; done) | (simp; omega)) _) | (with_reducible refine RB.setCell ?_ (by first | omega | (simp; done) | (simp; omega)) _) | (with_reducible refine RB.below ?_ (by assumption) (by first | omega | (simp; done) | (simp; omega)))))) (by omega) hn
  have HB0 : Hid (Below wo.heap.size wo w) := Lib.hid (by (repeat (first | (with_reducible exact Below.refl _ _) | (with_reducible assumption) | (with_reducible refine below_drewN ?_ _) | (with_reducible refine Below.drew ?_) | (with_reducible refine Below.alloc ?_ ?_ _) | (with_reducible refine Below.setCell ?_ ?_ _) | (with_reducible refine below_into ?_ (by assumption) (by first | omega | (simp; done) | (simp; omega))) | go_size)))
  have hb := hct.hb
  clear hb2 hcu
  go_wp2_with fail
  refine (spec_l9Moduli b n cap A xs _ (CT.self (w0 := w) (B := wo.heap.size) (by (repeat (first | (with_reducible exact hct) | (with_reducible refine CT.drew ?_) | (with_reducible refine CT.drewN ?_ _) | (with_reducible refine CT.alloc ?_ _) | (with_reducible refine CT.far ?_ (by first | omega | (simp; done) | (simp; omega)) _) | (with_reducible refine CT.below ?_ (by assumption) (by first | omega | (simp; done) | (simp; omega)))))))).mono ?_
  rintro e w1 ⟨v, rfl, ⟨A2, m2, c2, ms, rfl, ho, hl2⟩, hc1⟩
  have hm2 := ho.lenEq
  have hct_1 : CT w w1 wo.heap.size b n cap A xs := CT.trans (by (repeat (first | (with_reducible exact hct) | (with_reducible refine CT.drew ?_) | (with_reducible refine CT.drewN ?_ _) | (with_reducible refine CT.alloc ?_ _) | (with_reducible refine CT.far ?_ (by first | omega | (simp; done) | (simp; omega)) _) | (with_reducible refine CT.below ?_ (by assumption) (by first | omega | (simp; done) | (simp; omega)))))) hc1
  clear hct hc1
  have hct := hct_1
  clear hct_1
  have hsz := hct.size
  have hm4 : m2 ≤ 4 := by omega
  have HM := Lib.hid hm2
  clear hm2
  go_wp2_with fail
  refine (spec_l8Right b n cap A xs m2 _ (CT.self (w0 := w) (B := wo.heap.size) (by (repeat (first | (with_reducible exact hct) | (with_reducible refine CT.drew ?_) | (with_reducible refine CT.drewN ?_ _) | (with_reducible refine CT.alloc ?_ _) | (with_reducible refine CT.far ?_ (by first | omega | (simp; done) | (simp; omega)) _) | (with_reducible refine CT.below ?_ (by assumption) (by first | omega | (simp; done) | (simp; omega))))))) (by omega)).mono ?_
  rintro e w2 ⟨v, rfl, ⟨A1, m1, c1, rs, rfl, ho1, hl1⟩, hc1⟩
  have ho2 := OR.turned ho hc1 hb
  have hct_1 : CT w w2 wo.heap.size b n cap A xs := CT.trans (by (repeat (first | (with_reducible exact hct) | (with_reducible refine CT.drew ?_) | (with_reducible refine CT.drewN ?_ _) | (with_reducible refine CT.alloc ?_ _) | (with_reducible refine CT.far ?_ (by first | omega | (simp; done) | (simp; omega)) _) | (with_reducible refine CT.below ?_ (by assumption) (by first | omega | (simp; done) | (simp; omega)))))) hc1
  have hu := CT.under (D := wo.heap.size) hct_1 (by omega)
  go_wp2
  go_ret2
  exact ⟨_, _, _, rs, _, _, _, ms, rfl, ho1.mono (by omega), ho2.mono (by omega), by omega, by omega, HB0.out.trans hu⟩
end Go.Proofs.Ytcpbaagnjofjfaa

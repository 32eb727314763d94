/-
  DERIVED. The contract of l3Copy.
-/
import Derived.Test.YtlggfmfelakadaaAppend
import Derived.Test.YtlggfmfelakadaaCopy
import Derived.Deep.RegionLaw
namespace Go.Proofs.Ytlggfmfelakadaa
open Go.RowKit
set_option linter.unusedVariables false
set_option maxHeartbeats 4000000 in
theorem spec_l3Copy (r c : Int) (A : Option Addr) (n cap : Nat) (xs : List Int) (w : World) {B : Nat} (h : RI w B A n xs) (hB : B ≤ w.heap.size) (hn : n ≤ 1048576) :
    Calls Try.prog 118 #[.agg #[.int .i64 r, .int .i64 c, .slice A n cap]] w (MV r c xs w) := by
  have H2 := Lib.hid (h.more hB)
  clear h
  go_enter Try.func118, Try.ntmps118
  go_wp2
  go_region_held3 (fun w' => w'.cell? ⟨w.heap.size, 0, none⟩ = some (.int .i64 r) ∧ w'.cell? ⟨w.heap.size, 1, none⟩ = some (.int .i64 c) ∧ w'.cell? ⟨w.heap.size, 2, none⟩ = some (.slice A n cap)) (first | go_keep | exact ⟨k00, k01, k02⟩) ((refine step_append_ints _ rfl (.tmp 7) (.tmp 9) rfl (w.heap.size + 1 + 1) _ [] rfl (by exact OR.drew (OR.empty' _ (w.heap.size + 1 + 1) (by simp) (by first | omega | (simp; done) | (simp; omega)))) w.heap.size A n cap xs rfl (by (repeat (first | (with_reducible exact H2.out) | (with_reducible refine RI.drew ?_) | (with_reducible refine RI.drewN ?_ _) | (with_reducible refine RI.alloc ?_ (by first | omega | (simp; done) | (simp; omega)) _) | (with_reducible refine RI.setCell ?_ (by first | omega | (simp; done) | (simp; omega)) _) | (with_reducible refine RI.below ?_ (by assumption) (by first | omega | (simp; done) | (simp; omega)))))) (by first | omega | (simp; omega)) (by exact (by first | omega | (simp; done) | (simp; omega))) ?_; intro v1 w1 hown hgr hat; simp only [List.nil_append] at hown; go_loud (obtain ⟨g, cap1, rfl, hg1, hg2⟩ := hown.notNil hat); go_loud (have hb1 : Below (w.heap.size + 1 + 1) _ w1 := only_below hgr (by first | omega | (simp; done) | (simp; omega)) (by intro g h; cases h; exact Nat.le_refl _)); obtain ⟨k0, f0, l0⟩ := bkeepB w.heap.size hb1 (by omega) (by first | omega | (simp; done) | (simp; omega)); obtain ⟨k1, f1, l1⟩ := bkeepB (w.heap.size + 1) hb1 (by omega) (by first | omega | (simp; done) | (simp; omega)); clear hgr hat; have k00 : w1.cell? ⟨w.heap.size, 0, none⟩ = some (.int .i64 r) := (k0 _).trans (by first | rfl | (simp [go_sem]; done)); have k01 : w1.cell? ⟨w.heap.size, 1, none⟩ = some (.int .i64 c) := (k0 _).trans (by first | rfl | (simp [go_sem]; done)); have k02 : w1.cell? ⟨w.heap.size, 2, none⟩ = some (.slice A n cap) := (k0 _).trans (by first | rfl | (simp [go_sem]; done)); have k10 : w1.cell? ⟨w.heap.size + 1, 0, none⟩ = some (.int .i64 0) := (k1 _).trans (by first | rfl | (simp [go_sem]; done)); have k11 : w1.cell? ⟨w.heap.size + 1, 1, none⟩ = some (.int .i64 0) := (k1 _).trans (by first | rfl | (simp [go_sem]; done)); have k12 : w1.cell? ⟨w.heap.size + 1, 2, none⟩ = some (.slice none 0 0) := (k1 _).trans (by first | rfl | (simp [go_sem]; done)); clear k0 k1))
  all_goals go_wp2
  all_goals (
    have hbw : Below w.heap.size w w1 := by
      refine Below.trans ?_ (hb1.mono (by omega))
      (repeat (first | (with_reducible exact Below.refl _ _) | (with_reducible assumption) | (with_reducible refine below_drewN ?_ _) | (with_reducible refine Below.drew ?_) | (with_reducible refine Below.alloc ?_ ?_ _) | (with_reducible refine Below.setCell ?_ ?_ _) | (with_reducible refine below_into ?_ (by assumption) (by first | omega | (simp; done) | (simp; omega))) | go_size))
    refine bodyPost_ret (v := .agg #[.int .i64 r, .int .i64 c, .slice (some ⟨g, 0, none⟩) xs.length cap1]) (by simp [results, Try.results118, go_sem, k10, k11, k12]) rfl ?_
    refine ⟨some ⟨g, 0, none⟩, _, cap1, rfl, rfl, OR.mono (B := w.heap.size + 1 + 1) ?_ (by omega), by (repeat (first | (with_reducible exact Below.refl _ _) | (with_reducible assumption) | (with_reducible refine below_drewN ?_ _) | (with_reducible refine Below.drew ?_) | (with_reducible refine Below.alloc ?_ ?_ _) | (with_reducible refine Below.setCell ?_ ?_ _) | (with_reducible refine below_into ?_ (by assumption) (by first | omega | (simp; done) | (simp; omega))) | go_size))⟩
    have hown' : OR w1 (w.heap.size + 1 + 1) (.slice (some ⟨g, 0, none⟩) xs.length cap1) xs := by simpa using hown
    (repeat (first | (with_reducible exact hown') | (with_reducible refine OR.drew ?_) | (with_reducible refine OR.drewN ?_ _) | (with_reducible refine OR.alloc ?_ _) | (with_reducible refine OR.below ?_ (by assumption) (by first | omega | (simp; done) | (simp; omega))) | (with_reducible refine OR.low ?_ (by first | omega | (simp only []; omega) | (simp; omega)) _)))
  )
end Go.Proofs.Ytlggfmfelakadaa

/-
  DERIVED. Several small texts in one: PlSf, PlRn, PlLb, PlSm.
-/
import Derived.Test.YtlggfmfelakadaaU3
import Derived.Test.YtlggfmfelakadaaU4
/-
  DERIVED. What stays under all operations of the Smith form; u m v = d, and u takes only zeros to zeros: no program in sight.
-/
namespace Go.Proofs.Ytlggfmfelakadaa
set_option linter.unusedVariables false
/-- A property that stays under the operations. -/
structure Stays (R C t0 : Nat) (P : SS → Prop) : Prop where
  radd : ∀ (s : SS) (i j : Nat) (t : Int), i < R → j < R → t0 ≤ i → t0 ≤ j → i ≠ j → SGD R C s → (s.wr (s.row.add i j t)).OK R C → P s → P (s.wr (s.row.add i j t))
  rswap : ∀ (s : SS) (i j : Nat), i < R → j < R → t0 ≤ i → t0 ≤ j → i ≠ j → SGD R C s → P s → P (s.wr (s.row.swap i j))
  rneg : ∀ (s : SS) (i : Nat), i < R → t0 ≤ i → SGD R C s → P s → P (s.wr (s.row.neg i))
  cadd : ∀ (s : SS) (i j : Nat) (t : Int), i < C → j < C → t0 ≤ i → t0 ≤ j → i ≠ j → SGD R C s → (s.wc (s.col.add i j t)).OK R C → P s → P (s.wc (s.col.add i j t))
  cswap : ∀ (s : SS) (i j : Nat), i < C → j < C → t0 ≤ i → t0 ≤ j → i ≠ j → SGD R C s → P s → P (s.wc (s.col.swap i j))
section
variable {R C t : Nat} {P : SS → Prop} {s : SS}
theorem Stays.b (H : Stays R C t P) (h : SGD R C s) (hP : P s) (ht : t < R) : ∀ n, t + n ≤ R → (s.wr (swS t t t s.row n)).OK R C → P (s.wr (swS t t t s.row n))
  | 0, _, _ => hP
  | n + 1, hn, hk => by
    have hk' : (s.wr (swS t t t s.row n)).OK R C := by
      have h1 := swS_back (R := R) (C := C) h.row.nb hk.ofRow
      exact ⟨h1.f, h1.g, hk.h⟩
    have ih := H.b h hP ht n (by omega) hk'
    rw [swS_succ] at hk ⊢
    split
    · rename_i hc
      rw [if_pos hc] at hk
      have hg : SGD R C (s.wr (swS t t t s.row n)) := ⟨hk', h.nb.wr (swS_nb h.row.nb n)⟩
      exact H.radd (s.wr (swS t t t s.row n)) (t + n) t _ (by omega) ht (by omega) (Nat.le_refl _) hc.1 hg hk ih
    · exact ih
theorem Stays.c (H : Stays R C t P) (h : SGD R C s) (hP : P s) (ht : t < C) : ∀ n, t + n ≤ C → (s.wc (swS t t t s.col n)).OK R C → P (s.wc (swS t t t s.col n))
  | 0, _, _ => hP
  | n + 1, hn, hk => by
    have hk' : (s.wc (swS t t t s.col n)).OK R C := by
      have h1 := swS_back (R := C) (C := R) h.col.nb hk.ofCol
      exact ⟨tp_ok h1.f, hk.g, tp_ok h1.g⟩
    have ih := H.c h hP ht n (by omega) hk'
    rw [swS_succ] at hk ⊢
    split
    · rename_i hc
      rw [if_pos hc] at hk
      have hg : SGD R C (s.wc (swS t t t s.col n)) := ⟨hk', h.nb.wc (swS_nb h.col.nb n)⟩
      exact H.cadd (s.wc (swS t t t s.col n)) (t + n) t _ (by omega) ht (by omega) (Nat.le_refl _) hc.1 hg hk ih
    · exact ih
theorem Stays.a1 (H : Stays R C t P) {r : Nat} (h : SGD R C s) (hP : P s) (hr : r < R) (hr0 : t ≤ r) (ht : t < R) : P (sfA1 t r s) := by
  unfold sfA1
  split
  · exact hP
  · rename_i hne
    exact H.rswap s r t hr ht hr0 (Nat.le_refl _) hne h hP
theorem Stays.a2 (H : Stays R C t P) {c : Nat} (h : SGD R C s) (hP : P s) (hc : c < C) (hc0 : t ≤ c) (ht : t < C) : P (sfA2 t c s) := by
  unfold sfA2
  split
  · exact hP
  · rename_i hne
    exact H.cswap s c t hc ht hc0 (Nat.le_refl _) hne h hP
theorem Stays.rnd (H : Stays R C t P) {p q : Nat} (h : SGD R C s) (hP : P s) (e : ls2 R C s.f t = ((p : Int), (q : Int))) (hp0 : t ≤ p) (hp : p < R) (hq0 : t ≤ q) (hq : q < C) (ht : t < R) (htC : t < C) (hk : (rnd R C t s).1.OK R C) : P (rnd R C t s).1 := by
  have eA : sfA R C t s = sfA2 t q (sfA1 t p s) := by unfold sfA; rw [e]; rfl
  have hA : SGD R C (sfA R C t s) := by rw [eA]; exact (h.a1 hp ht).a2 hq htC
  have pA : P (sfA R C t s) := by rw [eA]; exact H.a2 (h.a1 hp ht) (H.a1 h hP hp hp0 ht) hq hq0 htC
  obtain ⟨hB, hC⟩ := rnd_back hA.nb hk
  have gB : SGD R C (sfB R t (sfA R C t s)) := ⟨hB, sfB_nb hA.nb⟩
  have pB : P (sfB R t (sfA R C t s)) := H.b hA pA ht (R - t) (by omega) hB
  have gC : SGD R C (sfC C t (sfB R t (sfA R C t s))) := ⟨hC, sfC_nb gB.nb⟩
  have pC : P (sfC C t (sfB R t (sfA R C t s))) := H.c gB pB htC (C - t) (by omega) hC
  unfold Go.Proofs.Ytlggfmfelakadaa.rnd at hk ⊢
  generalize sfC C t (sfB R t (sfA R C t s)) = s2 at *
  unfold sfD at hk ⊢
  split
  · rename_i hcl
    rw [if_pos hcl] at hk
    rcases hf : fd R C t s2.f with _ | i
    · exact pC
    · rw [hf] at hk
      obtain ⟨i1, i2, i3⟩ := fd_some hf
      exact H.radd s2 t i 1 ht i2 (Nat.le_refl _) (by omega) (by omega) gC hk pC
  · exact pC
theorem Stays.in_ (H : Stays R C t P) (ht : t < R) (htC : t < C) : ∀ (k : Nat) (s : SS), sfMs R C t s ≤ k → SGD R C s → P s → ¬ (ls2 R C s.f t).1 < 0 → ∀ s', sfIn R C t s = some s' → P s' := by
  intro k
  induction k with
  | zero =>
    intro s hk hg hP hn s' he
    rcases ls2_cases R C s.f t with ⟨e, _⟩ | ⟨p, q, e, ⟨a1, a2, a3, a4⟩, h3, h4, h5⟩
    · rw [e] at hn; exact absurd (by decide) hn
    · have hV : lsV R C t s = (s.f p q).natAbs := by unfold lsV; rw [e]; rfl
      unfold sfMs at hk
      omega
  | succ k ih =>
    intro s hk hg hP hn s' he
    rcases ls2_cases R C s.f t with ⟨e, _⟩ | ⟨p, q, e, ⟨a1, a2, a3, a4⟩, h3, h4, h5⟩
    · rw [e] at hn; exact absurd (by decide) hn
    · rw [sfIn] at he
      have hA : SGD R C (sfA R C t s) := by
        unfold sfA
        rw [e]
        exact (hg.a1 a2 ht).a2 a4 htC
      have hnb : (Go.Proofs.Ytlggfmfelakadaa.rnd R C t s).1.NBS := sfD_nb (sfC_nb (sfB_nb hA.nb))
      split at he
      · rename_i hok
        have hk' := (SS.ok_iff hnb).1 hok
        have hP' := H.rnd hg hP e a1 a2 a3 a4 ht htC hk'
        split at he
        · cases he
          exact hP'
        · rename_i hd
          split at he
          · rename_i hlt
            obtain ⟨_, hne⟩ := rnd_lt hg ht htC e a2 a4 h3 (h5 ht htC) hk' (by simpa using hd)
            refine ih _ (by omega) (rnd_gd hg e a2 a4 ht htC hk') hP' ?_ s' he
            obtain ⟨p2, q2, e2, _⟩ := ls2_some (R := R) (C := C) (Nat.le_refl t) ht (Nat.le_refl t) htC hne
            rw [e2]
            dsimp only
            omega
          · cases he
      · cases he
end
theorem Stays.out {R C : Nat} {P : SS → Prop} (H : ∀ t, Stays R C t P) : ∀ (m t : Nat) (s s' : SS), t + m ≤ R → t + m ≤ C → SGD R C s → P s → sfOut R C m t s = some s' → P s'
  | 0, t, s, s', _, _, hg, hP, he => by cases he; exact hP
  | m + 1, t, s, s', h1, h2, hg, hP, he => by
    by_cases hn : (ls2 R C s.f t).1 < 0
    · rw [sfOut_stop hn] at he; cases he; exact hP
    · rw [sfOut_go hn] at he
      unfold sfGo at he
      rcases hi : sfIn R C t s with _ | s2
      · rw [hi] at he; cases he
      · rw [hi] at he
        have g2 := sfIn_gd (by omega) (by omega) _ s (Nat.le_refl _) hg hn s2 hi
        have p2 := (H t).in_ (by omega) (by omega) _ s (Nat.le_refl _) hg hP hn s2 hi
        have pN : P (sfN t s2) := by
          unfold sfN
          split
          · exact (H t).rneg s2 t (by omega) (Nat.le_refl _) g2 p2
          · exact p2
        exact Stays.out H m (t + 1) (sfN t s2) s' (by omega) (by omega) (g2.n (by omega)) pN he
theorem Stays.all {R C : Nat} {P : SS → Prop} (H : ∀ t, Stays R C t P) {xs : List Int} {s : SS} (h : sfX R C xs = some s) (h0 : P ⟨fun i j => cel xs C i j, idF, idF⟩) : P s := by
  rcases hm : isMat (R : Int) (C : Int) xs with _ | _
  · rw [sfX_no hm] at h; cases h
  · rw [sfX_yes hm] at h
    have M := isMat_iff.1 hm
    have hs := start_gd (R := R) (C := C) M.num
    exact Stays.out H _ _ _ _ (by omega) (by omega) ⟨⟨hs.ok.f, hs.ok.g, idF_ok C C⟩, ⟨hs.nb.f, hs.nb.g, idF_nb⟩⟩ h0 h
/-- d = u m v, and u takes only zeros to zeros. -/
def UMV (R C : Nat) (m : Fn2) (s : SS) : Prop := EqM R C (mm C (mm R s.g m) s.h) s.f ∧ INJ R s.g
theorem opA_val {f : Fn2} {R C i j y : Nat} {t : Int} (h : OKF R C (opA f i j t)) (hi : i < R) (hy : y < C) : opA f i j t i y = f i y + f j y * t := (opA_num (h i y hi hy)).2.2.1
theorem mm_left {n : Nat} {g g' m : Fn2} {x y : Nat} (h : ∀ k, k < n → g' x k = g x k) : mm n g' m x y = mm n g m x y := sumTo_congr n fun k hk => by rw [h k hk]
theorem UMV.stays (R C : Nat) (m : Fn2) (t0 : Nat) : Stays R C t0 (UMV R C m) where
  radd := fun s i j t hi hj _ _ hij hg hk hP => by
    have e1 : ∀ y, y < R → opA s.g i j t i y = s.g i y + s.g j y * t := fun y hy => opA_val hk.g hi hy
    refine ⟨fun x y hx hy => ?_, hP.2.add hi hj hij e1 (fun x y _ _ hne => opA_other hne)⟩
    show mm C (mm R (opA s.g i j t) m) s.h x y = opA s.f i j t x y
    have kf : OKF R C (opA s.f i j t) := hk.f
    by_cases hxi : x = i
    · subst hxi
      rw [opA_val kf hx hy, ← hP.1 x y hx hy, ← hP.1 j y hj hy]
      unfold mm
      rw [← sumTo_mul, ← sumTo_add]
      refine sumTo_congr C fun k hk2 => ?_
      have e2 : sumTo (fun l => opA s.g x j t x l * m l k) R = sumTo (fun l => s.g x l * m l k) R + sumTo (fun l => s.g j l * m l k) R * t := by
        rw [← sumTo_mul, ← sumTo_add]
        exact sumTo_congr R fun l hl => by rw [e1 l hl]; grind
      rw [e2]
      grind
    · rw [opA_other hxi, ← hP.1 x y hx hy]
      exact mm_left fun k hk2 => mm_left fun l hl => opA_other hxi
  rswap := fun s i j hi hj _ _ hij hg hP => by
    refine ⟨fun x y hx hy => ?_, hP.2.swap hi hj⟩
    show mm C (mm R (swF s.g i j) m) s.h x y = swF s.f i j x y
    have key : ∀ z, z < R → (∀ k, swF s.g i j x k = s.g z k) → (swF s.f i j x y = s.f z y) → mm C (mm R (swF s.g i j) m) s.h x y = swF s.f i j x y := fun z hz h1 h2 => by
      rw [h2, ← hP.1 z y hz hy]
      unfold mm
      refine sumTo_congr C fun k _ => ?_
      rw [sumTo_congr R (fun l _ => by rw [h1 l])]
    by_cases h1 : x = i
    · exact key j hj (fun k => by unfold swF; rw [if_pos h1]) (by unfold swF; rw [if_pos h1])
    · by_cases h2 : x = j
      · exact key i hi (fun k => by unfold swF; rw [if_neg h1, if_pos h2]) (by unfold swF; rw [if_neg h1, if_pos h2])
      · exact key x hx (fun k => by unfold swF; rw [if_neg h1, if_neg h2]) (by unfold swF; rw [if_neg h1, if_neg h2])
  rneg := fun s i hi _ hg hP => by
    have e1 : ∀ y, y < R → opM s.g i i y = -s.g i y := fun y hy => opM_at (hg.ok.g i y hi hy)
    have o1 : ∀ (f : Fn2) x y, x ≠ i → opM f i x y = f x y := fun f x y hne => by unfold opM; rw [if_neg hne]
    refine ⟨fun x y hx hy => ?_, hP.2.neg e1 (fun x y _ _ hne => o1 _ _ _ hne)⟩
    show mm C (mm R (opM s.g i) m) s.h x y = opM s.f i x y
    by_cases hxi : x = i
    · subst hxi
      rw [opM_at (hg.ok.f x y hx hy), ← hP.1 x y hx hy]
      unfold mm
      rw [← sumTo_neg]
      refine sumTo_congr C fun k hk2 => ?_
      have e2 : sumTo (fun l => opM s.g x x l * m l k) R = -sumTo (fun l => s.g x l * m l k) R := by
        rw [← sumTo_neg]
        exact sumTo_congr R fun l hl => by rw [e1 l hl, Int.neg_mul]
      rw [e2, Int.neg_mul]
    · rw [o1 _ _ _ hxi, ← hP.1 x y hx hy]
      exact mm_left fun k hk2 => mm_left fun l hl => o1 _ _ _ hxi
  cadd := fun s i j t hi hj _ _ hij hg hk hP => by
    refine ⟨fun x y hx hy => ?_, hP.2⟩
    show mm C (mm R s.g m) (tp (opA (tp s.h) i j t)) x y = tp (opA (tp s.f) i j t) x y
    have kf : OKF C R (opA (tp s.f) i j t) := tp_ok hk.f
    have kh : OKF C C (opA (tp s.h) i j t) := tp_ok hk.h
    by_cases hyi : y = i
    · subst hyi
      show _ = opA (tp s.f) y j t y x
      rw [opA_val kf hy hx]
      show _ = s.f x y + s.f x j * t
      rw [← hP.1 x y hx hy, ← hP.1 x j hx hj]
      unfold mm
      rw [← sumTo_mul, ← sumTo_add]
      refine sumTo_congr C fun k hk2 => ?_
      have e2 : tp (opA (tp s.h) y j t) k y = s.h k y + s.h k j * t := opA_val kh hy hk2
      rw [e2]
      grind
    · show _ = opA (tp s.f) i j t y x
      rw [opA_other hyi]
      show _ = s.f x y
      rw [← hP.1 x y hx hy]
      exact sumTo_congr C fun k hk2 => by
        have e2 : tp (opA (tp s.h) i j t) k y = s.h k y := opA_other hyi
        rw [e2]
  cswap := fun s i j hi hj _ _ hij hg hP => by
    refine ⟨fun x y hx hy => ?_, hP.2⟩
    show mm C (mm R s.g m) (tp (swF (tp s.h) i j)) x y = swF (tp s.f) i j y x
    have key : ∀ z, z < C → (∀ k, swF (tp s.h) i j y k = s.h k z) → (swF (tp s.f) i j y x = s.f x z) → mm C (mm R s.g m) (tp (swF (tp s.h) i j)) x y = swF (tp s.f) i j y x := fun z hz h1 h2 => by
      rw [h2, ← hP.1 x z hx hz]
      exact sumTo_congr C fun k _ => by
        have e2 : tp (swF (tp s.h) i j) k y = s.h k z := h1 k
        rw [e2]
    by_cases h1 : y = i
    · exact key j hj (fun k => by unfold swF; rw [if_pos h1]; rfl) (by unfold swF; rw [if_pos h1]; rfl)
    · by_cases h2 : y = j
      · exact key i hi (fun k => by unfold swF; rw [if_neg h1, if_pos h2]; rfl) (by unfold swF; rw [if_neg h1, if_pos h2]; rfl)
      · exact key y hy (fun k => by unfold swF; rw [if_neg h1, if_neg h2]; rfl) (by unfold swF; rw [if_neg h1, if_neg h2]; rfl)
theorem UMV.start (R C : Nat) (m : Fn2) : UMV R C m ⟨m, idF, idF⟩ := by
  refine ⟨fun i j hi hj => ?_, INJ.id R⟩
  show mm C (mm R idF m) idF i j = m i j
  have e1 : ∀ k, mm R idF m i k = m i k := fun k => mv_id (fun l => m l k) hi
  unfold mm
  rw [sumTo_one C hj]
  · show mm R idF m i j * idF j j = m i j
    rw [e1]; unfold idF; rw [if_pos rfl, Int.mul_one]
  · intro k hk hne
    unfold idF
    rw [if_neg hne, Int.mul_zero]
/-- The Smith form of a matrix is the product. -/
theorem sfX_umv {R C : Nat} {xs : List Int} {s : SS} (h : sfX R C xs = some s) : UMV R C (fun i j => cel xs C i j) s := Stays.all (UMV.stays R C _) h (UMV.start R C _)
/-- A solution of the Smith form gives one of the matrix. -/
theorem sf_solves {R C : Nat} {m : Fn2} {s : SS} (h : UMV R C m s) {b y : Nat → Int} (hy : ∀ i, i < R → mv C s.f y i = mv R s.g b i) : ∀ i, i < R → mv C m (mv C s.h y) i = b i := by
  refine h.2.eq fun i hi => ?_
  rw [← hy i hi, ← mv_mm C R s.g m (mv C s.h y) i, ← mv_mm C C (mm R s.g m) s.h y i]
  exact mv_congr (fun k hk => h.1 i k hi hk) (fun _ _ => rfl)
/-- Outside of the diagonal there are zeros in the first t rows and columns. -/
def Clr (R C t : Nat) (s : SS) : Prop := ∀ x y, x < R → y < C → x ≠ y → (x < t ∨ y < t) → s.f x y = 0
theorem Clr.stays (R C t : Nat) : Stays R C t (Clr R C t) where
  radd := fun s i j q hi hj ti tj hij hg hk hP x y hx hy hxy h => by
    show opA s.f i j q x y = 0
    have kf : OKF R C (opA s.f i j q) := hk.f
    by_cases hxi : x = i
    · subst hxi
      rw [opA_val kf hx hy, hP x y hx hy hxy h, hP j y hj hy (by omega) (.inr (by omega)), Int.zero_mul, Int.zero_add]
    · rw [opA_other hxi]; exact hP x y hx hy hxy h
  rswap := fun s i j hi hj ti tj hij hg hP x y hx hy hxy h => by
    show swF s.f i j x y = 0
    unfold swF
    split
    · rename_i e; exact hP j y hj hy (by omega) (.inr (by omega))
    · split
      · rename_i e; exact hP i y hi hy (by omega) (.inr (by omega))
      · exact hP x y hx hy hxy h
  rneg := fun s i hi ti hg hP x y hx hy hxy h => by
    show opM s.f i x y = 0
    by_cases hxi : x = i
    · subst hxi
      rw [opM_at (hg.ok.f x y hx hy), hP x y hx hy hxy h]; rfl
    · unfold opM; rw [if_neg hxi]; exact hP x y hx hy hxy h
  cadd := fun s i j q hi hj ti tj hij hg hk hP x y hx hy hxy h => by
    show opA (tp s.f) i j q y x = 0
    have kf : OKF C R (opA (tp s.f) i j q) := tp_ok hk.f
    by_cases hyi : y = i
    · subst hyi
      rw [opA_val kf hy hx]
      show s.f x y + s.f x j * q = 0
      rw [hP x y hx hy hxy h, hP x j hx hj (by omega) (.inl (by omega)), Int.zero_mul, Int.zero_add]
    · rw [opA_other hyi]; exact hP x y hx hy hxy h
  cswap := fun s i j hi hj ti tj hij hg hP x y hx hy hxy h => by
    show swF (tp s.f) i j y x = 0
    unfold swF
    split
    · rename_i e; exact hP x j hx hj (by omega) (.inl (by omega))
    · split
      · rename_i e; exact hP x i hx hi (by omega) (.inl (by omega))
      · exact hP x y hx hy hxy h
theorem rnd_done {R C t : Nat} {s : SS} (h : (rnd R C t s).2 = true) : clnS R C t (rnd R C t s).1.f = true ∧ fd R C t (rnd R C t s).1.f = none := by
  unfold rnd at h ⊢
  generalize sfC C t (sfB R t (sfA R C t s)) = s2 at *
  unfold sfD at h ⊢
  by_cases hc : clnS R C t s2.f = true
  · rw [if_pos hc] at h ⊢
    rcases hf : fd R C t s2.f with _ | i
    · exact ⟨hc, hf⟩
    · rw [hf] at h; cases h
  · rw [if_neg hc] at h; cases h
/-- What holds at (t, t) when nothing is left. -/
def Dn (R C t : Nat) (s : SS) : Prop := clnS R C t s.f = true ∧ fd R C t s.f = none ∧ s.f t t ≠ 0
theorem rnd_piv {R C t p q : Nat} {s : SS} (h : SGD R C s) (e : ls2 R C s.f t = ((p : Int), (q : Int))) (hp : p < R) (hq : q < C) (hpq : s.f p q ≠ 0) (ht : t < R) (htC : t < C) (hk : (rnd R C t s).1.OK R C) (hd : (rnd R C t s).2 = true) : (rnd R C t s).1.f t t ≠ 0 := by
  have eA : sfA R C t s = sfA2 t q (sfA1 t p s) := by unfold sfA; rw [e]; rfl
  have hA : SGD R C (sfA R C t s) := by rw [eA]; exact (h.a1 hp ht).a2 hq htC
  have hpiv : (sfA R C t s).f t t = s.f p q := by rw [eA]; exact sfA_piv p q s
  obtain ⟨hB, hC⟩ := rnd_back hA.nb hk
  obtain ⟨f1, -, -⟩ := rnd_facts hA.nb ht htC (by rw [hpiv]; exact hpq) hB hC
  unfold rnd at hd ⊢
  generalize sfC C t (sfB R t (sfA R C t s)) = s2 at *
  unfold sfD at hd ⊢
  by_cases hc : clnS R C t s2.f = true
  · rw [if_pos hc] at hd ⊢
    rcases hf : fd R C t s2.f with _ | i
    · show s2.f t t ≠ 0
      rw [f1, hpiv]; exact hpq
    · rw [hf] at hd; cases hd
  · rw [if_neg hc] at hd; cases hd
theorem sfIn_dn {R C t : Nat} (ht : t < R) (htC : t < C) : ∀ (k : Nat) (s : SS), sfMs R C t s ≤ k → SGD R C s → ¬ (ls2 R C s.f t).1 < 0 → ∀ s', sfIn R C t s = some s' → Dn R C t s' := by
  intro k
  induction k with
  | zero =>
    intro s hk hg hn s' he
    rcases ls2_cases R C s.f t with ⟨e, _⟩ | ⟨p, q, e, ⟨a1, a2, a3, a4⟩, h3, h4, h5⟩
    · rw [e] at hn; exact absurd (by decide) hn
    · have hV : lsV R C t s = (s.f p q).natAbs := by unfold lsV; rw [e]; rfl
      unfold sfMs at hk
      omega
  | succ k ih =>
    intro s hk hg hn s' he
    rcases ls2_cases R C s.f t with ⟨e, _⟩ | ⟨p, q, e, ⟨a1, a2, a3, a4⟩, h3, h4, h5⟩
    · rw [e] at hn; exact absurd (by decide) hn
    · rw [sfIn] at he
      have hA : SGD R C (sfA R C t s) := by
        unfold sfA
        rw [e]
        exact (hg.a1 a2 ht).a2 a4 htC
      have hnb : (rnd R C t s).1.NBS := sfD_nb (sfC_nb (sfB_nb hA.nb))
      split at he
      · rename_i hok
        have hk' := (SS.ok_iff hnb).1 hok
        split at he
        · rename_i hd
          cases he
          obtain ⟨d1, d2⟩ := rnd_done hd
          exact ⟨d1, d2, rnd_piv hg e a2 a4 h3 ht htC hk' hd⟩
        · rename_i hd
          split at he
          · rename_i hlt
            obtain ⟨_, hne⟩ := rnd_lt hg ht htC e a2 a4 h3 (h5 ht htC) hk' (by simpa using hd)
            refine ih _ (by omega) (rnd_gd hg e a2 a4 ht htC hk') ?_ s' he
            obtain ⟨p2, q2, e2, _⟩ := ls2_some (R := R) (C := C) (Nat.le_refl t) ht (Nat.le_refl t) htC hne
            rw [e2]
            dsimp only
            omega
          · cases he
      · cases he
theorem Dn.clr {R C t : Nat} {s : SS} (h : Dn R C t s) (hc : Clr R C t s) : Clr R C (t + 1) s := fun x y hx hy hxy hl => by
  obtain ⟨z1, z2⟩ := clnS_yes h.1
  by_cases h1 : x < t ∨ y < t
  · exact hc x y hx hy hxy h1
  · rcases hl with hl | hl
    · obtain rfl : x = t := by omega
      exact z2 y (by omega) hy
    · obtain rfl : y = t := by omega
      exact z1 x (by omega) hx
theorem sfOut_diag {R C : Nat} : ∀ (m t : Nat) (s s' : SS), t + m = min R C → SGD R C s → Clr R C t s → sfOut R C m t s = some s' → ∀ x y, x < R → y < C → x ≠ y → s'.f x y = 0
  | 0, t, s, s', hm, hg, hc, he => by
    cases he
    exact fun x y hx hy hxy => hc x y hx hy hxy (by omega)
  | m + 1, t, s, s', hm, hg, hc, he => by
    by_cases hn : (ls2 R C s.f t).1 < 0
    · rw [sfOut_stop hn] at he
      cases he
      intro x y hx hy hxy
      by_cases h1 : x < t ∨ y < t
      · exact hc x y hx hy hxy h1
      · rcases ls2_cases R C s.f t with ⟨_, h⟩ | ⟨p, q, e, _⟩
        · exact h x y (by omega) hx (by omega) hy
        · rw [e] at hn; dsimp only at hn; omega
    · rw [sfOut_go hn] at he
      unfold sfGo at he
      rcases hi : sfIn R C t s with _ | s2
      · rw [hi] at he; cases he
      · rw [hi] at he
        have ht : t < R ∧ t < C := by omega
        have g2 := sfIn_gd ht.1 ht.2 _ s (Nat.le_refl _) hg hn s2 hi
        have p2 := (Clr.stays R C t).in_ ht.1 ht.2 _ s (Nat.le_refl _) hg hc hn s2 hi
        have d2 := sfIn_dn ht.1 ht.2 _ s (Nat.le_refl _) hg hn s2 hi
        have p3 := d2.clr p2
        have pN : Clr R C (t + 1) (sfN t s2) := by
          unfold sfN
          split
          · intro x y hx hy hxy h
            show opM s2.f t x y = 0
            by_cases hxt : x = t
            · subst hxt
              rw [opM_at (g2.ok.f x y hx hy), p3 x y hx hy hxy h]; rfl
            · unfold opM; rw [if_neg hxt]; exact p3 x y hx hy hxy h
          · exact p3
        exact sfOut_diag m (t + 1) (sfN t s2) s' (by omega) (g2.n ht.1) pN he
/-- Outside of the diagonal the Smith form has zeros. -/
theorem sfX_diag {R C : Nat} {xs : List Int} {s : SS} (h : sfX R C xs = some s) : ∀ x y, x < R → y < C → x ≠ y → s.f x y = 0 := by
  rcases hm : isMat (R : Int) (C : Int) xs with _ | _
  · rw [sfX_no hm] at h; cases h
  · rw [sfX_yes hm] at h
    have M := isMat_iff.1 hm
    have hs := start_gd (R := R) (C := C) M.num
    exact sfOut_diag _ _ _ _ (by omega) ⟨⟨hs.ok.f, hs.ok.g, idF_ok C C⟩, ⟨hs.nb.f, hs.nb.g, idF_nb⟩⟩ (fun x y _ _ _ h => by omega) h
end Go.Proofs.Ytlggfmfelakadaa

/-
  DERIVED. Ranks: no more than n rows are wanted to span; turned over; products; echelon, Hermite and diagonal forms. No program in sight.
-/
namespace Go.Proofs.Ytlggfmfelakadaa
set_option linter.unusedVariables false
/-- The rows of f are, some times, sums of n rows. -/
def RKs (R C n : Nat) (f : Fn2) : Prop := ∃ e : Fn2, ∀ i, i < R → QS n C e (f i)
section
variable {R S C r n : Nat} {p : Nat → Nat} {f g : Fn2}
theorem EF.rk_le (H : EF R C r p f) (h : RKs R C n f) : r ≤ n := by
  obtain ⟨e, he⟩ := h
  exact Ind.le H.ind fun i hi => he i (Nat.lt_of_lt_of_le hi H.le)
theorem EF.rk (H : EF R C r p f) : RKs R C r f := ⟨f, fun i hi => by
  rcases Nat.lt_or_ge i r with h | h
  · exact QS.row h
  · exact QS.zero fun y hy => H.zero i y h hi hy⟩
theorem RKs.span (h : RKs S C n g) (k : ∀ i, i < R → QS S C g (f i)) : RKs R C n f := by
  obtain ⟨e, he⟩ := h
  exact ⟨e, fun i hi => (k i hi).trans he⟩
/-- One divisor for all rows. -/
theorem QS.all {e : Fn2} : ∀ R, (∀ i, i < R → QS n C e (f i)) → ∃ (d : Int) (u : Fn2), d ≠ 0 ∧ ∀ i y, i < R → y < C → d * f i y = sumTo (fun k => u i k * e k y) n
  | 0, _ => ⟨1, fun _ _ => 0, by decide, fun i y hi => absurd hi (Nat.not_lt_zero _)⟩
  | R + 1, h => by
    obtain ⟨d, u, hd, hu⟩ := QS.all R fun i hi => h i (by omega)
    obtain ⟨d2, c, hd2, hc⟩ := h R (by omega)
    refine ⟨d * d2, fun i k => if i = R then d * c k else d2 * u i k, Int.mul_ne_zero hd hd2, fun i y hi hy => ?_⟩
    by_cases e1 : i = R
    · subst e1
      rw [show d * d2 * f i y = d * (d2 * f i y) by grind, hc y hy, ← sumTo_mul']
      exact sumTo_congr n fun k _ => by simp only [if_pos]; grind
    · rw [show d * d2 * f i y = d2 * (d * f i y) by grind, hu i y (by omega) hy, ← sumTo_mul']
      exact sumTo_congr n fun k _ => by simp only [if_neg e1]; grind
theorem RKs.turn (h : RKs R C n f) : RKs C R n (fun a b => f b a) := by
  obtain ⟨e, he⟩ := h
  obtain ⟨d, u, hd, hu⟩ := QS.all R he
  refine ⟨fun k i => u i k, fun y hy => ⟨d, fun k => e k y, hd, fun i hi => ?_⟩⟩
  rw [hu i y hi hy]
  exact sumTo_congr n fun k _ => Int.mul_comm _ _
theorem QS.mm {u : Fn2} {i : Nat} : QS R C f (mm R u f i) := ⟨1, u i, by decide, fun y _ => by rw [Int.one_mul]; rfl⟩
theorem RKs.left {u : Fn2} (h : RKs R C n f) : RKs S C n (mm R u f) := h.span fun i _ => QS.mm
theorem RKs.right {v : Fn2} {D : Nat} (h : RKs R C n f) : RKs R D n (mm C f v) := by
  obtain ⟨e, he⟩ := h
  refine ⟨mm C e v, fun i hi => ?_⟩
  obtain ⟨d, c, hd, hc⟩ := he i hi
  refine ⟨d, c, hd, fun y _ => ?_⟩
  have e1 : d * mm C f v i y = sumTo (fun k => d * (f i k * v k y)) C := by unfold mm; rw [sumTo_mul']
  have e2 : sumTo (fun k => d * (f i k * v k y)) C = sumTo (fun k => sumTo (fun a => c a * e a k * v k y) n) C := sumTo_congr C fun k hk => by
    rw [show d * (f i k * v k y) = d * f i k * v k y by grind, hc k hk, ← sumTo_mul]
  rw [e1, e2, sumTo_swap]
  refine sumTo_congr n fun a _ => ?_
  unfold mm
  rw [← sumTo_mul']
  exact sumTo_congr C fun k _ => by grind
/-- Two echelon forms of two spaces, one in the other. -/
theorem EF.le_of {q : Nat → Nat} {s : Nat} (H : EF R C r p f) (K : EF S C s q g) (h : ∀ i, i < R → QS S C g (f i)) : r ≤ s := H.rk_le (K.rk.span h)
/-- A form with the rows of it from r on zeros, and the first r independent. -/
theorem Ind.rk_le (H : Ind r C f) (hr : r ≤ R) (h : RKs R C n f) : r ≤ n := by
  obtain ⟨e, he⟩ := h
  exact Ind.le H fun i hi => he i (by omega)
/-- A space in another one, as many dimensions: they are one. -/
theorem EF.back {q : Nat → Nat} {s : Nat} (H : EF R C r p f) (K : EF S C s q g) (h : ∀ i, i < R → QS S C g (f i)) (hrs : s ≤ r) : ∀ i, i < S → QS R C f (g i) := fun i hi => by
  -- the rows of f with row i of g beside them: r + 1 vectors in a space of s dimensions
  have hfr := H.le
  apply Classical.byContradiction
  intro hno
  have hind : Ind (r + 1) C (fun k y => if k < r then f k y else g i y) := fun z hz k hk => by
    have e1 : ∀ y, y < C → sumTo (fun k => z k * f k y) r + z r * g i y = 0 := fun y hy => by
      have := hz y hy
      rw [sumTo_succ] at this
      simp only [if_neg (Nat.lt_irrefl r)] at this
      rw [← this]
      congr 1
      exact sumTo_congr r fun k hk => by simp only [if_pos hk]
    have hr0 : z r = 0 := by
      apply Classical.byContradiction
      intro h0
      refine hno ⟨z r, fun k => if k < r then -z k else 0, h0, fun y hy => ?_⟩
      have h1 := e1 y hy
      have h2 : sumTo (fun k => (if k < r then -z k else 0) * f k y) R = -sumTo (fun k => z k * f k y) r := by
        have hs : ∀ m, r ≤ m → sumTo (fun k => (if k < r then -z k else 0) * f k y) m = -sumTo (fun k => z k * f k y) r := fun m => by
          induction m with
          | zero => intro hm; obtain rfl : r = 0 := by omega
                    rfl
          | succ m ih =>
            intro hm
            by_cases e : r = m + 1
            · subst e
              rw [← sumTo_neg]
              exact sumTo_congr (m + 1) fun k hk => by rw [if_pos hk, Int.neg_mul]
            · rw [sumTo_succ, ih (by omega), if_neg (by omega), Int.zero_mul, Int.add_zero]
        exact hs R hfr
      rw [h2]; omega
    rcases Nat.lt_or_ge k r with h | h
    · refine H.ind z (fun y hy => ?_) k h
      have := e1 y hy
      rw [hr0, Int.zero_mul, Int.add_zero] at this
      exact this
    · obtain rfl : k = r := by omega
      exact hr0
  obtain ⟨e, he⟩ := K.rk
  have := Ind.le hind (u := e) (m := s) fun k hk => by
    rcases Nat.lt_or_ge k r with h1 | h1
    · have q := (h k (by omega)).trans he
      obtain ⟨d, c, hd, hc⟩ := q
      exact ⟨d, c, hd, fun y hy => by simp only [if_pos h1]; exact hc y hy⟩
    · obtain ⟨d, c, hd, hc⟩ := he i hi
      exact ⟨d, c, hd, fun y hy => by simp only [if_neg (show ¬ k < r by omega)]; exact hc y hy⟩
  omega
end
end Go.Proofs.Ytlggfmfelakadaa

/-
  DERIVED. Every matrix has as many independent rows of whole numbers as it has a rank, that its rows are whole sums of. No program in sight.
-/
namespace Go.Proofs.Ytlggfmfelakadaa
set_option linter.unusedVariables false
theorem sumTo_at {g e : Nat → Int} {a n : Nat} (ha : a < n) (h : ∀ k, k < n → k ≠ a → e k = g k) : sumTo e n = sumTo g n + (e a - g a) := by
  have h1 := sumTo_sub e g n
  have h2 : sumTo (fun k => e k - g k) n = e a - g a := sumTo_one n ha fun k hk hne => by rw [h k hk hne]; omega
  omega
theorem Sp.zero {R C : Nat} {f : Fn2} {v : Nat → Int} (h : ∀ y, y < C → v y = 0) : Sp R C f v := ⟨fun _ => 0, fun y hy => by rw [h y hy, sumTo_null R fun k _ => Int.zero_mul _]⟩
theorem abs_less {x y : Int} (hx : x ≠ 0) (hy : y ≠ 0) (h : y.natAbs ≤ x.natAbs) : ∃ t : Int, (t = 1 ∨ t = -1) ∧ (x - t * y).natAbs < x.natAbs := by
  by_cases h1 : (0 < x ∧ 0 < y) ∨ (x < 0 ∧ y < 0)
  · exact ⟨1, .inl rfl, by omega⟩
  · exact ⟨-1, .inr rfl, by omega⟩
/-- A relation between the rows: one row fewer does. -/
theorem lat_drop {C : Nat} : ∀ (N R : Nat) (f : Fn2) (z : Nat → Int), sumTo (fun k => ((z k).natAbs : Int)) (R + 1) ≤ N → (∃ k, k < R + 1 ∧ z k ≠ 0) → (∀ y, y < C → sumTo (fun k => z k * f k y) (R + 1) = 0) → ∃ g : Fn2, (∀ i, i < R + 1 → Sp R C g (f i)) ∧ ∀ k, k < R → Sp (R + 1) C f (g k) := by
  intro N
  induction N with
  | zero =>
    intro R f z hN ⟨k, hk, hz⟩ _
    exfalso
    have h1 : ((z k).natAbs : Int) ≤ sumTo (fun k => ((z k).natAbs : Int)) (R + 1) := by
      have h2 := sumTo_at (g := fun i => if i = k then 0 else ((z i).natAbs : Int)) (e := fun k => ((z k).natAbs : Int)) hk (fun i _ hne => by simp only [if_neg hne])
      have h3 : 0 ≤ sumTo (fun i => if i = k then 0 else ((z i).natAbs : Int)) (R + 1) := by
        have : ∀ n, 0 ≤ sumTo (fun i => if i = k then 0 else ((z i).natAbs : Int)) n := fun n => by
          induction n with
          | zero => exact Int.le_refl _
          | succ n ih =>
            rw [sumTo_succ]
            have : (0 : Int) ≤ (if n = k then 0 else ((z n).natAbs : Int)) := by split <;> omega
            omega
        exact this _
      simp only [if_pos] at h2
      omega
    omega
  | succ N ih =>
    intro R f z hN ⟨a0, ha0, hz0⟩ hrel
    by_cases hex : ∃ a b, a < R + 1 ∧ b < R + 1 ∧ a ≠ b ∧ z a ≠ 0 ∧ z b ≠ 0 ∧ (z b).natAbs ≤ (z a).natAbs
    · obtain ⟨a, b, ha, hb, hab, hza, hzb, hle⟩ := hex
      obtain ⟨t, ht, hlt⟩ := abs_less hza hzb hle
      -- row b gets t times row a
      let f' : Fn2 := fun x y => if x = b then f b y + f a y * t else f x y
      let z' : Nat → Int := fun k => if k = a then z a - t * z b else z k
      have S : SPN (R + 1) C f f' := (SPN.refl (R + 1) C f).add hb ha (fun e => hab e.symm) (fun y _ => by show (if b = b then _ else _) = _; rw [if_pos rfl]) (fun x y _ _ hne => by show (if x = b then _ else _) = _; rw [if_neg hne])
      have hm : sumTo (fun k => ((z' k).natAbs : Int)) (R + 1) ≤ N := by
        have h2 := sumTo_at (g := fun k => ((z k).natAbs : Int)) (e := fun k => ((z' k).natAbs : Int)) ha (fun i _ hne => by show (((if i = a then _ else z i) : Int).natAbs : Int) = _; rw [if_neg hne])
        have h3 : ((z' a).natAbs : Int) = (z a - t * z b).natAbs := by show (((if a = a then _ else z a) : Int).natAbs : Int) = _; rw [if_pos rfl]
        simp only [h3] at h2
        omega
      have hnz : ∃ k, k < R + 1 ∧ z' k ≠ 0 := ⟨b, hb, by show (if b = a then _ else z b) ≠ 0; rw [if_neg (fun e => hab e.symm)]; exact hzb⟩
      have hr : ∀ y, y < C → sumTo (fun k => z' k * f' k y) (R + 1) = 0 := fun y hy => by
        have h1 := sumTo_at (g := fun k => z k * f' k y) (e := fun k => z' k * f' k y) ha (fun i _ hne => by show (if i = a then _ else z i) * _ = _; rw [if_neg hne])
        have h2 := sumTo_at (g := fun k => z k * f k y) (e := fun k => z k * f' k y) hb (fun i _ hne => by show z i * (if i = b then _ else f i y) = _; rw [if_neg hne])
        have e1 : z' a = z a - t * z b := by show (if a = a then _ else z a) = _; rw [if_pos rfl]
        have e2 : f' a y = f a y := by show (if a = b then _ else f a y) = _; rw [if_neg hab]
        have e3 : f' b y = f b y + f a y * t := by show (if b = b then _ else f b y) = _; rw [if_pos rfl]
        simp only [e1, e2] at h1
        simp only [e3] at h2
        rw [h1, h2, hrel y hy]
        grind
      obtain ⟨g, hg1, hg2⟩ := ih R f' z' hm hnz hr
      exact ⟨g, fun i hi => (S.2 i hi).trans hg1, fun k hk => (hg2 k hk).trans S.1⟩
    · have honly : ∀ k, k < R + 1 → k ≠ a0 → z k = 0 := fun k hk hne => by
        apply Classical.byContradiction
        intro h0
        rcases Nat.le_total (z k).natAbs (z a0).natAbs with h | h
        · exact hex ⟨a0, k, ha0, hk, fun e => hne e.symm, hz0, h0, h⟩
        · exact hex ⟨k, a0, hk, ha0, hne, h0, hz0, h⟩
      have hf0 : ∀ y, y < C → f a0 y = 0 := fun y hy => by
        have h1 := hrel y hy
        rw [sumTo_one (i := a0) (R + 1) ha0 (fun k hk hne => by rw [honly k hk hne, Int.zero_mul])] at h1
        rcases Int.mul_eq_zero.1 h1 with h | h
        · exact absurd h hz0
        · exact h
      refine ⟨fun k => f (sk a0 k), fun i hi => ?_, fun k hk => Sp.row (sk_lt hk)⟩
      by_cases e : i = a0
      · exact Sp.zero fun y hy => by rw [e]; exact hf0 y hy
      · have : ∃ k, k < R ∧ sk a0 k = i := by
          rcases Nat.lt_or_ge i a0 with h | h
          · exact ⟨i, by omega, by unfold sk; rw [if_pos h]⟩
          · exact ⟨i - 1, by omega, by unfold sk; rw [if_neg (by omega)]; omega⟩
        obtain ⟨k, hk, rfl⟩ := this
        exact Sp.row (f := fun k => f (sk a0 k)) hk
theorem lat_basis {C : Nat} : ∀ (R : Nat) (f : Fn2), ∃ (r : Nat) (h : Fn2), Ind r C h ∧ (∀ i, i < R → Sp r C h (f i)) ∧ ∀ k, k < r → Sp R C f (h k)
  | 0, f => ⟨0, f, fun z _ k hk => absurd hk (Nat.not_lt_zero _), fun i hi => absurd hi (Nat.not_lt_zero _), fun k hk => absurd hk (Nat.not_lt_zero _)⟩
  | R + 1, f => by
    by_cases hi : Ind (R + 1) C f
    · exact ⟨R + 1, f, hi, fun i hi => Sp.row hi, fun k hk => Sp.row hk⟩
    · have : ∃ z : Nat → Int, (∀ y, y < C → sumTo (fun k => z k * f k y) (R + 1) = 0) ∧ ∃ k, k < R + 1 ∧ z k ≠ 0 := by
        apply Classical.byContradiction
        intro h
        refine hi fun z hz k hk => ?_
        apply Classical.byContradiction
        intro h0
        exact h ⟨z, hz, k, hk, h0⟩
      obtain ⟨z, hz, hk⟩ := this
      obtain ⟨N, hN⟩ : ∃ N : Nat, sumTo (fun k => ((z k).natAbs : Int)) (R + 1) ≤ N := ⟨(sumTo (fun k => ((z k).natAbs : Int)) (R + 1)).toNat, by omega⟩
      obtain ⟨g, g1, g2⟩ := lat_drop N R f z hN hk hz
      obtain ⟨r, h, h1, h2, h3⟩ := lat_basis R g
      exact ⟨r, h, h1, fun i hi => (g1 i hi).trans h2, fun k hk => (h3 k hk).trans g2⟩
end Go.Proofs.Ytlggfmfelakadaa

/-
  DERIVED. In the Smith form each number of the diagonal is no less than 0 and divides the next one: no program in sight.
-/
namespace Go.Proofs.Ytlggfmfelakadaa
set_option linter.unusedVariables false
/-- The first t numbers of the diagonal. -/
def Chn (R C t : Nat) (s : SS) : Prop := (∀ a, a < t → 0 ≤ s.f a a) ∧ ∀ a x y, a < t → a ≤ x → x < R → a ≤ y → y < C → s.f a a ∣ s.f x y
theorem Chn.stays (R C t : Nat) (htR : t ≤ R) (htC : t ≤ C) : Stays R C t (Chn R C t) where
  radd := fun s i j q hi hj ti tj hij hg hk hP => by
    have kf : OKF R C (opA s.f i j q) := hk.f
    have e : ∀ a, a < t → opA s.f i j q a a = s.f a a := fun a ha => opA_other (by omega)
    refine ⟨fun a ha => by show 0 ≤ opA s.f i j q a a; rw [e a ha]; exact hP.1 a ha, fun a x y ha hx hxR hy hyC => ?_⟩
    show opA s.f i j q a a ∣ opA s.f i j q x y
    rw [e a ha]
    by_cases hxi : x = i
    · subst hxi
      rw [opA_val kf hxR hyC]
      exact Int.dvd_add (hP.2 a x y ha hx hxR hy hyC) (Int.dvd_trans (hP.2 a j y ha (by omega) hj hy hyC) ⟨q, rfl⟩)
    · rw [opA_other hxi]; exact hP.2 a x y ha hx hxR hy hyC
  rswap := fun s i j hi hj ti tj hij hg hP => by
    have e : ∀ a, a < t → swF s.f i j a a = s.f a a := fun a ha => by unfold swF; rw [if_neg (by omega), if_neg (by omega)]
    refine ⟨fun a ha => by show 0 ≤ swF s.f i j a a; rw [e a ha]; exact hP.1 a ha, fun a x y ha hx hxR hy hyC => ?_⟩
    show swF s.f i j a a ∣ swF s.f i j x y
    rw [e a ha]
    unfold swF
    split
    · exact hP.2 a j y ha (by omega) hj hy hyC
    · split
      · exact hP.2 a i y ha (by omega) hi hy hyC
      · exact hP.2 a x y ha hx hxR hy hyC
  rneg := fun s i hi ti hg hP => by
    have e : ∀ a, a < t → opM s.f i a a = s.f a a := fun a ha => by unfold opM; rw [if_neg (by omega)]
    refine ⟨fun a ha => by show 0 ≤ opM s.f i a a; rw [e a ha]; exact hP.1 a ha, fun a x y ha hx hxR hy hyC => ?_⟩
    show opM s.f i a a ∣ opM s.f i x y
    rw [e a ha]
    by_cases hxi : x = i
    · subst hxi
      rw [opM_at (hg.ok.f x y hxR hyC)]
      exact Int.dvd_neg.2 (hP.2 a x y ha hx hxR hy hyC)
    · unfold opM; rw [if_neg hxi]; exact hP.2 a x y ha hx hxR hy hyC
  cadd := fun s i j q hi hj ti tj hij hg hk hP => by
    have kf : OKF C R (opA (tp s.f) i j q) := tp_ok hk.f
    have e : ∀ a, a < t → opA (tp s.f) i j q a a = s.f a a := fun a ha => opA_other (by omega)
    refine ⟨fun a ha => by show 0 ≤ opA (tp s.f) i j q a a; rw [e a ha]; exact hP.1 a ha, fun a x y ha hx hxR hy hyC => ?_⟩
    show opA (tp s.f) i j q a a ∣ opA (tp s.f) i j q y x
    rw [e a ha]
    by_cases hyi : y = i
    · subst hyi
      rw [opA_val kf hyC hxR]
      exact Int.dvd_add (hP.2 a x y ha hx hxR hy hyC) (Int.dvd_trans (hP.2 a x j ha hx hxR (by omega) hj) ⟨q, rfl⟩)
    · rw [opA_other hyi]; exact hP.2 a x y ha hx hxR hy hyC
  cswap := fun s i j hi hj ti tj hij hg hP => by
    have e : ∀ a, a < t → swF (tp s.f) i j a a = s.f a a := fun a ha => by unfold swF; rw [if_neg (by omega), if_neg (by omega)]; rfl
    refine ⟨fun a ha => by show 0 ≤ swF (tp s.f) i j a a; rw [e a ha]; exact hP.1 a ha, fun a x y ha hx hxR hy hyC => ?_⟩
    show swF (tp s.f) i j a a ∣ swF (tp s.f) i j y x
    rw [e a ha]
    unfold swF
    split
    · exact hP.2 a x j ha hx hxR (by omega) hj
    · split
      · exact hP.2 a x i ha hx hxR (by omega) hi
      · exact hP.2 a x y ha hx hxR hy hyC
theorem Dn.dvd {R C t : Nat} {s : SS} (h : Dn R C t s) (hg : SGD R C s) {x y : Nat} (hx : t ≤ x) (hxR : x < R) (hy : t ≤ y) (hyC : y < C) : s.f t t ∣ s.f x y := by
  obtain ⟨h1, h2, h3⟩ := h
  obtain ⟨z1, z2⟩ := clnS_yes h1
  by_cases ex : x = t
  · subst ex
    by_cases ey : y = x
    · subst ey; exact Int.dvd_refl _
    · rw [z2 y (by omega) hyC]; exact Int.dvd_zero _
  · by_cases ey : y = t
    · subst ey; rw [z1 x (by omega) hxR]; exact Int.dvd_zero _
    · have hf : fdR s.f t C x = false := by
        refine Bool.eq_false_iff.2 fun hc => ?_
        have key : ∀ m i, i ≤ x → x < i + m → fdS s.f t C i m ≠ none := fun m => by
          induction m with
          | zero => intro i a b; omega
          | succ m ih =>
            intro i a b
            rcases hr : fdR s.f t C i with _ | _
            · rw [fdS_no hr]
              by_cases e : i = x
              · subst e; rw [hr] at hc; cases hc
              · exact ih (i + 1) (by omega) (by omega)
            · rw [fdS_yes hr]; simp
        exact key (R - (t + 1)) (t + 1) (by omega) (by omega) h2
      have hn : ¬ (s.f x y).tmod (s.f t t) ≠ 0 := fun hne => by
        have : fdR s.f t C x = true := fdR_iff.2 ⟨y, by omega, hyC, (hg.ok.f x y hxR hyC).ne, hne⟩
        rw [hf] at this; cases this
      exact Int.dvd_of_tmod_eq_zero (Decidable.of_not_not hn)
/-- What the Smith form's diagonal is. -/
def Dia (R C : Nat) (s : SS) : Prop := (∀ a, a < R → a < C → 0 ≤ s.f a a) ∧ ∀ a, a + 1 < R → a + 1 < C → s.f a a ∣ s.f (a + 1) (a + 1)
theorem sfOut_chn {R C : Nat} : ∀ (m t : Nat) (s s' : SS), t + m = min R C → SGD R C s → Chn R C t s → sfOut R C m t s = some s' → Dia R C s'
  | 0, t, s, s', hm, hg, hc, he => by
    cases he
    exact ⟨fun a h1 h2 => hc.1 a (by omega), fun a h1 h2 => hc.2 a (a + 1) (a + 1) (by omega) (by omega) h1 (by omega) h2⟩
  | m + 1, t, s, s', hm, hg, hc, he => by
    by_cases hn : (ls2 R C s.f t).1 < 0
    · rw [sfOut_stop hn] at he
      cases he
      rcases ls2_cases R C s.f t with ⟨_, h⟩ | ⟨p, q, e, _⟩
      · refine ⟨fun a h1 h2 => ?_, fun a h1 h2 => ?_⟩
        · by_cases hat : a < t
          · exact hc.1 a hat
          · rw [h a a (by omega) h1 (by omega) h2]; exact Int.le_refl _
        · by_cases hat : a < t
          · exact hc.2 a (a + 1) (a + 1) hat (by omega) h1 (by omega) h2
          · rw [h (a + 1) (a + 1) (by omega) h1 (by omega) h2]; exact Int.dvd_zero _
      · rw [e] at hn; dsimp only at hn; omega
    · rw [sfOut_go hn] at he
      unfold sfGo at he
      rcases hi : sfIn R C t s with _ | s2
      · rw [hi] at he; cases he
      · rw [hi] at he
        have ht : t < R ∧ t < C := by omega
        have g2 := sfIn_gd ht.1 ht.2 _ s (Nat.le_refl _) hg hn s2 hi
        have p2 := (Chn.stays R C t (by omega) (by omega)).in_ ht.1 ht.2 _ s (Nat.le_refl _) hg hc hn s2 hi
        have d2 := sfIn_dn ht.1 ht.2 _ s (Nat.le_refl _) hg hn s2 hi
        have o1 : ∀ (x y : Nat), x ≠ t → opM s2.f t x y = s2.f x y := fun x y hne => by unfold opM; rw [if_neg hne]
        have o2 : ∀ y, y < C → opM s2.f t t y = -s2.f t y := fun y hy => opM_at (g2.ok.f t y ht.1 hy)
        have pN : Chn R C (t + 1) (sfN t s2) := by
          unfold sfN
          split
          · rename_i hneg
            have dv : ∀ a x y, a < t + 1 → a ≤ x → x < R → a ≤ y → y < C → s2.f a a ∣ s2.f x y := fun a x y ha hx hxR hy hyC => by
              by_cases e : a = t
              · subst e; exact d2.dvd g2 hx hxR hy hyC
              · exact p2.2 a x y (by omega) hx hxR hy hyC
            refine ⟨fun a ha => ?_, fun a x y ha hx hxR hy hyC => ?_⟩
            · show 0 ≤ opM s2.f t a a
              by_cases e : a = t
              · subst e; rw [o2 a ht.2]; omega
              · rw [o1 a a e]; exact p2.1 a (by omega)
            · show opM s2.f t a a ∣ opM s2.f t x y
              have h5 := dv a x y ha hx hxR hy hyC
              have h6 : opM s2.f t a a ∣ s2.f x y := by
                by_cases e : a = t
                · subst e; rw [o2 a ht.2]; exact Int.neg_dvd.2 h5
                · rw [o1 a a e]; exact h5
              by_cases e : x = t
              · subst e; rw [o2 y hyC]; exact Int.dvd_neg.2 h6
              · rw [o1 x y e]; exact h6
          · rename_i hpos
            refine ⟨fun a ha => ?_, fun a x y ha hx hxR hy hyC => ?_⟩
            · by_cases e : a = t
              · subst e; omega
              · exact p2.1 a (by omega)
            · by_cases e : a = t
              · subst e; exact d2.dvd g2 hx hxR hy hyC
              · exact p2.2 a x y (by omega) hx hxR hy hyC
        exact sfOut_chn m (t + 1) (sfN t s2) s' (by omega) (g2.n ht.1) pN he
theorem sfX_dia {R C : Nat} {xs : List Int} {s : SS} (h : sfX R C xs = some s) : Dia R C s := by
  rcases hm : isMat (R : Int) (C : Int) xs with _ | _
  · rw [sfX_no hm] at h; cases h
  · rw [sfX_yes hm] at h
    have M := isMat_iff.1 hm
    have hs := start_gd (R := R) (C := C) M.num
    exact sfOut_chn _ _ _ _ (by omega) ⟨⟨hs.ok.f, hs.ok.g, idF_ok C C⟩, ⟨hs.nb.f, hs.nb.g, idF_nb⟩⟩ ⟨fun a h => by omega, fun a x y h => by omega⟩ h
end Go.Proofs.Ytlggfmfelakadaa

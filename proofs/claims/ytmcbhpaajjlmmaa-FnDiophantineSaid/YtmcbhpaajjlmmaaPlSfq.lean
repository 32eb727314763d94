/-
  DERIVED. What stays under all operations of the Smith form; u m v = d, and u takes only zeros to zeros: no program in sight.
-/
import Derived.Test.YtmcbhpaajjlmmaaZ3
import Derived.Test.YtmcbhpaajjlmmaaZ4
namespace Go.Proofs.Ytmcbhpaajjlmmaa
set_option linter.unusedVariables false
/-- A property that stays under the operations. -/
structure Stays (R C t0 : Nat) (P : SS → Prop) : Prop where
  radd : ∀ (s : SS) (i j : Nat) (t : Int), i < R → j < R → t0 ≤ i → t0 ≤ j → i ≠ j → SGD R C s → (s.wr (s.row.add i j t)).OK R C → P s → P (s.wr (s.row.add i j t))
  rswap : ∀ (s : SS) (i j : Nat), i < R → j < R → t0 ≤ i → t0 ≤ j → i ≠ j → SGD R C s → P s → P (s.wr (s.row.swap i j))
  rneg : ∀ (s : SS) (i : Nat), i < R → t0 ≤ i → SGD R C s → P s → P (s.wr (s.row.neg i))
  cadd : ∀ (s : SS) (i j : Nat) (t : Int), i < C → j < C → t0 ≤ i → t0 ≤ j → i ≠ j → SGD R C s → (s.wc (s.col.add i j t)).OK R C → P s → P (s.wc (s.col.add i j t))
  cswap : ∀ (s : SS) (i j : Nat), i < C → j < C → t0 ≤ i → t0 ≤ j → i ≠ j → SGD R C s → P s → P (s.wc (s.col.swap i j))
section
variable {R C t : Nat} {P : SS → Prop} {s : SS}
theorem Stays.b (H : Stays R C t P) (h : SGD R C s) (hP : P s) (ht : t < R) : ∀ n, t + n ≤ R → (s.wr (swS t t t s.row n)).OK R C → P (s.wr (swS t t t s.row n))
  | 0, _, _ => hP
  | n + 1, hn, hk => by
    have hk' : (s.wr (swS t t t s.row n)).OK R C := by
      have h1 := swS_back (R := R) (C := C) h.row.nb hk.ofRow
      exact ⟨h1.f, h1.g, hk.h⟩
    have ih := H.b h hP ht n (by omega) hk'
    rw [swS_succ] at hk ⊢
    split
    · rename_i hc
      rw [if_pos hc] at hk
      have hg : SGD R C (s.wr (swS t t t s.row n)) := ⟨hk', h.nb.wr (swS_nb h.row.nb n)⟩
      exact H.radd (s.wr (swS t t t s.row n)) (t + n) t _ (by omega) ht (by omega) (Nat.le_refl _) hc.1 hg hk ih
    · exact ih
theorem Stays.c (H : Stays R C t P) (h : SGD R C s) (hP : P s) (ht : t < C) : ∀ n, t + n ≤ C → (s.wc (swS t t t s.col n)).OK R C → P (s.wc (swS t t t s.col n))
  | 0, _, _ => hP
  | n + 1, hn, hk => by
    have hk' : (s.wc (swS t t t s.col n)).OK R C := by
      have h1 := swS_back (R := C) (C := R) h.col.nb hk.ofCol
      exact ⟨tp_ok h1.f, hk.g, tp_ok h1.g⟩
    have ih := H.c h hP ht n (by omega) hk'
    rw [swS_succ] at hk ⊢
    split
    · rename_i hc
      rw [if_pos hc] at hk
      have hg : SGD R C (s.wc (swS t t t s.col n)) := ⟨hk', h.nb.wc (swS_nb h.col.nb n)⟩
      exact H.cadd (s.wc (swS t t t s.col n)) (t + n) t _ (by omega) ht (by omega) (Nat.le_refl _) hc.1 hg hk ih
    · exact ih
theorem Stays.a1 (H : Stays R C t P) {r : Nat} (h : SGD R C s) (hP : P s) (hr : r < R) (hr0 : t ≤ r) (ht : t < R) : P (sfA1 t r s) := by
  unfold sfA1
  split
  · exact hP
  · rename_i hne
    exact H.rswap s r t hr ht hr0 (Nat.le_refl _) hne h hP
theorem Stays.a2 (H : Stays R C t P) {c : Nat} (h : SGD R C s) (hP : P s) (hc : c < C) (hc0 : t ≤ c) (ht : t < C) : P (sfA2 t c s) := by
  unfold sfA2
  split
  · exact hP
  · rename_i hne
    exact H.cswap s c t hc ht hc0 (Nat.le_refl _) hne h hP
theorem Stays.rnd (H : Stays R C t P) {p q : Nat} (h : SGD R C s) (hP : P s) (e : ls2 R C s.f t = ((p : Int), (q : Int))) (hp0 : t ≤ p) (hp : p < R) (hq0 : t ≤ q) (hq : q < C) (ht : t < R) (htC : t < C) (hk : (rnd R C t s).1.OK R C) : P (rnd R C t s).1 := by
  have eA : sfA R C t s = sfA2 t q (sfA1 t p s) := by unfold sfA; rw [e]; rfl
  have hA : SGD R C (sfA R C t s) := by rw [eA]; exact (h.a1 hp ht).a2 hq htC
  have pA : P (sfA R C t s) := by rw [eA]; exact H.a2 (h.a1 hp ht) (H.a1 h hP hp hp0 ht) hq hq0 htC
  obtain ⟨hB, hC⟩ := rnd_back hA.nb hk
  have gB : SGD R C (sfB R t (sfA R C t s)) := ⟨hB, sfB_nb hA.nb⟩
  have pB : P (sfB R t (sfA R C t s)) := H.b hA pA ht (R - t) (by omega) hB
  have gC : SGD R C (sfC C t (sfB R t (sfA R C t s))) := ⟨hC, sfC_nb gB.nb⟩
  have pC : P (sfC C t (sfB R t (sfA R C t s))) := H.c gB pB htC (C - t) (by omega) hC
  unfold Go.Proofs.Ytmcbhpaajjlmmaa.rnd at hk ⊢
  generalize sfC C t (sfB R t (sfA R C t s)) = s2 at *
  unfold sfD at hk ⊢
  split
  · rename_i hcl
    rw [if_pos hcl] at hk
    rcases hf : fd R C t s2.f with _ | i
    · exact pC
    · rw [hf] at hk
      obtain ⟨i1, i2, i3⟩ := fd_some hf
      exact H.radd s2 t i 1 ht i2 (Nat.le_refl _) (by omega) (by omega) gC hk pC
  · exact pC
theorem Stays.in_ (H : Stays R C t P) (ht : t < R) (htC : t < C) : ∀ (k : Nat) (s : SS), sfMs R C t s ≤ k → SGD R C s → P s → ¬ (ls2 R C s.f t).1 < 0 → ∀ s', sfIn R C t s = some s' → P s' := by
  intro k
  induction k with
  | zero =>
    intro s hk hg hP hn s' he
    rcases ls2_cases R C s.f t with ⟨e, _⟩ | ⟨p, q, e, ⟨a1, a2, a3, a4⟩, h3, h4, h5⟩
    · rw [e] at hn; exact absurd (by decide) hn
    · have hV : lsV R C t s = (s.f p q).natAbs := by unfold lsV; rw [e]; rfl
      unfold sfMs at hk
      omega
  | succ k ih =>
    intro s hk hg hP hn s' he
    rcases ls2_cases R C s.f t with ⟨e, _⟩ | ⟨p, q, e, ⟨a1, a2, a3, a4⟩, h3, h4, h5⟩
    · rw [e] at hn; exact absurd (by decide) hn
    · rw [sfIn] at he
      have hA : SGD R C (sfA R C t s) := by
        unfold sfA
        rw [e]
        exact (hg.a1 a2 ht).a2 a4 htC
      have hnb : (Go.Proofs.Ytmcbhpaajjlmmaa.rnd R C t s).1.NBS := sfD_nb (sfC_nb (sfB_nb hA.nb))
      split at he
      · rename_i hok
        have hk' := (SS.ok_iff hnb).1 hok
        have hP' := H.rnd hg hP e a1 a2 a3 a4 ht htC hk'
        split at he
        · cases he
          exact hP'
        · rename_i hd
          split at he
          · rename_i hlt
            obtain ⟨_, hne⟩ := rnd_lt hg ht htC e a2 a4 h3 (h5 ht htC) hk' (by simpa using hd)
            refine ih _ (by omega) (rnd_gd hg e a2 a4 ht htC hk') hP' ?_ s' he
            obtain ⟨p2, q2, e2, _⟩ := ls2_some (R := R) (C := C) (Nat.le_refl t) ht (Nat.le_refl t) htC hne
            rw [e2]
            dsimp only
            omega
          · cases he
      · cases he
end
theorem Stays.out {R C : Nat} {P : SS → Prop} (H : ∀ t, Stays R C t P) : ∀ (m t : Nat) (s s' : SS), t + m ≤ R → t + m ≤ C → SGD R C s → P s → sfOut R C m t s = some s' → P s'
  | 0, t, s, s', _, _, hg, hP, he => by cases he; exact hP
  | m + 1, t, s, s', h1, h2, hg, hP, he => by
    by_cases hn : (ls2 R C s.f t).1 < 0
    · rw [sfOut_stop hn] at he; cases he; exact hP
    · rw [sfOut_go hn] at he
      unfold sfGo at he
      rcases hi : sfIn R C t s with _ | s2
      · rw [hi] at he; cases he
      · rw [hi] at he
        have g2 := sfIn_gd (by omega) (by omega) _ s (Nat.le_refl _) hg hn s2 hi
        have p2 := (H t).in_ (by omega) (by omega) _ s (Nat.le_refl _) hg hP hn s2 hi
        have pN : P (sfN t s2) := by
          unfold sfN
          split
          · exact (H t).rneg s2 t (by omega) (Nat.le_refl _) g2 p2
          · exact p2
        exact Stays.out H m (t + 1) (sfN t s2) s' (by omega) (by omega) (g2.n (by omega)) pN he
theorem Stays.all {R C : Nat} {P : SS → Prop} (H : ∀ t, Stays R C t P) {xs : List Int} {s : SS} (h : sfX R C xs = some s) (h0 : P ⟨fun i j => cel xs C i j, idF, idF⟩) : P s := by
  rcases hm : isMat (R : Int) (C : Int) xs with _ | _
  · rw [sfX_no hm] at h; cases h
  · rw [sfX_yes hm] at h
    have M := isMat_iff.1 hm
    have hs := start_gd (R := R) (C := C) M.num
    exact Stays.out H _ _ _ _ (by omega) (by omega) ⟨⟨hs.ok.f, hs.ok.g, idF_ok C C⟩, ⟨hs.nb.f, hs.nb.g, idF_nb⟩⟩ h0 h
/-- d = u m v, and u takes only zeros to zeros. -/
def UMV (R C : Nat) (m : Fn2) (s : SS) : Prop := EqM R C (mm C (mm R s.g m) s.h) s.f ∧ INJ R s.g
theorem opA_val {f : Fn2} {R C i j y : Nat} {t : Int} (h : OKF R C (opA f i j t)) (hi : i < R) (hy : y < C) : opA f i j t i y = f i y + f j y * t := (opA_num (h i y hi hy)).2.2.1
theorem mm_left {n : Nat} {g g' m : Fn2} {x y : Nat} (h : ∀ k, k < n → g' x k = g x k) : mm n g' m x y = mm n g m x y := sumTo_congr n fun k hk => by rw [h k hk]
theorem UMV.stays (R C : Nat) (m : Fn2) (t0 : Nat) : Stays R C t0 (UMV R C m) where
  radd := fun s i j t hi hj _ _ hij hg hk hP => by
    have e1 : ∀ y, y < R → opA s.g i j t i y = s.g i y + s.g j y * t := fun y hy => opA_val hk.g hi hy
    refine ⟨fun x y hx hy => ?_, hP.2.add hi hj hij e1 (fun x y _ _ hne => opA_other hne)⟩
    show mm C (mm R (opA s.g i j t) m) s.h x y = opA s.f i j t x y
    have kf : OKF R C (opA s.f i j t) := hk.f
    by_cases hxi : x = i
    · subst hxi
      rw [opA_val kf hx hy, ← hP.1 x y hx hy, ← hP.1 j y hj hy]
      unfold mm
      rw [← sumTo_mul, ← sumTo_add]
      refine sumTo_congr C fun k hk2 => ?_
      have e2 : sumTo (fun l => opA s.g x j t x l * m l k) R = sumTo (fun l => s.g x l * m l k) R + sumTo (fun l => s.g j l * m l k) R * t := by
        rw [← sumTo_mul, ← sumTo_add]
        exact sumTo_congr R fun l hl => by rw [e1 l hl]; grind
      rw [e2]
      grind
    · rw [opA_other hxi, ← hP.1 x y hx hy]
      exact mm_left fun k hk2 => mm_left fun l hl => opA_other hxi
  rswap := fun s i j hi hj _ _ hij hg hP => by
    refine ⟨fun x y hx hy => ?_, hP.2.swap hi hj⟩
    show mm C (mm R (swF s.g i j) m) s.h x y = swF s.f i j x y
    have key : ∀ z, z < R → (∀ k, swF s.g i j x k = s.g z k) → (swF s.f i j x y = s.f z y) → mm C (mm R (swF s.g i j) m) s.h x y = swF s.f i j x y := fun z hz h1 h2 => by
      rw [h2, ← hP.1 z y hz hy]
      unfold mm
      refine sumTo_congr C fun k _ => ?_
      rw [sumTo_congr R (fun l _ => by rw [h1 l])]
    by_cases h1 : x = i
    · exact key j hj (fun k => by unfold swF; rw [if_pos h1]) (by unfold swF; rw [if_pos h1])
    · by_cases h2 : x = j
      · exact key i hi (fun k => by unfold swF; rw [if_neg h1, if_pos h2]) (by unfold swF; rw [if_neg h1, if_pos h2])
      · exact key x hx (fun k => by unfold swF; rw [if_neg h1, if_neg h2]) (by unfold swF; rw [if_neg h1, if_neg h2])
  rneg := fun s i hi _ hg hP => by
    have e1 : ∀ y, y < R → opM s.g i i y = -s.g i y := fun y hy => opM_at (hg.ok.g i y hi hy)
    have o1 : ∀ (f : Fn2) x y, x ≠ i → opM f i x y = f x y := fun f x y hne => by unfold opM; rw [if_neg hne]
    refine ⟨fun x y hx hy => ?_, hP.2.neg e1 (fun x y _ _ hne => o1 _ _ _ hne)⟩
    show mm C (mm R (opM s.g i) m) s.h x y = opM s.f i x y
    by_cases hxi : x = i
    · subst hxi
      rw [opM_at (hg.ok.f x y hx hy), ← hP.1 x y hx hy]
      unfold mm
      rw [← sumTo_neg]
      refine sumTo_congr C fun k hk2 => ?_
      have e2 : sumTo (fun l => opM s.g x x l * m l k) R = -sumTo (fun l => s.g x l * m l k) R := by
        rw [← sumTo_neg]
        exact sumTo_congr R fun l hl => by rw [e1 l hl, Int.neg_mul]
      rw [e2, Int.neg_mul]
    · rw [o1 _ _ _ hxi, ← hP.1 x y hx hy]
      exact mm_left fun k hk2 => mm_left fun l hl => o1 _ _ _ hxi
  cadd := fun s i j t hi hj _ _ hij hg hk hP => by
    refine ⟨fun x y hx hy => ?_, hP.2⟩
    show mm C (mm R s.g m) (tp (opA (tp s.h) i j t)) x y = tp (opA (tp s.f) i j t) x y
    have kf : OKF C R (opA (tp s.f) i j t) := tp_ok hk.f
    have kh : OKF C C (opA (tp s.h) i j t) := tp_ok hk.h
    by_cases hyi : y = i
    · subst hyi
      show _ = opA (tp s.f) y j t y x
      rw [opA_val kf hy hx]
      show _ = s.f x y + s.f x j * t
      rw [← hP.1 x y hx hy, ← hP.1 x j hx hj]
      unfold mm
      rw [← sumTo_mul, ← sumTo_add]
      refine sumTo_congr C fun k hk2 => ?_
      have e2 : tp (opA (tp s.h) y j t) k y = s.h k y + s.h k j * t := opA_val kh hy hk2
      rw [e2]
      grind
    · show _ = opA (tp s.f) i j t y x
      rw [opA_other hyi]
      show _ = s.f x y
      rw [← hP.1 x y hx hy]
      exact sumTo_congr C fun k hk2 => by
        have e2 : tp (opA (tp s.h) i j t) k y = s.h k y := opA_other hyi
        rw [e2]
  cswap := fun s i j hi hj _ _ hij hg hP => by
    refine ⟨fun x y hx hy => ?_, hP.2⟩
    show mm C (mm R s.g m) (tp (swF (tp s.h) i j)) x y = swF (tp s.f) i j y x
    have key : ∀ z, z < C → (∀ k, swF (tp s.h) i j y k = s.h k z) → (swF (tp s.f) i j y x = s.f x z) → mm C (mm R s.g m) (tp (swF (tp s.h) i j)) x y = swF (tp s.f) i j y x := fun z hz h1 h2 => by
      rw [h2, ← hP.1 x z hx hz]
      exact sumTo_congr C fun k _ => by
        have e2 : tp (swF (tp s.h) i j) k y = s.h k z := h1 k
        rw [e2]
    by_cases h1 : y = i
    · exact key j hj (fun k => by unfold swF; rw [if_pos h1]; rfl) (by unfold swF; rw [if_pos h1]; rfl)
    · by_cases h2 : y = j
      · exact key i hi (fun k => by unfold swF; rw [if_neg h1, if_pos h2]; rfl) (by unfold swF; rw [if_neg h1, if_pos h2]; rfl)
      · exact key y hy (fun k => by unfold swF; rw [if_neg h1, if_neg h2]; rfl) (by unfold swF; rw [if_neg h1, if_neg h2]; rfl)
theorem UMV.start (R C : Nat) (m : Fn2) : UMV R C m ⟨m, idF, idF⟩ := by
  refine ⟨fun i j hi hj => ?_, INJ.id R⟩
  show mm C (mm R idF m) idF i j = m i j
  have e1 : ∀ k, mm R idF m i k = m i k := fun k => mv_id (fun l => m l k) hi
  unfold mm
  rw [sumTo_one C hj]
  · show mm R idF m i j * idF j j = m i j
    rw [e1]; unfold idF; rw [if_pos rfl, Int.mul_one]
  · intro k hk hne
    unfold idF
    rw [if_neg hne, Int.mul_zero]
/-- The Smith form of a matrix is the product. -/
theorem sfX_umv {R C : Nat} {xs : List Int} {s : SS} (h : sfX R C xs = some s) : UMV R C (fun i j => cel xs C i j) s := Stays.all (UMV.stays R C _) h (UMV.start R C _)
/-- A solution of the Smith form gives one of the matrix. -/
theorem sf_solves {R C : Nat} {m : Fn2} {s : SS} (h : UMV R C m s) {b y : Nat → Int} (hy : ∀ i, i < R → mv C s.f y i = mv R s.g b i) : ∀ i, i < R → mv C m (mv C s.h y) i = b i := by
  refine h.2.eq fun i hi => ?_
  rw [← hy i hi, ← mv_mm C R s.g m (mv C s.h y) i, ← mv_mm C C (mm R s.g m) s.h y i]
  exact mv_congr (fun k hk => h.1 i k hi hk) (fun _ _ => rfl)
/-- Outside of the diagonal there are zeros in the first t rows and columns. -/
def Clr (R C t : Nat) (s : SS) : Prop := ∀ x y, x < R → y < C → x ≠ y → (x < t ∨ y < t) → s.f x y = 0
theorem Clr.stays (R C t : Nat) : Stays R C t (Clr R C t) where
  radd := fun s i j q hi hj ti tj hij hg hk hP x y hx hy hxy h => by
    show opA s.f i j q x y = 0
    have kf : OKF R C (opA s.f i j q) := hk.f
    by_cases hxi : x = i
    · subst hxi
      rw [opA_val kf hx hy, hP x y hx hy hxy h, hP j y hj hy (by omega) (.inr (by omega)), Int.zero_mul, Int.zero_add]
    · rw [opA_other hxi]; exact hP x y hx hy hxy h
  rswap := fun s i j hi hj ti tj hij hg hP x y hx hy hxy h => by
    show swF s.f i j x y = 0
    unfold swF
    split
    · rename_i e; exact hP j y hj hy (by omega) (.inr (by omega))
    · split
      · rename_i e; exact hP i y hi hy (by omega) (.inr (by omega))
      · exact hP x y hx hy hxy h
  rneg := fun s i hi ti hg hP x y hx hy hxy h => by
    show opM s.f i x y = 0
    by_cases hxi : x = i
    · subst hxi
      rw [opM_at (hg.ok.f x y hx hy), hP x y hx hy hxy h]; rfl
    · unfold opM; rw [if_neg hxi]; exact hP x y hx hy hxy h
  cadd := fun s i j q hi hj ti tj hij hg hk hP x y hx hy hxy h => by
    show opA (tp s.f) i j q y x = 0
    have kf : OKF C R (opA (tp s.f) i j q) := tp_ok hk.f
    by_cases hyi : y = i
    · subst hyi
      rw [opA_val kf hy hx]
      show s.f x y + s.f x j * q = 0
      rw [hP x y hx hy hxy h, hP x j hx hj (by omega) (.inl (by omega)), Int.zero_mul, Int.zero_add]
    · rw [opA_other hyi]; exact hP x y hx hy hxy h
  cswap := fun s i j hi hj ti tj hij hg hP x y hx hy hxy h => by
    show swF (tp s.f) i j y x = 0
    unfold swF
    split
    · rename_i e; exact hP x j hx hj (by omega) (.inl (by omega))
    · split
      · rename_i e; exact hP x i hx hi (by omega) (.inl (by omega))
      · exact hP x y hx hy hxy h
theorem rnd_done {R C t : Nat} {s : SS} (h : (rnd R C t s).2 = true) : clnS R C t (rnd R C t s).1.f = true ∧ fd R C t (rnd R C t s).1.f = none := by
  unfold rnd at h ⊢
  generalize sfC C t (sfB R t (sfA R C t s)) = s2 at *
  unfold sfD at h ⊢
  by_cases hc : clnS R C t s2.f = true
  · rw [if_pos hc] at h ⊢
    rcases hf : fd R C t s2.f with _ | i
    · exact ⟨hc, hf⟩
    · rw [hf] at h; cases h
  · rw [if_neg hc] at h; cases h
/-- What holds at (t, t) when nothing is left. -/
def Dn (R C t : Nat) (s : SS) : Prop := clnS R C t s.f = true ∧ fd R C t s.f = none ∧ s.f t t ≠ 0
theorem rnd_piv {R C t p q : Nat} {s : SS} (h : SGD R C s) (e : ls2 R C s.f t = ((p : Int), (q : Int))) (hp : p < R) (hq : q < C) (hpq : s.f p q ≠ 0) (ht : t < R) (htC : t < C) (hk : (rnd R C t s).1.OK R C) (hd : (rnd R C t s).2 = true) : (rnd R C t s).1.f t t ≠ 0 := by
  have eA : sfA R C t s = sfA2 t q (sfA1 t p s) := by unfold sfA; rw [e]; rfl
  have hA : SGD R C (sfA R C t s) := by rw [eA]; exact (h.a1 hp ht).a2 hq htC
  have hpiv : (sfA R C t s).f t t = s.f p q := by rw [eA]; exact sfA_piv p q s
  obtain ⟨hB, hC⟩ := rnd_back hA.nb hk
  obtain ⟨f1, -, -⟩ := rnd_facts hA.nb ht htC (by rw [hpiv]; exact hpq) hB hC
  unfold rnd at hd ⊢
  generalize sfC C t (sfB R t (sfA R C t s)) = s2 at *
  unfold sfD at hd ⊢
  by_cases hc : clnS R C t s2.f = true
  · rw [if_pos hc] at hd ⊢
    rcases hf : fd R C t s2.f with _ | i
    · show s2.f t t ≠ 0
      rw [f1, hpiv]; exact hpq
    · rw [hf] at hd; cases hd
  · rw [if_neg hc] at hd; cases hd
theorem sfIn_dn {R C t : Nat} (ht : t < R) (htC : t < C) : ∀ (k : Nat) (s : SS), sfMs R C t s ≤ k → SGD R C s → ¬ (ls2 R C s.f t).1 < 0 → ∀ s', sfIn R C t s = some s' → Dn R C t s' := by
  intro k
  induction k with
  | zero =>
    intro s hk hg hn s' he
    rcases ls2_cases R C s.f t with ⟨e, _⟩ | ⟨p, q, e, ⟨a1, a2, a3, a4⟩, h3, h4, h5⟩
    · rw [e] at hn; exact absurd (by decide) hn
    · have hV : lsV R C t s = (s.f p q).natAbs := by unfold lsV; rw [e]; rfl
      unfold sfMs at hk
      omega
  | succ k ih =>
    intro s hk hg hn s' he
    rcases ls2_cases R C s.f t with ⟨e, _⟩ | ⟨p, q, e, ⟨a1, a2, a3, a4⟩, h3, h4, h5⟩
    · rw [e] at hn; exact absurd (by decide) hn
    · rw [sfIn] at he
      have hA : SGD R C (sfA R C t s) := by
        unfold sfA
        rw [e]
        exact (hg.a1 a2 ht).a2 a4 htC
      have hnb : (rnd R C t s).1.NBS := sfD_nb (sfC_nb (sfB_nb hA.nb))
      split at he
      · rename_i hok
        have hk' := (SS.ok_iff hnb).1 hok
        split at he
        · rename_i hd
          cases he
          obtain ⟨d1, d2⟩ := rnd_done hd
          exact ⟨d1, d2, rnd_piv hg e a2 a4 h3 ht htC hk' hd⟩
        · rename_i hd
          split at he
          · rename_i hlt
            obtain ⟨_, hne⟩ := rnd_lt hg ht htC e a2 a4 h3 (h5 ht htC) hk' (by simpa using hd)
            refine ih _ (by omega) (rnd_gd hg e a2 a4 ht htC hk') ?_ s' he
            obtain ⟨p2, q2, e2, _⟩ := ls2_some (R := R) (C := C) (Nat.le_refl t) ht (Nat.le_refl t) htC hne
            rw [e2]
            dsimp only
            omega
          · cases he
      · cases he
theorem Dn.clr {R C t : Nat} {s : SS} (h : Dn R C t s) (hc : Clr R C t s) : Clr R C (t + 1) s := fun x y hx hy hxy hl => by
  obtain ⟨z1, z2⟩ := clnS_yes h.1
  by_cases h1 : x < t ∨ y < t
  · exact hc x y hx hy hxy h1
  · rcases hl with hl | hl
    · obtain rfl : x = t := by omega
      exact z2 y (by omega) hy
    · obtain rfl : y = t := by omega
      exact z1 x (by omega) hx
theorem sfOut_diag {R C : Nat} : ∀ (m t : Nat) (s s' : SS), t + m = min R C → SGD R C s → Clr R C t s → sfOut R C m t s = some s' → ∀ x y, x < R → y < C → x ≠ y → s'.f x y = 0
  | 0, t, s, s', hm, hg, hc, he => by
    cases he
    exact fun x y hx hy hxy => hc x y hx hy hxy (by omega)
  | m + 1, t, s, s', hm, hg, hc, he => by
    by_cases hn : (ls2 R C s.f t).1 < 0
    · rw [sfOut_stop hn] at he
      cases he
      intro x y hx hy hxy
      by_cases h1 : x < t ∨ y < t
      · exact hc x y hx hy hxy h1
      · rcases ls2_cases R C s.f t with ⟨_, h⟩ | ⟨p, q, e, _⟩
        · exact h x y (by omega) hx (by omega) hy
        · rw [e] at hn; dsimp only at hn; omega
    · rw [sfOut_go hn] at he
      unfold sfGo at he
      rcases hi : sfIn R C t s with _ | s2
      · rw [hi] at he; cases he
      · rw [hi] at he
        have ht : t < R ∧ t < C := by omega
        have g2 := sfIn_gd ht.1 ht.2 _ s (Nat.le_refl _) hg hn s2 hi
        have p2 := (Clr.stays R C t).in_ ht.1 ht.2 _ s (Nat.le_refl _) hg hc hn s2 hi
        have d2 := sfIn_dn ht.1 ht.2 _ s (Nat.le_refl _) hg hn s2 hi
        have p3 := d2.clr p2
        have pN : Clr R C (t + 1) (sfN t s2) := by
          unfold sfN
          split
          · intro x y hx hy hxy h
            show opM s2.f t x y = 0
            by_cases hxt : x = t
            · subst hxt
              rw [opM_at (g2.ok.f x y hx hy), p3 x y hx hy hxy h]; rfl
            · unfold opM; rw [if_neg hxt]; exact p3 x y hx hy hxy h
          · exact p3
        exact sfOut_diag m (t + 1) (sfN t s2) s' (by omega) (g2.n ht.1) pN he
/-- Outside of the diagonal the Smith form has zeros. -/
theorem sfX_diag {R C : Nat} {xs : List Int} {s : SS} (h : sfX R C xs = some s) : ∀ x y, x < R → y < C → x ≠ y → s.f x y = 0 := by
  rcases hm : isMat (R : Int) (C : Int) xs with _ | _
  · rw [sfX_no hm] at h; cases h
  · rw [sfX_yes hm] at h
    have M := isMat_iff.1 hm
    have hs := start_gd (R := R) (C := C) M.num
    exact sfOut_diag _ _ _ _ (by omega) ⟨⟨hs.ok.f, hs.ok.g, idF_ok C C⟩, ⟨hs.nb.f, hs.nb.g, idF_nb⟩⟩ (fun x y _ _ _ h => by omega) h
end Go.Proofs.Ytmcbhpaajjlmmaa

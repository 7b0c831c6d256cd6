/- Even and Weighted answer what the references answer: the plain statement behind the law SplitMatchesSpec, for every input. -/
import Derived.Test.YtegoadlfchbgfaaPx3
import Derived.Test.YtegoadlfchbgfaaPureLib
namespace Go.Proofs.Ytegoadlfchbgfaa.Pure
open Go.RowKit Go.Proofs.Ytegoadlfchbgfaa.P Go.Proofs.YtegoadlfchbgfaaW.PrintWords Go.Proofs.YtegoadlfchbgfaaW.PrintLast

theorem tk_range (f : Nat → Int) (i : Nat) : (List.range (i + 1)).map f = (List.range i).map f ++ [f i] := by
  rw [List.range_succ, List.map_append]; rfl

/-! ### the reference of Even -/
theorem refEven_l0 (t q : Int) (n r : Nat) (hn0 : 0 < n) (hn : n ≤ 65536) (hq0 : 0 ≤ q) (hq1 : q ≤ 2147483647) (hq : Int.tdiv t (n : Int) = q) (hr : Int.tmod t (n : Int) = r) :
    ∀ (d k i : Nat), i + d = n → d < k → solventref33_Even.l0 k t (n : Int) ((List.range i).map fun (j : Nat) => q + (if j < r then 1 else 0)) (i : Int) = some (evL q n r, 0)
  | 0, k, i, hd, hk => by
    obtain ⟨k, rfl⟩ : ∃ m, k = m + 1 := ⟨k - 1, by omega⟩
    obtain rfl : i = n := by omega
    rw [solventref33_Even.l0, if_neg (by omega)]
    rfl
  | d + 1, k, i, hd, hk => by
    obtain ⟨k, rfl⟩ : ∃ m, k = m + 1 := ⟨k - 1, by omega⟩
    have ih := refEven_l0 t q n r hn0 hn hq0 hq1 hq hr d k (i + 1) (by omega) (by omega)
    rw [tk_range] at ih
    have e : wrap64 ((i : Int) + 1) = ((i + 1 : Nat) : Int) := wrap_in _ (by omega) (by omega)
    rw [solventref33_Even.l0, if_pos (by omega), if_neg (by omega), hr, hq, wrap_in q (by omega) (by omega), wrap_in (q + 1) (by omega) (by omega), e]
    by_cases c : i < r
    · rw [if_pos (by omega), if_pos (by simp; omega)]
      rw [if_pos c] at ih
      exact ih
    · rw [if_neg (by omega), if_pos (by simp; omega)]
      rw [if_neg c, Int.add_zero] at ih
      exact ih

theorem refEven_f (t n : Int) (k : Nat) (hk : n.toNat + 3 ≤ k) : solventref33_Even.f k t n = some (evenRes t n) := by
  obtain ⟨k, rfl⟩ : ∃ m, k = m + 1 := ⟨k - 1, by omega⟩
  unfold solventref33_Even.f evenRes
  by_cases h1 : t < 0
  · rw [if_pos h1, if_neg (by omega), solventref33_Even.j0, if_pos rfl]
  · by_cases h2 : t > 2147483647
    · rw [if_neg h1, if_pos h2, if_neg (by omega), solventref33_Even.j0, if_pos rfl]
    · by_cases h3 : n < 1
      · rw [if_neg h1, if_neg h2, if_pos h3, if_neg (by omega), solventref33_Even.j0, if_pos rfl]
      · by_cases h4 : n > 65536
        · rw [if_neg h1, if_neg h2, if_neg h3, if_neg (by omega), solventref33_Even.j0, if_pos (by simpa using h4)]
        · obtain ⟨N, rfl⟩ := Int.eq_ofNat_of_zero_le (show 0 ≤ n by omega)
          have hq0 : 0 ≤ t / (N : Int) := Int.ediv_nonneg (by omega) (by omega)
          have hq1 : t / (N : Int) ≤ 2147483647 := Int.le_trans (Int.ediv_le_self _ (by omega)) (by omega)
          have hr0 : 0 ≤ t % (N : Int) := Int.emod_nonneg _ (by omega)
          rw [if_neg h1, if_neg h2, if_neg h3, if_pos (by omega), solventref33_Even.j0, if_neg (by simpa using h4), Int.toNat_natCast]
          exact refEven_l0 t (t / (N : Int)) N (t % (N : Int)).toNat (by omega) (by omega) hq0 hq1 (Int.tdiv_eq_ediv_of_nonneg (by omega)) (by rw [Int.tmod_eq_emod_of_nonneg (by omega), Int.toNat_of_nonneg hr0]) N k 0 (by omega) (by simp at hk; omega)

/-! ### the reference's sum of weights -/
theorem rd_wAt (ws : List Int) (i : Nat) : rd ws (i : Int) = wAt ws i := by simp [rd, wAt]
theorem take_wAt (ws : List Int) (i : Nat) (h : i < ws.length) : (ws.take (i + 1)).sum = (ws.take i).sum + wAt ws i := by
  rw [List.take_succ_eq_append_getElem h, List.sum_append, List.sum_singleton]
  simp [wAt, List.getD_eq_getElem?_getD, h]
theorem nonneg_sum2 : ∀ l : List Int, (∀ x, x ∈ l → 0 ≤ x) → 0 ≤ l.sum
  | [], _ => by simp
  | a :: t, h => by
    have h3 := nonneg_sum2 t (fun x hx => h x (List.mem_cons_of_mem _ hx))
    have h4 := h a List.mem_cons_self
    simp only [List.sum_cons]; omega
theorem all_mem (ws : List Int) (h : (ws.all fun x => decide (0 ≤ x)) = true) : ∀ x, x ∈ ws → 0 ≤ x := by
  intro x hx
  have := List.all_eq_true.1 h x hx
  simpa using this
theorem take_le (ws : List Int) (h : (ws.all fun x => decide (0 ≤ x)) = true) (i : Nat) : (ws.take i).sum ≤ ws.sum := by
  have h2 : ws.sum = (ws.take i).sum + (ws.drop i).sum := by rw [← List.sum_append, List.take_append_drop]
  have h4 := nonneg_sum2 (ws.drop i) (fun x hx => all_mem ws h x (List.mem_of_mem_drop hx))
  omega
theorem wOk_bad (ws : List Int) (h : ¬ ((ws.all fun x => decide (0 ≤ x)) = true ∧ ws.sum ≤ 2147483647)) : wOk 0 ws = false := by
  rw [← Bool.not_eq_true]
  intro hk
  simp only [wOk, Bool.and_eq_true, decide_eq_true_eq] at hk
  exact h ⟨hk.1.1.1.1.2, hk.1.1.1.2⟩
theorem wOk_good (ws : List Int) (hl : ws.length ≤ 65536) (h1 : ∀ j, j < ws.length → 0 ≤ wAt ws j) (h2 : ws.sum ≤ 2147483647) : wOk 0 ws = decide (ws.sum > 0) := by
  have ha : (ws.all fun x => decide (0 ≤ x)) = true := by
    rw [List.all_eq_true]
    intro x hx
    obtain ⟨j, hj, e⟩ := List.mem_iff_getElem.1 hx
    have h0 := h1 j hj
    have : wAt ws j = ws[j] := by simp [wAt, List.getD_eq_getElem?_getD, hj]
    rw [this, e] at h0
    simpa using h0
  unfold wOk
  rw [ha, decide_eq_true hl, decide_eq_true h2]
  simp
theorem wOk_at (t : Int) (ws : List Int) : wOk t ws = (wOk 0 ws && (decide (0 ≤ t) && decide (t ≤ 2147483647))) := by
  unfold wOk
  simp [Bool.and_assoc]

theorem refsum_l0 (ws : List Int) (hl : ws.length ≤ 300) : ∀ (d k i : Nat), i + d = ws.length → 2 * d < k → (∀ j, j < i → 0 ≤ wAt ws j) → 0 ≤ (ws.take i).sum → (ws.take i).sum ≤ 2147483647 →
    ∃ s, solventref33_sum.l0 k ws (ws.take i).sum (i : Int) = some (s, wOk 0 ws) ∧ (wOk 0 ws = true → s = ws.sum)
  | 0, k, i, hd, hk, h1, h2, h3 => by
    obtain ⟨k, rfl⟩ : ∃ m, k = m + 1 := ⟨k - 1, by omega⟩
    obtain rfl : i = ws.length := by omega
    rw [List.take_of_length_le (by omega)] at h2 h3 ⊢
    refine ⟨ws.sum, ?_, fun _ => rfl⟩
    rw [solventref33_sum.l0, if_neg (by omega), wOk_good ws (by omega) h1 h3]
  | d + 1, k, i, hd, hk, h1, h2, h3 => by
    obtain ⟨k, rfl⟩ : ∃ m, k = m + 2 := ⟨k - 2, by omega⟩
    have hi : i < ws.length := by omega
    have ht := take_wAt ws i hi
    rw [solventref33_sum.l0, if_pos (by omega), if_pos (by omega), rd_wAt]
    by_cases c1 : wAt ws i < 0
    · rw [if_pos c1, solventref33_sum.j2, if_pos rfl]
      have := wOk_bad ws (fun hg => by
        have := ((sum_le_of_all ws hg.1).2 i hi).1
        omega)
      refine ⟨0, by rw [this], fun h => absurd h (by rw [this]; decide)⟩
    · rw [if_neg c1]
      by_cases c2 : wAt ws i > 2147483647
      · rw [decide_eq_true c2, solventref33_sum.j2, if_pos rfl]
        have := wOk_bad ws (fun hg => by
          have := ((sum_le_of_all ws hg.1).2 i hi).2
          omega)
        refine ⟨0, by rw [this], fun h => absurd h (by rw [this]; decide)⟩
      · rw [decide_eq_false c2, solventref33_sum.j2, if_neg (by decide), if_pos (by omega), if_pos (by omega), rd_wAt, wrap_in ((ws.take i).sum + wAt ws i) (by omega) (by omega), ← ht]
        by_cases c3 : (ws.take (i + 1)).sum > 2147483647
        · rw [if_pos c3]
          have := wOk_bad ws (fun hg => by
            have := take_le ws hg.1 (i + 1)
            omega)
          refine ⟨0, by rw [this], fun h => absurd h (by rw [this]; decide)⟩
        · rw [if_neg c3, show wrap64 ((i : Int) + 1) = ((i + 1 : Nat) : Int) from wrap_in _ (by omega) (by omega)]
          exact refsum_l0 ws hl d k (i + 1) (by omega) (by omega) (fun j hj => by
            by_cases e : j = i
            · subst e; omega
            · exact h1 j (by omega)) (by omega) (by omega)

theorem refsum_f (ws : List Int) (hl : ws.length ≤ 300) (k : Nat) (hk : 700 ≤ k) : ∃ s, solventref33_sum.f k ws = some (s, wOk 0 ws) ∧ (wOk 0 ws = true → s = ws.sum) := by
  obtain ⟨k, rfl⟩ : ∃ m, k = m + 1 := ⟨k - 1, by omega⟩
  unfold solventref33_sum.f
  by_cases h0 : (ws.length : Int) = 0
  · have : ws = [] := List.length_eq_zero_iff.1 (by omega)
    subst this
    rw [if_pos h0, solventref33_sum.j0, if_pos rfl]
    exact ⟨0, by rfl, fun h => absurd h (by decide)⟩
  · rw [if_neg h0, decide_eq_false (by omega), solventref33_sum.j0, if_neg (by decide)]
    exact refsum_l0 ws hl ws.length k 0 (by omega) (by omega) (fun j hj => absurd hj (by omega)) (by simp) (by simp)

/-! ### the reference of Weighted -/
def shL (t : Int) (ws : List Int) (i : Nat) : List Int := (List.range i).map (wShare t ws)
def rdL (t : Int) (ws : List Int) (r : Nat) : List Int := (List.range ws.length).map fun j => wShare t ws j + (if wRank t ws j < r then 1 else 0)
def gvL (t : Int) (ws : List Int) (r : Nat) : List Bool := (List.range ws.length).map fun j => decide (wRank t ws j < r)

structure Facts (t : Int) (ws : List Int) : Prop where
  hl : ws.length ≤ 300
  hall : ∀ j, j < ws.length → 0 ≤ wAt ws j ∧ wAt ws j ≤ ws.sum
  hs0 : 0 < ws.sum
  hs : ws.sum ≤ 2147483647
  t0 : 0 ≤ t
  t1 : t ≤ 2147483647

theorem prod_b {t : Int} {ws : List Int} (F : Facts t ws) (j : Nat) (h : j < ws.length) : 0 ≤ t * wAt ws j ∧ t * wAt ws j ≤ 4611686014132420609 := by
  have := F.hall j h
  have := F.hs
  have h1 := Int.mul_nonneg F.t0 (F.hall j h).1
  have h2 := Int.mul_le_mul_of_nonneg_right F.t1 (F.hall j h).1
  omega
theorem share_b {t : Int} {ws : List Int} (F : Facts t ws) (j : Nat) (h : j < ws.length) : 0 ≤ wShare t ws j ∧ wShare t ws j ≤ t := by
  have h1 := prod_b F j h
  refine ⟨Int.ediv_nonneg h1.1 (by have := F.hs0; omega), ?_⟩
  have p2 : t * wAt ws j ≤ t * ws.sum := Int.mul_le_mul_of_nonneg_left (F.hall j h).2 F.t0
  have p3 : t * wAt ws j / ws.sum ≤ t * ws.sum / ws.sum := Int.ediv_le_ediv F.hs0 p2
  rw [Int.mul_ediv_cancel _ (by have := F.hs0; omega)] at p3
  exact p3

theorem set_range {α : Type} (f g : Nat → α) (n m : Nat) (v : α) (hm : g m = v) (hg : ∀ j, j < n → j ≠ m → g j = f j) : ((List.range n).map f).set m v = (List.range n).map g := by
  apply List.ext_getElem
  · simp
  · intro j h1 h2
    rw [List.getElem_set]
    simp only [List.getElem_map, List.getElem_range]
    by_cases e : m = j
    · subst e; rw [if_pos rfl, hm]
    · rw [if_neg e, hg j (by simpa using h2) (fun h => e h.symm)]

theorem w_l2 (t : Int) (ws : List Int) (F : Facts t ws) (r : Nat) (hrn : r < ws.length) (x9 : Int) (out : List Int × Int) (K : Nat)
    (hr : ∀ k, K ≤ k → ∀ m, m < ws.length → wRank t ws m = r → solventref33_Weighted.l1 k t ws ws.sum ((rdL t ws r).set m (wrap64 (rd (rdL t ws r) (m : Int) + 1))) (wrap64 (x9 - 1)) ((gvL t ws r).set m true) = some out) :
    ∀ (d k i : Nat) (b : Int), i + d = ws.length → d + K < k → ((b = -1 ∧ ∀ j, j < i → wRank t ws j < r) ∨ ∃ m : Nat, b = (m : Int) ∧ m < i ∧ r ≤ wRank t ws m ∧ ∀ j, j < i → r ≤ wRank t ws j → wRank t ws m ≤ wRank t ws j) →
      solventref33_Weighted.l2 k t ws ws.sum (rdL t ws r) x9 (gvL t ws r) b (i : Int) = some out
  | 0, k, i, b, hd, hk, hb => by
    obtain ⟨k, rfl⟩ : ∃ m, k = m + 1 := ⟨k - 1, by omega⟩
    obtain ⟨z, hz, ez⟩ := rank_surj t ws r hrn
    have l1 : (rdL t ws r).length = ws.length := by simp [rdL]
    have l2 : (gvL t ws r).length = ws.length := by simp [gvL]
    rcases hb with ⟨_, hb⟩ | ⟨m, rfl, hm, hmr, hmin⟩
    · have := hb z (by omega)
      omega
    · have := hmin z (by omega) (by omega)
      rw [solventref33_Weighted.l2, if_neg (by omega), if_pos (by omega), if_pos (by rw [l2]; omega), if_pos (by rw [l1]; omega), Int.toNat_natCast]
      exact hr k (by omega) m (by omega) (by omega)
  | d + 1, k, i, b, hd, hk, hb => by
    obtain ⟨k, rfl⟩ : ∃ m, k = m + 1 := ⟨k - 1, by omega⟩
    have hi : i < ws.length := by omega
    have l2 : (gvL t ws r).length = ws.length := by simp [gvL]
    have e : wrap64 ((i : Int) + 1) = ((i + 1 : Nat) : Int) := wrap_in _ (by have := F.hl; omega) (by have := F.hl; omega)
    have eg : rdOf false (gvL t ws r) (i : Int) = decide (wRank t ws i < r) := by simp [rdOf, gvL, List.getD_eq_getElem?_getD, hi]
    have ih := fun b hb => w_l2 t ws F r hrn x9 out K hr d k (i + 1) b (by omega) (by omega) hb
    rw [solventref33_Weighted.l2, if_pos (by omega), if_pos (by omega), if_pos (by rw [l2]; omega), eg, e]
    by_cases c : wRank t ws i < r
    · rw [if_pos (decide_eq_true c)]
      refine ih b ?_
      rcases hb with ⟨h1, h2⟩ | ⟨m, h1, h2, h3, h4⟩
      · refine Or.inl ⟨h1, fun j hj => ?_⟩
        by_cases ej : j = i
        · subst ej; exact c
        · exact h2 j (by omega)
      · refine Or.inr ⟨m, h1, by omega, h3, fun j hj hjr => ?_⟩
        by_cases ej : j = i
        · subst ej; omega
        · exact h4 j (by omega) hjr
    · rw [if_neg (by simpa using c)]
      rcases hb with ⟨rfl, h2⟩ | ⟨m, rfl, h2, h3, h4⟩
      · rw [if_pos (by decide)]
        refine ih _ (Or.inr ⟨i, rfl, by omega, by omega, fun j hj hjr => ?_⟩)
        by_cases ej : j = i
        · subst ej; exact Nat.le_refl _
        · have := h2 j (by omega)
          omega
      · have pi := prod_b F i hi
        have pm := prod_b F m (by omega)
        have s0 := F.hs0
        rw [if_neg (by omega), if_neg (by omega), if_pos (by omega), if_pos (by omega), rd_wAt, rd_wAt, wrap_in (t * wAt ws i) (by omega) (by omega), wrap_in (t * wAt ws m) (by omega) (by omega),
          Int.tmod_eq_emod_of_nonneg pi.1, Int.tmod_eq_emod_of_nonneg pm.1]
        by_cases g : t * wAt ws i % ws.sum > t * wAt ws m % ws.sum
        · rw [if_pos g]
          have hlt : wRank t ws i < wRank t ws m := rank_lt_of_ahead t ws i m hi ((wAhead_iff t ws i m).2 (Or.inl g))
          refine ih _ (Or.inr ⟨i, rfl, by omega, by omega, fun j hj hjr => ?_⟩)
          by_cases ej : j = i
          · subst ej; exact Nat.le_refl _
          · have := h4 j (by omega) hjr
            omega
        · rw [if_neg g]
          have hlt : wRank t ws m < wRank t ws i := rank_lt_of_ahead t ws m i (by omega) ((wAhead_iff t ws m i).2 (by
            unfold wRem
            rcases Int.lt_trichotomy (t * wAt ws i % ws.sum) (t * wAt ws m % ws.sum) with h | h | h
            · exact Or.inl h
            · exact Or.inr ⟨h.symm, h2⟩
            · exact absurd h g))
          refine ih _ (Or.inr ⟨m, rfl, by omega, h3, fun j hj hjr => ?_⟩)
          by_cases ej : j = i
          · subst ej; omega
          · exact h4 j (by omega) hjr

theorem w_l1 (t : Int) (ws : List Int) (F : Facts t ws) (R : Nat) (hR : 310 ≤ R) : ∀ (d k r : Nat), (wLeft t ws) = (r : Int) + d → R * d < k → solventref33_Weighted.l1 k t ws ws.sum (rdL t ws r) (d : Int) (gvL t ws r) = some (wList t ws, 0)
  | 0, k, r, hd, hk => by
    obtain ⟨k, rfl⟩ : ∃ m, k = m + 1 := ⟨k - 1, by omega⟩
    rw [solventref33_Weighted.l1, if_neg (by omega)]
    have : rdL t ws r = wList t ws := by
      unfold rdL wList
      apply List.map_congr_left
      intro j _
      unfold wGive
      rw [hd]
      by_cases c : wRank t ws j < r
      · rw [if_pos c, if_pos (by omega)]
      · rw [if_neg c, if_neg (by omega)]
    rw [this]
  | d + 1, k, r, hd, hk => by
    obtain ⟨k, rfl⟩ : ∃ m, k = m + 1 := ⟨k - 1, by omega⟩
    have hL := left_bounds t ws F.hs0
    have hl := F.hl
    rw [Nat.mul_add] at hk
    rw [solventref33_Weighted.l1, if_pos (by omega)]
    refine w_l2 t ws F r (by omega) _ _ (R * d + 1) ?_ ws.length k 0 (-1) (by omega) (by omega) (Or.inl ⟨rfl, fun j hj => absurd hj (by omega)⟩)
    intro k hk m hm hmr
    have ih := w_l1 t ws F R hR d k (r + 1) (by omega) (by omega)
    have sm := share_b F m hm
    have t1 := F.t1
    have e1 : rd (rdL t ws r) (m : Int) = wShare t ws m := by
      unfold rdL
      rw [rd_map _ _ m hm, if_neg (by omega)]
      omega
    have e2 : (rdL t ws r).set m (wShare t ws m + 1) = rdL t ws (r + 1) := by
      unfold rdL
      refine set_range _ _ _ _ _ ?_ ?_
      · rw [if_pos (by omega)]
      · intro j hj hne
        have : wRank t ws j ≠ r := fun h => hne (rank_inj t ws j m hj hm (by omega))
        by_cases c : wRank t ws j < r
        · rw [if_pos c, if_pos (by omega)]
        · rw [if_neg c, if_neg (by omega)]
    have e3 : (gvL t ws r).set m true = gvL t ws (r + 1) := by
      unfold gvL
      refine set_range _ _ _ _ _ ?_ ?_
      · exact decide_eq_true (by omega)
      · intro j hj hne
        have : wRank t ws j ≠ r := fun h => hne (rank_inj t ws j m hj hm (by omega))
        exact decide_eq_decide.2 (by omega)
    rw [e1, wrap_in (wShare t ws m + 1) (by omega) (by omega), e2, e3, wrap_in _ (by omega) (by omega), show ((d + 1 : Nat) : Int) - 1 = (d : Int) by omega]
    exact ih

theorem shares_sum {t : Int} {ws : List Int} (F : Facts t ws) (i : Nat) (hi : i ≤ ws.length) : 0 ≤ (shL t ws i).sum ∧ (shL t ws i).sum ≤ t * (i : Int) :=
  sum_bounds (wShare t ws) t i (fun j hj => share_b F j (by omega))

theorem w_l0 (t : Int) (ws : List Int) (F : Facts t ws) (K : Nat) (hK : 100000 ≤ K) : ∀ (d k i : Nat), i + d = ws.length → d + K < k → solventref33_Weighted.l0 k t ws ws.sum (shL t ws i) (t - (shL t ws i).sum) (i : Int) = some (wList t ws, 0)
  | 0, k, i, hd, hk => by
    obtain ⟨k, rfl⟩ : ∃ m, k = m + 1 := ⟨k - 1, by omega⟩
    obtain rfl : i = ws.length := by omega
    have hl := F.hl
    have hL := left_bounds t ws F.hs0
    rw [solventref33_Weighted.l0, if_neg (by omega), if_pos (by omega), if_pos (by omega), Int.toNat_natCast]
    have e1 : shL t ws ws.length = rdL t ws 0 := by
      unfold shL rdL
      apply List.map_congr_left
      intro j _
      rw [if_neg (by omega)]; omega
    have e2 : List.replicate ws.length false = gvL t ws 0 := by
      unfold gvL
      apply List.ext_getElem
      · simp
      · intro j h1 h2; simp
    have e3 : t - (shL t ws ws.length).sum = ((wLeft t ws).toNat : Int) := by
      rw [Int.toNat_of_nonneg hL.1]; rfl
    rw [e3, e1, e2]
    exact w_l1 t ws F 310 (Nat.le_refl _) (wLeft t ws).toNat k 0 (by omega) (by omega)
  | d + 1, k, i, hd, hk => by
    obtain ⟨k, rfl⟩ : ∃ m, k = m + 1 := ⟨k - 1, by omega⟩
    have hi : i < ws.length := by omega
    have hl := F.hl
    have s0 := F.hs0
    have t0 := F.t0
    have t1 := F.t1
    have p := prod_b F i hi
    have sb := share_b F i hi
    have ih := w_l0 t ws F K hK d k (i + 1) (by omega) (by omega)
    have es : shL t ws (i + 1) = shL t ws i ++ [wShare t ws i] := tk_range _ _
    have ss : (shL t ws (i + 1)).sum = (shL t ws i).sum + wShare t ws i := by rw [es, List.sum_append, List.sum_singleton]
    have b1 := shares_sum F i (by omega)
    have b2 : t * (i : Int) ≤ 2147483647 * (i : Int) := Int.mul_le_mul_of_nonneg_right t1 (by omega)
    have len : (shL t ws i).length = i := by simp [shL]
    have ed : wrap64 (Int.tdiv (wrap64 (t * rd ws (i : Int))) ws.sum) = wShare t ws i := by
      rw [rd_wAt, wrap_in (t * wAt ws i) (by omega) (by omega), Int.tdiv_eq_ediv_of_nonneg p.1]
      exact wrap_in _ (by unfold wShare at sb; omega) (by unfold wShare at sb; omega)
    rw [solventref33_Weighted.l0, if_pos (by omega), if_pos (by omega), if_neg (by omega), if_pos (by rw [len]; omega), ed, ← es, wrap_in (t - (shL t ws i).sum - wShare t ws i) (by omega) (by omega),
      show wrap64 ((i : Int) + 1) = ((i + 1 : Nat) : Int) from wrap_in _ (by omega) (by omega), show t - (shL t ws i).sum - wShare t ws i = t - (shL t ws (i + 1)).sum by rw [ss]; omega]
    exact ih

theorem refWeighted_f (t : Int) (ws : List Int) (hl : ws.length ≤ 300) (k : Nat) (hk : 110000 ≤ k) : solventref33_Weighted.f k t ws = split_Weighted.f t ws := by
  obtain ⟨k, rfl⟩ : ∃ m, k = m + 1 := ⟨k - 1, by omega⟩
  obtain ⟨s, e1, e2⟩ := refsum_f ws hl (k + 1) (by omega)
  unfold solventref33_Weighted.f split_Weighted.f
  rw [e1, Option.bind_some, wOk_at t ws]
  by_cases h0 : wOk 0 ws = true
  · have es := e2 h0
    subst es
    simp only [h0]
    rw [if_pos trivial]
    by_cases h1 : t < 0
    · rw [if_pos h1, solventref33_Weighted.j0, if_pos rfl, if_neg (by simp; omega)]
    · rw [if_neg h1]
      by_cases h2 : t > 2147483647
      · rw [decide_eq_true h2, solventref33_Weighted.j0, if_pos rfl, if_neg (by simp; omega)]
      · rw [decide_eq_false h2, solventref33_Weighted.j0, if_neg (by decide), if_pos (by simp; omega)]
        simp only [wOk, Bool.and_eq_true, decide_eq_true_eq] at h0
        have hall := (sum_le_of_all ws h0.1.1.1.1.2).2
        have := w_l0 t ws ⟨hl, hall, h0.1.1.2, h0.1.1.1.2, by omega, by omega⟩ 100000 (Nat.le_refl _) ws.length k 0 (by omega) (by omega)
        simpa [shL] using this
  · rw [Bool.not_eq_true] at h0
    simp only [h0]
    rw [if_neg (by decide), solventref33_Weighted.j0, if_pos rfl, if_neg (by simp)]

theorem SplitMatchesSpec : solventlaw33_SplitMatchesSpec.Pure := by
  intro t n ws _ _ _ _ _
  refine ⟨120000, ?_⟩
  have hz : ∀ k, 50 ≤ k → solventlaw33_SplitMatchesSpec.j0 k t n ws true = some true := by
    intro k hk
    obtain ⟨k, rfl⟩ : ∃ m, k = m + 1 := ⟨k - 1, by omega⟩
    rw [solventlaw33_SplitMatchesSpec.j0, if_pos rfl, sanity_f k (by omega)]; rfl
  unfold solventlaw33_SplitMatchesSpec.f
  by_cases h1 : n > 300
  · rw [if_pos h1]; exact hz _ (by omega)
  rw [if_neg h1]
  by_cases h2 : (ws.length : Int) > 300
  · rw [decide_eq_true h2]; exact hz _ (by omega)
  rw [decide_eq_false h2]
  have main : ∀ k, 119000 ≤ k → solventlaw33_SplitMatchesSpec.j0 (k + 1) t n ws false = some true := by
    intro k hk
    have hW : ∃ p, split_Weighted.f t ws = some p ∧ p.1.length ≤ 300 := by
      unfold split_Weighted.f
      by_cases h : wOk t ws = true
      · rw [if_pos h]; exact ⟨_, rfl, by simp only [wList_length]; omega⟩
      · rw [if_neg h]; exact ⟨_, rfl, by simp⟩
    obtain ⟨p, hp, hpl⟩ := hW
    have hE : (evenRes t n).1.length ≤ 300 := by
      unfold evenRes
      split
      · simp only [evL_len]; omega
      · simp
    rw [solventlaw33_SplitMatchesSpec.j0, if_neg (by decide), even_f t n k (by omega), Option.bind_some, refEven_f t n k (by omega), Option.bind_some, refWeighted_f t ws (by omega) k (by omega), hp, Option.bind_some, Option.bind_some,
      sanity_f k (by omega), Option.bind_some, if_pos rfl, same_f _ _ k (by omega) (by omega), Option.bind_some, if_pos (by simp), if_pos rfl, same_f _ _ k (by omega) (by omega), Option.bind_some, if_pos (by simp)]
    simp
  exact main 119999 (by omega)

end Go.Proofs.Ytegoadlfchbgfaa.Pure

/- The shares of Even and of Weighted sum to the total, and there are as many as there are parts: the plain statement behind the law SplitSums, for every input. -/
import Derived.Test.YtegoadlfchbgfaaPx4
import Derived.Test.YtegoadlfchbgfaaPureLib
namespace Go.Proofs.Ytegoadlfchbgfaa.Pure
open Go.RowKit Go.Proofs.Ytegoadlfchbgfaa.P Go.Proofs.YtegoadlfchbgfaaW.PrintWords Go.Proofs.YtegoadlfchbgfaaW.PrintLast

theorem nonneg_sum : ∀ l : List Int, (∀ x, x ∈ l → 0 ≤ x) → 0 ≤ l.sum
  | [], _ => by simp
  | a :: t, h => by
    have h3 := nonneg_sum t (fun x hx => h x (List.mem_cons_of_mem _ hx))
    have h4 := h a List.mem_cons_self
    simp only [List.sum_cons]; omega
theorem pre_bounds (l : List Int) (h : ∀ x, x ∈ l → 0 ≤ x) (i : Nat) : 0 ≤ (l.take i).sum ∧ (l.take i).sum ≤ l.sum := by
  have h2 : l.sum = (l.take i).sum + (l.drop i).sum := by rw [← List.sum_append, List.take_append_drop]
  have h3 := nonneg_sum (l.take i) (fun x hx => h x (List.mem_of_mem_take hx))
  have h4 := nonneg_sum (l.drop i) (fun x hx => h x (List.mem_of_mem_drop hx))
  omega
theorem take_sum1 (l : List Int) (i : Nat) (h : i < l.length) : (l.take (i + 1)).sum = (l.take i).sum + rd l (i : Int) := by
  rw [List.take_succ_eq_append_getElem h, List.sum_append, List.sum_singleton]
  simp [rd, List.getD_eq_getElem?_getD, h]

theorem evL_nonneg (q : Int) (n i : Nat) (hq : 0 ≤ q) : ∀ x, x ∈ evL q n i → 0 ≤ x := by
  intro x hx
  simp only [evL, List.mem_map] at hx
  obtain ⟨j, _, rfl⟩ := hx
  split <;> omega
theorem evL_sum (q : Int) (n i : Nat) (h : i ≤ n) : (evL q n i).sum = (n : Int) * q + i := by
  unfold evL
  have h1 := sum_add (fun _ => q) (fun j : Nat => if (j : Int) < (i : Int) then (1 : Int) else 0) n
  have h2 : ((List.range n).map fun _ => q).sum = (n : Int) * q := by
    rw [List.map_const', List.length_range, sum_replicate]
  rw [sum_ind i n h, h2] at h1
  rw [← h1]
  congr 1
  apply List.map_congr_left
  intro j _
  by_cases c : j < i
  · rw [if_pos c, if_pos (by omega)]
  · rw [if_neg c, if_neg (by omega)]

theorem wList_nonneg (t : Int) (ws : List Int) (ht : 0 ≤ t) (hs : 0 < ws.sum) (hall : ∀ j, j < ws.length → 0 ≤ wAt ws j) : ∀ x, x ∈ wList t ws → 0 ≤ x := by
  intro x hx
  simp only [wList, List.mem_map, List.mem_range] at hx
  obtain ⟨j, hj, rfl⟩ := hx
  have h1 : 0 ≤ wShare t ws j := Int.ediv_nonneg (Int.mul_nonneg ht (hall j hj)) (by omega)
  unfold wGive
  split <;> omega

theorem sums_l1 (t n : Int) (ws xs : List Int) (e : Int) (ys : List Int) (e2 s : Int) (hx : ∀ x, x ∈ ys → 0 ≤ x) (hs : ys.sum ≤ 2147483647) (hl : ys.length ≤ 65536)
    (h1 : e = 0 → s = t ∧ (xs.length : Int) = n) (h2 : e2 = 0 → ys.sum = t ∧ ys.length = ws.length) :
    ∀ (d k i : Nat), i + d = ys.length → d + 31 < k → solventlaw33_SplitSums.l1 k t n ws xs e ys e2 s (ys.take i).sum (i : Int) = some true
  | 0, k, i, hd, hk => by
    obtain ⟨k, rfl⟩ : ∃ m, k = m + 1 := ⟨k - 1, by omega⟩
    rw [solventlaw33_SplitSums.l1, if_neg (by omega), sanity_f k (by omega), List.take_of_length_le (by omega), Option.bind_some, if_pos rfl]
    by_cases c1 : e = 0
    · obtain ⟨a1, a2⟩ := h1 c1
      rw [if_pos c1, if_pos a1, if_pos a2]
      by_cases c2 : e2 = 0
      · obtain ⟨b1, b2⟩ := h2 c2
        rw [if_pos c2, if_pos b1, b2]
        simp
      · rw [if_neg c2]
    · rw [if_neg c1]
      by_cases c2 : e2 = 0
      · obtain ⟨b1, b2⟩ := h2 c2
        rw [if_pos c2, if_pos b1, b2]
        simp
      · rw [if_neg c2]
  | d + 1, k, i, hd, hk => by
    obtain ⟨k, rfl⟩ : ∃ m, k = m + 1 := ⟨k - 1, by omega⟩
    have b1 := pre_bounds ys hx (i + 1)
    have ht := take_sum1 ys i (by omega)
    rw [solventlaw33_SplitSums.l1, if_pos (by omega), if_pos (by omega), ← ht, wrap_in _ (by omega) (by omega),
      show wrap64 ((i : Int) + 1) = ((i + 1 : Nat) : Int) from wrap_in _ (by omega) (by omega)]
    exact sums_l1 t n ws xs e ys e2 s hx hs hl h1 h2 d k (i + 1) (by omega) (by omega)

theorem sums_l0 (t n : Int) (ws xs : List Int) (e : Int) (ys : List Int) (e2 : Int) (hx : ∀ x, x ∈ xs → 0 ≤ x) (hs : xs.sum ≤ 2147483647) (hl : xs.length ≤ 65536) (r : Bool) (K : Nat)
    (hr : ∀ k, K ≤ k → solventlaw33_SplitSums.l1 k t n ws xs e ys e2 xs.sum 0 0 = some r) :
    ∀ (d k i : Nat), i + d = xs.length → d + K < k → solventlaw33_SplitSums.l0 k t n ws xs e ys e2 (xs.take i).sum (i : Int) = some r
  | 0, k, i, hd, hk => by
    obtain ⟨k, rfl⟩ : ∃ m, k = m + 1 := ⟨k - 1, by omega⟩
    rw [solventlaw33_SplitSums.l0, if_neg (by omega), List.take_of_length_le (by omega)]
    exact hr k (by omega)
  | d + 1, k, i, hd, hk => by
    obtain ⟨k, rfl⟩ : ∃ m, k = m + 1 := ⟨k - 1, by omega⟩
    have b1 := pre_bounds xs hx (i + 1)
    have ht := take_sum1 xs i (by omega)
    rw [solventlaw33_SplitSums.l0, if_pos (by omega), if_pos (by omega), ← ht, wrap_in _ (by omega) (by omega),
      show wrap64 ((i : Int) + 1) = ((i + 1 : Nat) : Int) from wrap_in _ (by omega) (by omega)]
    exact sums_l0 t n ws xs e ys e2 hx hs hl r K hr d k (i + 1) (by omega) (by omega)

theorem even_facts (t n : Int) (hn : n ≤ 300) : (∀ x, x ∈ (evenRes t n).1 → 0 ≤ x) ∧ (evenRes t n).1.sum ≤ 2147483647 ∧ (evenRes t n).1.length ≤ 300 ∧ ((evenRes t n).2 = 0 → (evenRes t n).1.sum = t ∧ ((evenRes t n).1.length : Int) = n) := by
  unfold evenRes
  split
  · rename_i h
    obtain ⟨N, rfl⟩ := Int.eq_ofNat_of_zero_le (show 0 ≤ n by omega)
    have hr0 : 0 ≤ t % (N : Int) := Int.emod_nonneg _ (by omega)
    have hr1 : t % (N : Int) < N := Int.emod_lt_of_pos _ (by omega)
    have hq0 : 0 ≤ t / (N : Int) := Int.ediv_nonneg (by omega) (by omega)
    have e : (evL (t / (N : Int)) N (t % (N : Int)).toNat).sum = t := by
      rw [evL_sum _ _ _ (by omega), Int.toNat_of_nonneg hr0]
      exact Int.mul_ediv_add_emod t N
    refine ⟨?_, ?_, ?_, ?_⟩
    · simp only [Int.toNat_natCast]; exact evL_nonneg _ _ _ hq0
    · simp only [Int.toNat_natCast]; omega
    · simp only [Int.toNat_natCast, evL_len]; omega
    · intro _
      simp only [Int.toNat_natCast, evL_len]
      exact ⟨e, trivial⟩
  · simp

theorem SplitSums : solventlaw33_SplitSums.Pure := by
  intro t n ws _ _ _ _ _
  refine ⟨2000, ?_⟩
  unfold solventlaw33_SplitSums.f
  by_cases h0 : n > 300
  · rw [if_pos h0, solventlaw33_SplitSums.j0, if_pos rfl, sanity_f _ (by omega)]; rfl
  · rw [if_neg h0]
    by_cases h1 : (ws.length : Int) > 300
    · rw [solventlaw33_SplitSums.j0, if_pos (by simpa using h1), sanity_f _ (by omega)]; rfl
    · rw [solventlaw33_SplitSums.j0, if_neg (by simpa using h1), even_f t n _ (by omega), Option.bind_some]
      obtain ⟨a1, a2, a3, a4⟩ := even_facts t n (by omega)
      unfold split_Weighted.f
      by_cases hok : wOk t ws = true
      · rw [if_pos hok, Option.bind_some]
        simp only [wOk, Bool.and_eq_true, decide_eq_true_eq] at hok
        obtain ⟨⟨⟨⟨⟨c1, c2⟩, c3⟩, c4⟩, c5⟩, c6⟩ := hok
        have hall := (sum_le_of_all ws c2).2
        have hsum := wList_sum t ws c4
        have hlen := wList_length t ws
        have := sums_l0 t n ws (evenRes t n).1 (evenRes t n).2 (wList t ws) 0 a1 a2 (by omega) true 600
          (fun k hk => sums_l1 t n ws (evenRes t n).1 (evenRes t n).2 (wList t ws) 0 _ (wList_nonneg t ws c5 c4 (fun j hj => (hall j hj).1)) (by omega) (by omega) a4 (fun _ => ⟨hsum, hlen⟩) _ k 0 (Nat.zero_add _) (by omega))
          _ 1999 0 (Nat.zero_add _) (by omega)
        simpa using this
      · rw [if_neg hok, Option.bind_some]
        have := sums_l0 t n ws (evenRes t n).1 (evenRes t n).2 [] 1 a1 a2 (by omega) true 600
          (fun k hk => sums_l1 t n ws (evenRes t n).1 (evenRes t n).2 [] 1 _ (by simp) (by simp) (by simp) a4 (fun h => absurd h (by decide)) _ k 0 (Nat.zero_add _) (by simp; omega))
          _ 1999 0 (Nat.zero_add _) (by omega)
        simpa using this

end Go.Proofs.Ytegoadlfchbgfaa.Pure

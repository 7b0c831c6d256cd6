/- Even gives what Weighted gives at equal weights: the plain statement behind the law SplitEqual, for every input. -/
import Derived.Test.YtegoadlfchbgfaaPx6
import Derived.Test.YtegoadlfchbgfaaPureLib
namespace Go.Proofs.Ytegoadlfchbgfaa.Pure
open Go.RowKit Go.Proofs.Ytegoadlfchbgfaa.P Go.Proofs.YtegoadlfchbgfaaW.PrintWords Go.Proofs.YtegoadlfchbgfaaW.PrintLast

theorem equal_true (k : Nat) (t n c : Int) (hk : 50 ≤ k) : solventlaw33_SplitEqual.j0 k t n c true = some true := by
  obtain ⟨k, rfl⟩ : ∃ m, k = m + 1 := ⟨k - 1, by omega⟩
  rw [solventlaw33_SplitEqual.j0, if_pos rfl, sanity_f _ (by omega)]; rfl

theorem wList_equal (t : Int) (n : Nat) (c : Int) (hn : 0 < n) (hc : 0 < c) (ht : 0 ≤ t) : wList t (List.replicate n c) = evL (t / n) n (t % n).toNat := by
  unfold wList evL
  rw [List.length_replicate]
  apply List.map_congr_left
  intro j hj
  have hjn := List.mem_range.1 hj
  rw [equal_give t n c hn hc ht j hjn]
  have h0 : 0 ≤ t % (n : Int) := Int.emod_nonneg _ (by omega)
  by_cases g : (j : Int) < t % n
  · rw [if_pos g, if_pos (by omega)]
  · rw [if_neg g, if_neg (by omega)]

theorem wList_equal2 (t : Int) (n : Nat) (c : Int) (hn : 0 < n) (hc : 0 < c) : wList t (List.replicate n c) = if 0 ≤ t then evL (t / n) n (t % n).toNat else wList t (List.replicate n c) := by
  by_cases h : 0 ≤ t
  · rw [if_pos h, wList_equal t n c hn hc h]
  · rw [if_neg h]

theorem wOk_equal (t : Int) (n : Nat) (c : Int) (hn : 0 < n) (hn2 : n ≤ 300) (hc : 0 < c) (hc2 : c ≤ 7000) : wOk t (List.replicate n c) = (decide (0 ≤ t) && decide (t ≤ 2147483647)) := by
  have hs := sum_replicate n c
  have h1 : 0 < (n : Int) * c := Int.mul_pos (by omega) hc
  have h2 : (n : Int) * c ≤ 300 * c := Int.mul_le_mul_of_nonneg_right (by omega) (by omega)
  have ha : (List.replicate n c).all (fun x => decide (0 ≤ x)) = true := by
    rw [List.all_eq_true]
    intro x hx
    rw [List.mem_replicate] at hx
    rw [hx.2]
    simp; omega
  unfold wOk
  rw [ha, hs, List.length_replicate, decide_eq_true (show n ≤ 65536 by omega), decide_eq_true (show (n : Int) * c ≤ 2147483647 by omega), decide_eq_true h1]
  simp

theorem equal_l0 (t : Int) (n : Nat) (c : Int) (hn : 0 < n) (hn2 : n ≤ 300) (hc : 0 < c) (hc2 : c ≤ 7000) : ∀ (d k i : Nat), i + d = n → d + 400 < k → solventlaw33_SplitEqual.l0 k t (n : Int) c (List.replicate i c) (i : Int) = some true
  | 0, k, i, hd, hk => by
    obtain ⟨k, rfl⟩ : ∃ m, k = m + 1 := ⟨k - 1, by omega⟩
    obtain rfl : i = n := by omega
    rw [solventlaw33_SplitEqual.l0, if_neg (by omega), even_f t i k (by simp; omega), Option.bind_some]
    unfold split_Weighted.f
    rw [wOk_equal t i c hn hn2 hc hc2, wList_equal2 t i c hn hc]
    unfold evenRes
    by_cases h : 0 ≤ t ∧ t ≤ 2147483647
    · have h3 : 0 ≤ t ∧ t ≤ 2147483647 ∧ 1 ≤ (i : Int) ∧ (i : Int) ≤ 65536 := ⟨h.1, h.2, by omega, by omega⟩
      rw [if_pos h3, if_pos (by simpa using h), if_pos h.1, Option.bind_some, sanity_f k (by omega), Option.bind_some, if_pos rfl, Int.toNat_natCast, same_f _ _ k (by rw [evL_len]; omega) (by rw [evL_len]; omega), Option.bind_some]
      simp
    · have h3 : ¬ (0 ≤ t ∧ t ≤ 2147483647 ∧ 1 ≤ (i : Int) ∧ (i : Int) ≤ 65536) := fun g => h ⟨g.1, g.2.1⟩
      rw [if_neg h3, if_neg (by simpa using h), Option.bind_some, sanity_f k (by omega), Option.bind_some, if_pos rfl, same_f _ _ k (by simp) (by simp; omega), Option.bind_some]
      simp
  | d + 1, k, i, hd, hk => by
    obtain ⟨k, rfl⟩ : ∃ m, k = m + 1 := ⟨k - 1, by omega⟩
    rw [solventlaw33_SplitEqual.l0, if_pos (by omega), if_pos (by rw [List.length_replicate]; omega),
      show wrap64 ((i : Int) + 1) = ((i + 1 : Nat) : Int) from wrap_in _ (by omega) (by omega), ← List.replicate_succ']
    exact equal_l0 t n c hn hn2 hc hc2 d k (i + 1) (by omega) (by omega)

theorem SplitEqual : solventlaw33_SplitEqual.Pure := by
  intro t n c _ _ _
  refine ⟨1000, ?_⟩
  unfold solventlaw33_SplitEqual.f
  by_cases h1 : n < 1
  · rw [if_pos h1]; exact equal_true _ _ _ _ (by omega)
  rw [if_neg h1]
  by_cases h2 : n > 300
  · rw [if_pos h2]; exact equal_true _ _ _ _ (by omega)
  rw [if_neg h2]
  by_cases h3 : c < 1
  · rw [if_pos h3]; exact equal_true _ _ _ _ (by omega)
  rw [if_neg h3]
  by_cases h4 : c > 7000
  · rw [decide_eq_true h4]; exact equal_true _ _ _ _ (by omega)
  rw [decide_eq_false h4, solventlaw33_SplitEqual.j0, if_neg (by decide)]
  obtain ⟨N, rfl⟩ := Int.eq_ofNat_of_zero_le (show 0 ≤ n by omega)
  exact equal_l0 t N c (by omega) (by omega) (by omega) (by omega) N 999 0 (by omega) (by omega)

end Go.Proofs.Ytegoadlfchbgfaa.Pure

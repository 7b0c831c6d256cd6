/- A greater weight never gets less, and of two equal weights the earlier one gets as much or one more: the plain statement behind the law SplitMonotone, for every input. -/
import Derived.Test.YtegoadlfchbgfaaPx5
import Derived.Test.YtegoadlfchbgfaaPureLib
namespace Go.Proofs.Ytegoadlfchbgfaa.Pure
open Go.RowKit Go.Proofs.Ytegoadlfchbgfaa.P Go.Proofs.YtegoadlfchbgfaaW.PrintWords Go.Proofs.YtegoadlfchbgfaaW.PrintLast

theorem mono_true (k : Nat) (t : Int) (ws : List Int) (a b : Int) (hk : 50 ≤ k) : solventlaw33_SplitMonotone.j0 k t ws a b true = some true := by
  obtain ⟨k, rfl⟩ : ∃ m, k = m + 1 := ⟨k - 1, by omega⟩
  rw [solventlaw33_SplitMonotone.j0, if_pos rfl, sanity_f _ (by omega)]; rfl

theorem SplitMonotone : solventlaw33_SplitMonotone.Pure := by
  intro t ws x y _ _ _ _ _ _
  refine ⟨200, ?_⟩
  unfold solventlaw33_SplitMonotone.f
  by_cases h0 : (ws.length : Int) > 300
  · rw [if_pos h0]; exact mono_true _ _ _ _ _ (by omega)
  rw [if_neg h0]
  by_cases h1 : x < 0
  · rw [if_pos h1]; exact mono_true _ _ _ _ _ (by omega)
  rw [if_neg h1]
  by_cases h2 : y < 0
  · rw [if_pos h2]; exact mono_true _ _ _ _ _ (by omega)
  rw [if_neg h2]
  by_cases h3 : x ≥ (ws.length : Int)
  · rw [if_pos h3]; exact mono_true _ _ _ _ _ (by omega)
  rw [if_neg h3]
  by_cases h4 : y ≥ (ws.length : Int)
  · rw [decide_eq_true h4]; exact mono_true _ _ _ _ _ (by omega)
  rw [decide_eq_false h4, solventlaw33_SplitMonotone.j0, if_neg (by decide)]
  obtain ⟨i, rfl⟩ := Int.eq_ofNat_of_zero_le (show 0 ≤ x by omega)
  obtain ⟨j, rfl⟩ := Int.eq_ofNat_of_zero_le (show 0 ≤ y by omega)
  unfold split_Weighted.f
  by_cases hok : wOk t ws = true
  · rw [if_pos hok, Option.bind_some, if_pos rfl]
    simp only [wOk, Bool.and_eq_true, decide_eq_true_eq] at hok
    obtain ⟨⟨⟨⟨⟨c1, c2⟩, c3⟩, c4⟩, c5⟩, c6⟩ := hok
    have hall := (sum_le_of_all ws c2).2
    have hlen := wList_length t ws
    have hi : i < ws.length := by omega
    have hj : j < ws.length := by omega
    have ei : rd (wList t ws) (i : Int) = wGive t ws i := by have := wList_getD t ws i hi; simpa [rd] using this
    have ej : rd (wList t ws) (j : Int) = wGive t ws j := by have := wList_getD t ws j hj; simpa [rd] using this
    have wi : rd ws (i : Int) = wAt ws i := by simp [rd, wAt]
    have wj : rd ws (j : Int) = wAt ws j := by simp [rd, wAt]
    simp only
    rw [if_pos (by rw [hlen]), if_pos (by omega), if_pos (by omega), if_pos (by omega), if_pos (by omega), wi, wj]
    by_cases g : wAt ws i > wAt ws j
    · rw [if_pos g, sanity_f _ (by omega), Option.bind_some, if_pos rfl, if_pos (by omega), if_pos (by omega), ei, ej,
        decide_eq_true (give_mono t ws c4 c5 i j hi hj g)]
    · rw [if_neg g]
      have fin : ∀ b : Bool, (b = true → wAt ws i = wAt ws j ∧ i < j) → solventlaw33_SplitMonotone.j1 199 (i : Int) (j : Int) (wList t ws) b = some true := by
        intro b hb
        rw [solventlaw33_SplitMonotone.j1]
        by_cases hbt : b = true
        · obtain ⟨q1, q2⟩ := hb hbt
          rw [if_pos hbt, sanity_f _ (by omega), Option.bind_some, if_pos rfl, if_pos (by omega), if_pos (by omega), if_pos (by omega), if_pos (by omega), ei, ej]
          rcases give_same t ws i j hi q1 q2 with e | e
          · rw [if_pos e]
          · have hn := give_near t ws c4 j hj
            by_cases e2 : wGive t ws i = wGive t ws j
            · rw [if_pos e2]
            · have s0 : 0 ≤ wShare t ws j := Int.ediv_nonneg (Int.mul_nonneg c5 (hall j hj).1) (by omega)
              have s1 : wShare t ws j ≤ 2147483647 := by
                unfold wShare
                have p2 : t * wAt ws j ≤ t * ws.sum := Int.mul_le_mul_of_nonneg_left (hall j hj).2 c5
                have p3 : t * wAt ws j / ws.sum ≤ t * ws.sum / ws.sum := Int.ediv_le_ediv c4 p2
                rw [Int.mul_ediv_cancel _ (by omega)] at p3
                omega
              have s2 : 0 ≤ wGive t ws j ∧ wGive t ws j ≤ 2147483648 := by unfold wGive; split <;> omega
              rw [if_neg e2, wrap_in (wGive t ws j + 1) (by omega) (by omega), e]
              simp
        · rw [if_neg hbt, sanity_f _ (by omega)]; rfl
      by_cases g2 : wAt ws i = wAt ws j
      · rw [if_pos g2]
        exact fin _ (fun h => ⟨g2, by simpa using h⟩)
      · rw [if_neg g2]
        exact fin _ (fun h => absurd h (by decide))
  · rw [if_neg hok, Option.bind_some, if_neg (by simp), sanity_f _ (by omega)]
    rfl

end Go.Proofs.Ytegoadlfchbgfaa.Pure

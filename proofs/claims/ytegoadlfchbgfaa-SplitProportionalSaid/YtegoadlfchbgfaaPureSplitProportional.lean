/- Every share of Weighted differs from the exact proportion of the total by less than one: the plain statement behind the law SplitProportional, for every input. -/
import Derived.Test.YtegoadlfchbgfaaPx4
import Derived.Test.YtegoadlfchbgfaaPureLib
namespace Go.Proofs.Ytegoadlfchbgfaa.Pure
open Go.RowKit Go.Proofs.Ytegoadlfchbgfaa.P Go.Proofs.YtegoadlfchbgfaaW.PrintWords Go.Proofs.YtegoadlfchbgfaaW.PrintLast

theorem take_sum (l : List Int) (i : Nat) (h : i < l.length) : (l.take (i + 1)).sum = (l.take i).sum + l[i] := by
  rw [List.take_succ_eq_append_getElem h, List.sum_append, List.sum_singleton]
theorem rd_get (l : List Int) (i : Nat) (h : i < l.length) : rd l (i : Int) = l[i] := by simp [rd, List.getD_eq_getElem?_getD, h]
theorem wAt_get (l : List Int) (i : Nat) (h : i < l.length) : wAt l i = l[i] := by simp [wAt, List.getD_eq_getElem?_getD, h]

theorem prop_l0 (t : Int) (ws b : List Int) (hall : ∀ j, j < ws.length → 0 ≤ wAt ws j) (hlen : ws.length ≤ 300) (hs : ws.sum ≤ 2147483647) (r : Bool) (K : Nat) (hr : ∀ k, K ≤ k → solventlaw33_SplitProportional.l1 k t ws b ws.sum 0 = some r) :
    ∀ (d k i : Nat), i + d = ws.length → d + K < k → 0 ≤ (ws.take i).sum → (ws.take i).sum ≤ ws.sum → solventlaw33_SplitProportional.l0 k t ws b (ws.take i).sum (i : Int) = some r
  | 0, k, i, hd, hk, _, _ => by
    obtain ⟨k, rfl⟩ : ∃ m, k = m + 1 := ⟨k - 1, by omega⟩
    rw [solventlaw33_SplitProportional.l0, if_neg (by omega), List.take_of_length_le (by omega)]
    exact hr k (by omega)
  | d + 1, k, i, hd, hk, h0, h1 => by
    obtain ⟨k, rfl⟩ : ∃ m, k = m + 1 := ⟨k - 1, by omega⟩
    have hi : i < ws.length := by omega
    have hx := hall i hi
    rw [wAt_get ws i hi] at hx
    have ht := take_sum ws i hi
    have hle : (ws.take (i + 1)).sum ≤ ws.sum := by
      have h2 : ws.sum = (ws.take (i + 1)).sum + (ws.drop (i + 1)).sum := by rw [← List.sum_append, List.take_append_drop]
      have gen : ∀ l : List Int, (∀ x, x ∈ l → 0 ≤ x) → 0 ≤ l.sum := fun l => by
        induction l with
        | nil => simp
        | cons a t ih =>
          intro h
          have h3 := ih (fun x hx => h x (List.mem_cons_of_mem _ hx))
          have h4 := h a List.mem_cons_self
          simp only [List.sum_cons]; omega
      have := gen (ws.drop (i + 1)) (fun x hx => by
        obtain ⟨j, hj, e⟩ := List.mem_iff_getElem.1 hx
        have hj2 : i + 1 + j < ws.length := by simp at hj; omega
        have := hall (i + 1 + j) hj2
        rw [wAt_get ws _ hj2] at this
        rw [← e, List.getElem_drop]
        exact this)
      omega
    rw [solventlaw33_SplitProportional.l0, if_pos (by omega), if_pos (by omega), rd_get ws i hi, wrap_in _ (by omega) (by omega), ← ht,
      show wrap64 ((i : Int) + 1) = ((i + 1 : Nat) : Int) from wrap_in _ (by omega) (by omega)]
    exact prop_l0 t ws b hall hlen hs r K hr d k (i + 1) (by omega) (by omega) (by omega) hle

theorem prop_l1 (t : Int) (ws : List Int) (ht0 : 0 ≤ t) (ht1 : t ≤ 2147483647) (hall : ∀ j, j < ws.length → 0 ≤ wAt ws j ∧ wAt ws j ≤ ws.sum) (hlen : ws.length ≤ 300) (hs0 : 0 < ws.sum) (hs : ws.sum ≤ 2147483647) :
    ∀ (d k i : Nat), i + d = ws.length → d + 40 < k → solventlaw33_SplitProportional.l1 k t ws (wList t ws) ws.sum (i : Int) = some true
  | 0, k, i, hd, hk => by
    obtain ⟨k, rfl⟩ : ∃ m, k = m + 1 := ⟨k - 1, by omega⟩
    rw [solventlaw33_SplitProportional.l1, if_neg (by rw [wList_length]; omega), sanity_f k (by omega)]
    rfl
  | d + 1, k, i, hd, hk => by
    obtain ⟨k, rfl⟩ : ∃ m, k = m + 1 := ⟨k - 1, by omega⟩
    have hi : i < ws.length := by omega
    have e1 : rd (wList t ws) (i : Int) = wGive t ws i := by
      have := wList_getD t ws i hi
      simpa [rd] using this
    have e2 : rd ws (i : Int) = wAt ws i := by simp [rd, wAt]
    obtain ⟨n1, n2⟩ := give_near t ws hs0 i hi
    have hx := hall i hi
    have p0 : 0 ≤ t * wAt ws i := Int.mul_nonneg ht0 hx.1
    have p1 : t * wAt ws i ≤ 4611686014132420609 := Int.le_trans (Int.mul_le_mul_of_nonneg_right ht1 hx.1) (by omega)
    rw [solventlaw33_SplitProportional.l1, if_pos (by rw [wList_length]; omega), if_pos (by omega), if_pos (by omega), e1, e2, wrap_in (wGive t ws i * ws.sum) (by omega) (by omega), wrap_in (t * wAt ws i) (by omega) (by omega),
      wrap_in (wGive t ws i * ws.sum - t * wAt ws i) (by omega) (by omega), wrap_in (-ws.sum) (by omega) (by omega), if_neg (by omega), if_neg (by omega),
      show wrap64 ((i : Int) + 1) = ((i + 1 : Nat) : Int) from wrap_in _ (by omega) (by omega)]
    exact prop_l1 t ws ht0 ht1 hall hlen hs0 hs d k (i + 1) (by omega) (by omega)

theorem SplitProportional : solventlaw33_SplitProportional.Pure := by
  intro t ws _ _ _ _
  refine ⟨1000, ?_⟩
  unfold solventlaw33_SplitProportional.f
  by_cases h1 : (ws.length : Int) > 300
  · rw [if_pos h1, sanity_f _ (by omega)]; rfl
  · rw [if_neg h1]
    unfold split_Weighted.f
    by_cases hok : wOk t ws = true
    · rw [if_pos hok, Option.bind_some, if_pos rfl, if_pos (by rw [wList_length])]
      simp only [wOk, Bool.and_eq_true, decide_eq_true_eq] at hok
      obtain ⟨⟨⟨⟨⟨a1, a2⟩, a3⟩, a4⟩, a5⟩, a6⟩ := hok
      have hall := (sum_le_of_all ws a2).2
      have := prop_l0 t ws (wList t ws) (fun j hj => (hall j hj).1) (by omega) a3 true 400 (fun k hk => prop_l1 t ws a5 a6 hall (by omega) a4 a3 ws.length k 0 (by omega) (by omega)) ws.length 1000 0 (by omega) (by omega) (by simp) (by simp; omega)
      simpa using this
    · rw [if_neg hok, Option.bind_some, if_neg (by simp), sanity_f _ (by omega)]
      rfl

end Go.Proofs.Ytegoadlfchbgfaa.Pure

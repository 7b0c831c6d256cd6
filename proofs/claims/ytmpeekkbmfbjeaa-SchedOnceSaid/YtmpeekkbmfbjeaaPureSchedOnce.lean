/- The law SchedOnce, plainly. -/
import Derived.Test.YtmpeekkbmfbjeaaPx9
import Derived.Test.YtmpeekkbmfbjeaaLawLib
namespace Go.Proofs.Ytmpeekkbmfbjeaa
open Go.RowKit Go.Proofs.Ytmpeekkbmfbjeaa.P Go.Proofs.YtmpeekkbmfbjeaaW.PrintWords Go.Proofs.YtmpeekkbmfbjeaaW.PrintMore

def seenOf (n : Nat) (Q : List Int) : List Bool := (List.range n).map (fun (j : Nat) => decide ((j : Int) ∈ Q))
theorem seen_len (n : Nat) (Q : List Int) : (seenOf n Q).length = n := by simp [seenOf]
theorem seen_rd (n : Nat) (Q : List Int) (j : Nat) (hj : j < n) : rdOf false (seenOf n Q) (j : Int) = decide ((j : Int) ∈ Q) := by
  simp [rdOf, seenOf, List.getD_eq_getElem?_getD, hj]
theorem seen_nil (n : Nat) : seenOf n [] = List.replicate n false := by
  apply List.ext_getElem?
  intro i
  simp only [seenOf, List.getElem?_map, List.getElem?_replicate]
  by_cases h : i < n
  · rw [List.getElem?_range h]; simp [h]
  · rw [List.getElem?_eq_none (by simpa using h)]; simp [h]
theorem seen_set (n : Nat) (Q : List Int) (x : Int) (h0 : 0 ≤ x) : (seenOf n Q).set x.toNat true = seenOf n (Q ++ [x]) := by
  apply List.ext_getElem?
  intro i
  by_cases h : i < n
  · by_cases e : x.toNat = i
    · subst e
      rw [List.getElem?_set_self (by rw [seen_len]; exact h)]
      simp only [seenOf, List.getElem?_map, List.getElem?_range h, Option.map_some]
      congr 1
      symm
      rw [decide_eq_true_eq, List.mem_append, List.mem_singleton]
      right; omega
    · rw [List.getElem?_set_ne e]
      simp only [seenOf, List.getElem?_map, List.getElem?_range h, Option.map_some]
      congr 1
      rw [Bool.eq_iff_iff, decide_eq_true_eq, decide_eq_true_eq, List.mem_append, List.mem_singleton]
      constructor
      · exact .inl
      · rintro (hh | hh)
        · exact hh
        · omega
  · rw [List.getElem?_eq_none (by rw [List.length_set, seen_len]; omega), List.getElem?_eq_none (by rw [seen_len]; omega)]

theorem tk_own (l : List S52) (x : Int) : rd_T58 (l.map tOwn) x = tOwn (rd_T52 l x) := by
  unfold rd_T58 rd_T52
  rw [List.getD_eq_getElem?_getD, List.getD_eq_getElem?_getD, List.getElem?_map]
  cases l[x.toNat]? <;> rfl

theorem once_l1 (l : List S52) (hl : l.length ≤ 60) (seen : List Bool) (hs : seen.length = l.length) (hc : ∀ j : Nat, j < l.length → rdOf false seen (j : Int) = canP (tOwn (rd_T52 l (j : Int)))) :
    ∀ (d k j : Nat), j + d = l.length → d < k → solventlaw37_SchedOnce.l1 k seen l (l.length : Int) (j : Int) = some true
  | 0, k, j, hd, hk => by
    obtain ⟨k, rfl⟩ : ∃ m, k = m + 1 := ⟨k - 1, by omega⟩
    rw [solventlaw37_SchedOnce.l1, if_neg (by omega)]
    rfl
  | d + 1, k, j, hd, hk => by
    obtain ⟨k, rfl⟩ : ∃ m, k = m + 1 := ⟨k - 1, by omega⟩
    have hcj := hc j (by omega)
    have ih := once_l1 l hl seen hs hc d k (j + 1) (by omega) (by omega)
    have hcan : canP (tOwn (rd_T52 l (j : Int))) = (if (rd_T52 l (j : Int)).f0 ≥ 2 ∧ (rd_T52 l (j : Int)).f0 ≤ 5 then true else if (rd_T52 l (j : Int)).f0 = 1 ∧ (rd_T52 l (j : Int)).f2 ≥ 0 then decide ((rd_T52 l (j : Int)).f3 > 0) else false) := by
      generalize rd_T52 l (j : Int) = t
      show (decide (wgt t.f0 > 0) && (decide (t.f0 ≠ 1) || (decide (t.f2 ≥ 0) && decide (t.f3 > 0)))) = _
      have hw : decide (wgt t.f0 > 0) = decide (1 ≤ t.f0 ∧ t.f0 ≤ 5) := by
        rw [Bool.eq_iff_iff, decide_eq_true_eq, decide_eq_true_eq]
        constructor
        · exact wgt_pos
        · intro h
          unfold wgt
          (repeat' split) <;> omega
      rw [hw]
      by_cases a : t.f0 ≥ 2 ∧ t.f0 ≤ 5
      · rw [if_pos a]; simp; omega
      · rw [if_neg a]
        by_cases b : t.f0 = 1
        · by_cases c : t.f2 ≥ 0
          · rw [if_pos ⟨b, c⟩]; simp [b, c]
          · rw [if_neg (fun h => c h.2)]; simp [b, c]
        · rw [if_neg (fun h => b h.1)]; simp; omega
    rw [hcan] at hcj
    have hj : (j : Int) < (seen.length : Int) := by omega
    rw [solventlaw37_SchedOnce.l1, if_pos (by omega), if_pos (by omega), if_pos (by omega), show wrap64 ((j : Int) + 1) = ((j + 1 : Nat) : Int) from wrap_in _ (by omega) (by omega), ih]
    generalize rd_T52 l (j : Int) = t at hcj ⊢
    generalize rdOf false seen (j : Int) = r at hcj ⊢
    simp only [if_pos hj]
    subst hcj
    by_cases a : t.f0 ≥ 2
    · by_cases b : t.f0 ≤ 5
      · simp [a, b]
      · have c : ¬ t.f0 = 1 := by omega
        simp [a, b, c]
    · by_cases c : t.f0 = 1
      · by_cases e : t.f2 ≥ 0
        · simp [c, e]
        · simp [c, e]
      · simp [a, c]

theorem once_l0 (l : List S52) (hl : l.length ≤ 60) (P : List Int) (hP : P.length ≤ 60) (hn : P.Nodup) (hin : ∀ x ∈ P, 0 ≤ x ∧ x < (l.length : Int)) (hc : ∀ j : Nat, j < l.length → decide ((j : Int) ∈ P) = canP (tOwn (rd_T52 l (j : Int)))) :
    ∀ (d k i : Nat), i + d = P.length → d + 100 < k → solventlaw37_SchedOnce.l0 k l (seenOf l.length (P.take i)) P (P.length : Int) (i : Int) = some true
  | 0, k, i, hd, hk => by
    obtain ⟨k, rfl⟩ : ∃ m, k = m + 1 := ⟨k - 1, by omega⟩
    rw [solventlaw37_SchedOnce.l0, if_neg (by omega), List.take_of_length_le (by omega)]
    exact once_l1 l hl _ (seen_len _ _) (fun j hj => by rw [seen_rd _ _ _ hj]; exact hc j hj) l.length k 0 (by omega) (by omega)
  | d + 1, k, i, hd, hk => by
    obtain ⟨k, rfl⟩ : ∃ m, k = m + 1 := ⟨k - 1, by omega⟩
    have hi : i < P.length := by omega
    have e : rd P (i : Int) = P[i] := by simp [rd, List.getD_eq_getElem?_getD, hi]
    obtain ⟨x0, x1⟩ := hin P[i] (List.getElem_mem hi)
    have hns : P[i] ∉ P.take i := by
      intro hm
      obtain ⟨m, hm1, hm2⟩ := List.getElem_of_mem hm
      rw [List.length_take] at hm1
      rw [List.getElem_take] at hm2
      exact List.pairwise_iff_getElem.1 (List.nodup_iff_pairwise_ne.1 hn) m i (by omega) hi (by omega) hm2
    have hr : rdOf false (seenOf l.length (P.take i)) P[i] = false := by
      have := seen_rd l.length (P.take i) P[i].toNat (by omega)
      rw [Int.toNat_of_nonneg x0] at this
      rw [this]
      simpa using hns
    rw [solventlaw37_SchedOnce.l0, if_pos (by omega), if_pos (by omega), if_pos (by omega), e, if_neg (by omega), if_neg (by omega), if_pos x0, if_pos (by rw [seen_len]; exact x1), hr, if_neg (by decide),
      seen_set _ _ _ x0, show wrap64 ((i : Int) + 1) = ((i + 1 : Nat) : Int) from wrap_in _ (by omega) (by omega), ← List.take_succ_eq_append_getElem hi]
    exact once_l0 l hl P hP hn hin hc d k (i + 1) (by omega) (by omega)

theorem Pure.SchedOnce (cr : List Int) (l : List S52) (a : Int) (ha : 0 ≤ a ∧ a < 256) : ∃ k, solventlaw37_SchedOnce.f k cr l a = some true := by
  refine ⟨400, ?_⟩
  unfold solventlaw37_SchedOnce.f
  have san : ∀ k x0 x1 x2, solventlaw37_SchedOnce.j0 (k + 1) x0 x1 x2 true = some true := fun k x0 x1 x2 => by rw [solventlaw37_SchedOnce.j0, if_pos rfl]; rfl
  by_cases h60 : (l.length : Int) > 60
  · rw [if_pos h60]; exact san _ _ _ _
  · rw [if_neg h60, valid_f cr 400 (by decide), Option.bind_some]
    by_cases hv : vOk cr = true
    · rw [hv, show (!true) = false from rfl, solventlaw37_SchedOnce.j0, if_neg (by decide), own_f l (by omega) _ (by omega), Option.bind_some, wrap_in a (by omega) (by omega), wrap_in ((l.length : Int) + a) (by omega) (by omega)]
      have hl : (l.map tOwn).length ≤ 60 := by rw [List.length_map]; omega
      obtain ⟨c1, P, left', r1, f1, p1, p2⟩ := run_f cr (l.map tOwn) ((l.length : Int) + a) hv (by omega) hl
      have hlen := p1.len
      rw [List.length_map] at hlen
      rw [f1, Option.bind_some]
      simp only [if_true]
      rw [if_pos (by omega), if_pos (by omega), Int.toNat_natCast, ← seen_nil]
      have hin : ∀ x ∈ P, 0 ≤ x ∧ x < (l.length : Int) := fun x hx => by
        have := mem_upto ((p1.mem x).2 (.inr hx))
        rwa [List.length_map] at this
      have hleft : ∀ x ∈ left', canP (rd_T58 (l.map tOwn) x) = false := by
        rcases p2 with h | h
        · exact h
        · intro x hx
          have := List.length_pos_of_mem hx
          omega
      have := once_l0 l (by omega) P (by omega) p1.nodup hin (fun j hj => by
        have hm : (j : Int) ∈ upto (l.map tOwn).length := by
          rw [List.length_map]
          exact List.mem_map.2 ⟨j, List.mem_range.2 hj, rfl⟩
        rw [← tk_own]
        rcases (p1.mem _).1 hm with h | h
        · rw [hleft _ h]
          exact decide_eq_false (fun hp => p1.apart _ hp h)
        · rw [p1.can _ h]
          exact decide_eq_true h) P.length 399 0 (by omega) (by omega)
      exact this
    · rw [show vOk cr = false by simpa using hv]; exact san _ _ _ _

end Go.Proofs.Ytmpeekkbmfbjeaa

/- What Run chooses, plainly. -/
import Derived.Test.YtmpeekkbmfbjeaaRunWalk
import Derived.Test.YtmpeekkbmfbjeaaCredit
namespace Go.Proofs.Ytmpeekkbmfbjeaa
open Go.RowKit Go.Proofs.Ytmpeekkbmfbjeaa.P Go.Proofs.YtmpeekkbmfbjeaaW.PrintWords

theorem bst_inv (l : List S58) (kind : Int) (p : S58 → Bool) (cf : S58 → S58 → Int) : ∀ (left : List Int) (out : Int), (∀ x ∈ left, 0 ≤ x ∧ x < (l.length : Int)) → BInv l kind p out → BInv l kind p (left.foldl (bStep l kind p cf) out)
  | [], out, _, h => h
  | x :: r, out, hin, h => by
    rw [List.foldl_cons]
    have hx := hin x List.mem_cons_self
    exact bst_inv l kind p cf r _ (fun y hy => hin y (List.mem_cons_of_mem _ hy)) (bInv_step l kind p cf out x h hx.1 hx.2)
theorem bst_neg (l : List S58) (kind : Int) (p : S58 → Bool) (cf : S58 → S58 → Int) : ∀ (left : List Int) (out : Int), (∀ x ∈ left, 0 ≤ x) → left.foldl (bStep l kind p cf) out < 0 → out < 0 ∧ ∀ x ∈ left, ¬ ((rd_T58 l x).f0 = kind ∧ p (rd_T58 l x) = true)
  | [], out, _, h => ⟨h, fun x hx => absurd hx List.not_mem_nil⟩
  | x :: r, out, hin, h => by
    rw [List.foldl_cons] at h
    obtain ⟨h1, h2⟩ := bst_neg l kind p cf r _ (fun y hy => hin y (List.mem_cons_of_mem _ hy)) h
    have hx := hin x List.mem_cons_self
    unfold bStep at h1
    split at h1
    · omega
    · rename_i c
      refine ⟨h1, fun y hy => ?_⟩
      rcases List.mem_cons.1 hy with rfl | hy
      · exact fun k => c ⟨k.1, k.2, .inl h1⟩
      · exact h2 y hy

theorem wgt_pos {a : Int} (h : wgt a > 0) : 1 ≤ a ∧ a ≤ 5 := by
  unfold wgt at h
  (repeat' split at h) <;> omega
theorem canP_kind {t : S58} (h : canP t = true) : 1 ≤ t.f0 ∧ t.f0 ≤ 5 := by
  unfold canP at h
  simp only [Bool.and_eq_true, decide_eq_true_eq] at h
  exact wgt_pos h.1

theorem nxt_can {l : List S58} {left cr : List Int} (hok : COk cr) (hin : ∀ x ∈ left, 0 ≤ x ∧ x < (l.length : Int)) (h : ¬ (nxt l left cr).2 < 0) : canP (rd_T58 l (nxt l left cr).2) = true := by
  by_cases hu : bestU l left ≥ 0
  · rw [nxt_urg hu] at h ⊢
    rcases bst_inv l 1 urgP (cfK 1) left (-1) hin (.inl rfl) with e | ⟨_, _, _, e⟩
    · exfalso; unfold bestU bst at hu; rw [e] at hu; omega
    · exact urgP_can e
  · rcases nxt_spec l left cr hok hu with ⟨_, e⟩ | ⟨t, h1, h2, _, h4, _⟩
    · rw [e] at h; exact absurd (show (-1 : Int) < 0 by decide) h
    · rw [h4] at h ⊢
      rcases bst_inv l ((t : Int) + 1) canP (cfK ((t : Int) + 1)) left (-1) hin (.inl rfl) with e | ⟨_, _, _, e⟩
      · exfalso; unfold bestC bst at h; rw [e] at h; omega
      · exact e
theorem nxt_none {l : List S58} {left cr : List Int} (hok : COk cr) (hin : ∀ x ∈ left, 0 ≤ x ∧ x < (l.length : Int)) (h : (nxt l left cr).2 < 0) : ∀ x ∈ left, canP (rd_T58 l x) = false := by
  intro x hx
  cases hc : canP (rd_T58 l x) with
  | false => rfl
  | true =>
    exfalso
    by_cases hu : bestU l left ≥ 0
    · rw [nxt_urg hu] at h
      have h2 : bestU l left < 0 := h
      omega
    · obtain ⟨k1, k2⟩ := canP_kind hc
      rcases nxt_spec l left cr hok hu with ⟨hs, _⟩ | ⟨t, h1, h2, _, h4, _⟩
      · have := hs ((rd_T58 l x).f0 - 1).toNat (by omega)
        unfold srv at this
        rw [show ((((rd_T58 l x).f0 - 1).toNat : Nat) : Int) + 1 = (rd_T58 l x).f0 by omega] at this
        simp only [Bool.not_eq_false', decide_eq_true_eq] at this
        exact (bst_neg l _ canP _ left (-1) (fun y hy => (hin y hy).1) this).2 x hx ⟨rfl, hc⟩
      · rw [h4] at h
        unfold srv at h2
        simp only [Bool.not_eq_true', decide_eq_false_iff_not] at h2
        exact h2 h

/-- what holds between what is chosen and what is left. -/
structure RP (l : List S58) (left picks : List Int) : Prop where
  mem : ∀ x, x ∈ upto l.length ↔ x ∈ left ∨ x ∈ picks
  apart : ∀ x ∈ picks, x ∉ left
  nodup : picks.Nodup
  lnodup : left.Nodup
  len : picks.length + left.length = l.length
  can : ∀ x ∈ picks, canP (rd_T58 l x) = true
theorem upto_nodup (n : Nat) : (upto n).Nodup := by
  unfold upto
  rw [List.nodup_iff_pairwise_ne, List.pairwise_map]
  refine (List.nodup_iff_pairwise_ne.1 (List.nodup_range (n := n))).imp ?_
  intro a b h e
  exact h (by omega)
theorem RP.start (l : List S58) : RP l (upto l.length) [] := ⟨fun x => by simp, fun x hx => absurd hx List.not_mem_nil, List.nodup_nil, upto_nodup _, by rw [upto_len]; simp, fun x hx => absurd hx List.not_mem_nil⟩
theorem RP.hin {l : List S58} {left picks : List Int} (h : RP l left picks) : ∀ x ∈ left, 0 ≤ x ∧ x < (l.length : Int) := fun x hx => mem_upto ((h.mem x).2 (.inl hx))
theorem filter_ne_length {left : List Int} (hn : left.Nodup) {k : Int} (hk : k ∈ left) : (left.filter fun i => !(i == k)).length + 1 = left.length := by
  have e : left.filter (fun i => !(i == k)) = left.erase k := by
    rw [List.Nodup.erase_eq_filter hn]
    rfl
  rw [e, List.length_erase_of_mem hk]
  have := List.length_pos_of_mem hk
  omega
theorem RP.step {l : List S58} {left picks : List Int} (h : RP l left picks) {k : Int} (hk : k ∈ left) (hc : canP (rd_T58 l k) = true) : RP l (left.filter fun i => !(i == k)) (picks ++ [k]) := by
  have hkp : k ∉ picks := fun hp => h.apart k hp hk
  refine ⟨fun x => ?_, fun x hx => ?_, ?_, h.lnodup.filter _, ?_, fun x hx => ?_⟩
  · rw [h.mem x, List.mem_filter, List.mem_append, List.mem_singleton]
    by_cases e : x = k
    · subst e; simp [hk]
    · simp [e]
  · rw [List.mem_filter]
    rcases List.mem_append.1 hx with hx | hx
    · exact fun hh => h.apart x hx hh.1
    · rw [List.mem_singleton.1 hx]; simp
  · rw [List.nodup_append]
    refine ⟨h.nodup, by simp, fun a ha b hb e => ?_⟩
    rw [List.mem_singleton.1 hb] at e
    subst e
    exact hkp ha
  · have := filter_ne_length h.lnodup hk
    have := h.len
    rw [List.length_append]
    simp only [List.length_cons, List.length_nil]
    omega
  · rcases List.mem_append.1 hx with hx | hx
    · exact h.can x hx
    · rw [List.mem_singleton.1 hx]; exact hc

theorem runO_some (l : List S58) (b : Int) : ∀ (n : Nat) (cr left picks : List Int), left.length < n → ∃ r, runO l b n cr left picks = some r
  | 0, _, _, _, h => absurd h (Nat.not_lt_zero _)
  | n + 1, cr, left, picks, h => by
    unfold runO
    split
    · split
      · exact ⟨_, rfl⟩
      · rename_i hk
        refine runO_some l b n _ _ _ ?_
        have hm := nxt_mem hk
        have h1 : (left.filter fun i => !(i == (nxt l left cr).2)).length < left.length := by
          rcases Nat.lt_or_eq_of_le (List.length_filter_le (fun i => !(i == (nxt l left cr).2)) left) with h2 | h2
          · exact h2
          · exfalso
            have := (List.length_filter_eq_length_iff.1 h2) _ hm
            simp at this
        omega
    · exact ⟨_, rfl⟩

theorem run_end (l : List S58) (b : Int) : ∀ (n : Nat) (cr left picks c P : List Int), runO l b n cr left picks = some (c, P) → RP l left picks → COk cr → ∃ left', RP l left' P ∧ ((∀ x ∈ left', canP (rd_T58 l x) = false) ∨ ¬ (P.length : Int) < b)
  | 0, _, _, _, _, _, h, _, _ => by simp [runO] at h
  | n + 1, cr, left, picks, c, P, h, hr, hc => by
    unfold runO at h
    split at h
    · split at h
      · rename_i hk
        simp only [Option.some.injEq, Prod.mk.injEq] at h
        obtain ⟨rfl, rfl⟩ := h
        exact ⟨left, hr, .inl (nxt_none hc hr.hin hk)⟩
      · rename_i hk
        exact run_end l b n _ _ _ _ _ h (hr.step (nxt_mem hk) (nxt_can hc hr.hin hk)) (nxt_COk hc)
    · rename_i hb
      simp only [Option.some.injEq, Prod.mk.injEq] at h
      obtain ⟨rfl, rfl⟩ := h
      exact ⟨left, hr, .inr hb⟩

theorem run_grows (l : List S58) (b : Int) : ∀ (n : Nat) (cr left picks c P : List Int), runO l b n cr left picks = some (c, P) → picks <+: P
  | 0, _, _, _, _, _, h => by simp [runO] at h
  | n + 1, cr, left, picks, c, P, h => by
    unfold runO at h
    split at h
    · split at h
      · simp only [Option.some.injEq, Prod.mk.injEq] at h
        obtain ⟨rfl, rfl⟩ := h
        exact List.prefix_rfl
      · exact (List.prefix_append _ _).trans (run_grows l b n _ _ _ _ _ h)
    · simp only [Option.some.injEq, Prod.mk.injEq] at h
      obtain ⟨rfl, rfl⟩ := h
      exact List.prefix_rfl

theorem run_two (l : List S58) (s b : Int) (hsb : s ≤ b) : ∀ (n : Nat) (cr left picks c1 a c2 P : List Int), (picks.length : Int) ≤ s → runO l s n cr left picks = some (c1, a) → runO l b n cr left picks = some (c2, P) →
    a <+: P ∧ (a.length : Int) = min s (P.length : Int)
  | 0, _, _, _, _, _, _, _, _, h, _ => by simp [runO] at h
  | n + 1, cr, left, picks, c1, a, c2, P, hp, h1, h2 => by
    have hg := run_grows l b (n + 1) _ _ _ _ _ h2
    unfold runO at h1 h2
    by_cases hs : (picks.length : Int) < s
    · rw [if_pos hs] at h1
      rw [if_pos (by omega)] at h2
      split at h1
      · rename_i hk
        rw [if_pos hk] at h2
        simp only [Option.some.injEq, Prod.mk.injEq] at h1 h2
        obtain ⟨rfl, rfl⟩ := h1
        obtain ⟨rfl, rfl⟩ := h2
        exact ⟨List.prefix_rfl, by omega⟩
      · rename_i hk
        rw [if_neg hk] at h2
        exact run_two l s b hsb n _ _ _ _ _ _ _ (by rw [List.length_append]; simp; omega) h1 h2
    · rw [if_neg hs] at h1
      simp only [Option.some.injEq, Prod.mk.injEq] at h1
      obtain ⟨rfl, rfl⟩ := h1
      have := hg.length_le
      exact ⟨hg, by omega⟩

end Go.Proofs.Ytmpeekkbmfbjeaa

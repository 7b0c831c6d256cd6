/- More plain laws of ranks and shares: ranks are a permutation; what the shares add up to; how they lie to the exact proportion; equal weights. No program in sight. -/
import Derived.Test.YtegoadlfchbgfaaRank
namespace Go.Proofs.Ytegoadlfchbgfaa
variable (total : Int) (ws : List Int)

theorem wAhead_trans (i j k : Nat) (h1 : wAhead total ws i j = true) (h2 : wAhead total ws j k = true) : wAhead total ws i k = true := by
  rw [wAhead_iff] at *
  omega
theorem wAhead_total (i j : Nat) (h : i ≠ j) : wAhead total ws i j = true ∨ wAhead total ws j i = true := by
  rw [wAhead_iff, wAhead_iff]
  omega

theorem filter_le {α : Type} (p q : α → Bool) : ∀ (l : List α), (∀ x, x ∈ l → p x = true → q x = true) → (l.filter p).length ≤ (l.filter q).length
  | [], _ => by simp
  | a :: t, h => by
    have ih := filter_le p q t (fun x hx => h x (List.mem_cons_of_mem _ hx))
    rw [List.filter_cons, List.filter_cons]
    by_cases hp : p a = true
    · rw [if_pos hp, if_pos (h a List.mem_cons_self hp)]; simpa using ih
    · rw [if_neg hp]
      split
      · simp only [List.length_cons]; omega
      · exact ih
theorem filter_lt {α : Type} (p q : α → Bool) (z : α) (hq : q z = true) (hp : ¬ p z = true) : ∀ (l : List α), (∀ x, x ∈ l → p x = true → q x = true) → z ∈ l → (l.filter p).length < (l.filter q).length
  | [], _, hz => by simp at hz
  | a :: t, h, hz => by
    rw [List.filter_cons, List.filter_cons]
    by_cases e : a = z
    · subst e
      rw [if_neg hp, if_pos hq]
      have := filter_le p q t (fun x hx => h x (List.mem_cons_of_mem _ hx))
      simp only [List.length_cons]; omega
    · have ih := filter_lt p q z hq hp t (fun x hx => h x (List.mem_cons_of_mem _ hx)) (by
        rcases List.mem_cons.1 hz with h1 | h1
        · exact absurd h1.symm e
        · exact h1)
      by_cases hpa : p a = true
      · rw [if_pos hpa, if_pos (h a List.mem_cons_self hpa)]; simpa using ih
      · rw [if_neg hpa]
        split
        · simp only [List.length_cons]; omega
        · exact ih

theorem rank_lt_of_ahead (i j : Nat) (hi : i < ws.length) (h : wAhead total ws i j = true) : wRank total ws i < wRank total ws j := by
  unfold wRank
  refine filter_lt _ _ i h ?_ _ (fun x _ hx => wAhead_trans total ws x i j hx h) (List.mem_range.2 hi)
  intro e
  have := wAhead_asym total ws i i e
  rw [e] at this; cases this
theorem ahead_of_rank_lt (i j : Nat) (_hi : i < ws.length) (hj : j < ws.length) (h : wRank total ws i < wRank total ws j) : wAhead total ws i j = true := by
  by_cases e : i = j
  · subst e; omega
  · rcases wAhead_total total ws i j e with h1 | h1
    · exact h1
    · have := rank_lt_of_ahead total ws j i hj h1; omega
theorem rank_inj (i j : Nat) (hi : i < ws.length) (hj : j < ws.length) (h : wRank total ws i = wRank total ws j) : i = j := by
  by_cases e : i = j
  · exact e
  · rcases wAhead_total total ws i j e with h1 | h1
    · have := rank_lt_of_ahead total ws i j hi h1; omega
    · have := rank_lt_of_ahead total ws j i hj h1; omega

/-- the order of the remainders, as a list. -/
def wOrder : List Nat := (List.range ws.length).mergeSort fun i j => !wAhead total ws j i
theorem wOrder_perm : (wOrder total ws).Perm (List.range ws.length) := List.mergeSort_perm _ _
theorem wOrder_sorted : (wOrder total ws).Pairwise fun i j => wAhead total ws i j = true := by
  have h1 : (wOrder total ws).Pairwise fun i j => (!wAhead total ws j i) = true := by
    unfold wOrder
    apply List.pairwise_mergeSort
    · intro a b c h1 h2
      simp only [Bool.not_eq_true'] at *
      cases e : wAhead total ws c a with
      | false => rfl
      | true =>
        by_cases hb : b = a
        · subst hb; rw [e] at h2; cases h2
        · rcases wAhead_total total ws b a hb with z | z
          · rw [z] at h1; cases h1
          · have := wAhead_trans total ws c a b e z
            rw [this] at h2; cases h2
    · intro a b
      by_cases e : wAhead total ws b a = true
      · have := wAhead_asym total ws b a e
        simp [this]
      · simp at e; simp [e]
  have h2 : (wOrder total ws).Pairwise fun i j => i ≠ j := by
    have : (wOrder total ws).Nodup := (wOrder_perm total ws).nodup_iff.2 List.nodup_range
    exact this
  refine (h1.and h2).imp ?_
  rintro i j ⟨h, hne⟩
  simp only [Bool.not_eq_true'] at h
  rcases wAhead_total total ws i j hne with z | z
  · exact z
  · rw [z] at h; cases h
theorem wOrder_length : (wOrder total ws).length = ws.length := by
  have := (wOrder_perm total ws).length_eq
  simpa using this
theorem wOrder_rank (k : Nat) (h : k < (wOrder total ws).length) : wRank total ws (wOrder total ws)[k] = k :=
  rank_at total ws _ (wOrder_perm total ws) (wOrder_sorted total ws) k h
theorem rank_surj (k : Nat) (h : k < ws.length) : ∃ j, j < ws.length ∧ wRank total ws j = k := by
  have hk : k < (wOrder total ws).length := by rw [wOrder_length]; exact h
  exact ⟨_, List.mem_range.1 ((wOrder_perm total ws).mem_iff.1 (List.getElem_mem hk)), wOrder_rank total ws k hk⟩
theorem rank_lt (j : Nat) (h : j < ws.length) : wRank total ws j < ws.length := by
  have hm : j ∈ wOrder total ws := (wOrder_perm total ws).mem_iff.2 (List.mem_range.2 h)
  obtain ⟨k, hk, e⟩ := List.mem_iff_getElem.1 hm
  have := wOrder_rank total ws k hk
  rw [e] at this
  rw [this, ← wOrder_length total ws]
  exact hk

theorem perm_sum_map {α : Type} (f : α → Int) {l l' : List α} (h : l.Perm l') : (l.map f).sum = (l'.map f).sum := by
  induction h with
  | nil => rfl
  | cons x _ ih => simp only [List.map_cons, List.sum_cons, ih]
  | swap x y l => simp only [List.map_cons, List.sum_cons]; omega
  | trans _ _ ih1 ih2 => rw [ih1, ih2]

/-- a sum over the weights of what hangs on the rank alone. -/
theorem sum_by_rank (g : Nat → Int) : ((List.range ws.length).map fun j => g (wRank total ws j)).sum = ((List.range ws.length).map g).sum := by
  rw [← perm_sum_map _ (wOrder_perm total ws)]
  have : (wOrder total ws).map (fun j => g (wRank total ws j)) = (List.range ws.length).map g := by
    apply List.ext_getElem
    · simp [wOrder_length]
    · intro i h1 h2
      simp only [List.getElem_map, List.getElem_range]
      rw [wOrder_rank]
  rw [this]

theorem sum_add (f g : Nat → Int) : ∀ n, ((List.range n).map fun j => f j + g j).sum = ((List.range n).map f).sum + ((List.range n).map g).sum
  | 0 => by simp
  | n + 1 => by
    simp only [List.range_succ, List.map_append, List.map_singleton, List.sum_append, List.sum_singleton, sum_add f g n]
    omega
theorem sum_ind (L : Nat) : ∀ n, L ≤ n → ((List.range n).map fun (k : Nat) => if (k : Int) < (L : Int) then (1 : Int) else 0).sum = L
  | 0, h => by simp; omega
  | n + 1, h => by
    simp only [List.range_succ, List.map_append, List.map_singleton, List.sum_append, List.sum_singleton]
    by_cases e : L ≤ n
    · rw [sum_ind L n e, if_neg (by omega)]; omega
    · obtain rfl : L = n + 1 := by omega
      have : ((List.range n).map fun (k : Nat) => if (k : Int) < ((n + 1 : Nat) : Int) then (1 : Int) else 0).sum = n := by
        have e2 : ((List.range n).map fun (k : Nat) => if (k : Int) < ((n + 1 : Nat) : Int) then (1 : Int) else 0) = (List.range n).map fun (k : Nat) => if (k : Int) < (n : Int) then (1 : Int) else 0 := by
          apply List.map_congr_left
          intro k hk
          have := List.mem_range.1 hk
          rw [if_pos (by omega), if_pos (by omega)]
        rw [e2, sum_ind n n (Nat.le_refl _)]
      rw [this, if_pos (by omega)]; omega

theorem wList_length : (wList total ws).length = ws.length := by simp [wList]
theorem wList_getD (j : Nat) (h : j < ws.length) : (wList total ws).getD j 0 = wGive total ws j := by
  simp [wList, List.getD_eq_getElem?_getD, h]

/-- the shares add up to the total. -/
theorem wList_sum (hW : 0 < ws.sum) : (wList total ws).sum = total := by
  obtain ⟨h0, h1⟩ := left_bounds total ws hW
  obtain ⟨L, hL⟩ := Int.eq_ofNat_of_zero_le h0
  have e : (wList total ws).sum = ((List.range ws.length).map fun j => wShare total ws j + (if (wRank total ws j : Int) < (L : Int) then 1 else 0)).sum := by
    unfold wList wGive
    rw [hL]
  rw [e, sum_add (wShare total ws) (fun j => if (wRank total ws j : Int) < (L : Int) then 1 else 0), sum_by_rank total ws (fun (k : Nat) => if (k : Int) < (L : Int) then 1 else 0), sum_ind L _ (by omega)]
  have : wLeft total ws = total - ((List.range ws.length).map (wShare total ws)).sum := rfl
  omega

/-- who gets one more has a remainder. -/
theorem rem_pos_of_given (hW : 0 < ws.sum) (j : Nat) (hj : j < ws.length) (h : (wRank total ws j : Int) < wLeft total ws) : 0 < wRem total ws j := by
  by_cases e : 0 < wRem total ws j
  · exact e
  · exfalso
    have hb := rem_bounds total ws hW
    have h0 : wRem total ws j = 0 := by have := hb j; omega
    have hs := left_mul total ws hW
    -- all of a higher rank have no remainder
    have hz : ∀ i, i < ws.length → wRank total ws j ≤ wRank total ws i → wRem total ws i = 0 := fun i hi hr => by
      by_cases e1 : wRank total ws j = wRank total ws i
      · rw [← rank_inj total ws j i hj hi e1]; exact h0
      · have := ahead_of_rank_lt total ws j i hj hi (by omega)
        rw [wAhead_iff, h0] at this
        have := hb i
        omega
    have hle : ((List.range ws.length).map (wRem total ws)).sum ≤ ((List.range ws.length).map fun i => if (wRank total ws i : Int) < (wRank total ws j : Int) then ws.sum - 1 else 0).sum := by
      have gen : ∀ (l : List Nat), (∀ i, i ∈ l → i < ws.length) → (l.map (wRem total ws)).sum ≤ (l.map fun i => if (wRank total ws i : Int) < (wRank total ws j : Int) then ws.sum - 1 else 0).sum := by
        intro l
        induction l with
        | nil => intro _; simp
        | cons a t ih =>
          intro hl
          have h1 := ih (fun i hi => hl i (List.mem_cons_of_mem _ hi))
          simp only [List.map_cons, List.sum_cons]
          by_cases e1 : (wRank total ws a : Int) < (wRank total ws j : Int)
          · rw [if_pos e1]; have := hb a; omega
          · rw [if_neg e1, hz a (hl a List.mem_cons_self) (by omega)]; omega
      exact gen _ (fun i hi => List.mem_range.1 hi)
    rw [sum_by_rank total ws (fun (k : Nat) => if (k : Int) < (wRank total ws j : Int) then ws.sum - 1 else 0)] at hle
    have hsum : ∀ n : Nat, wRank total ws j ≤ n → ((List.range n).map fun (k : Nat) => if (k : Int) < (wRank total ws j : Int) then ws.sum - 1 else 0).sum = (ws.sum - 1) * (wRank total ws j : Int) := by
      intro n hn
      have e1 : ((List.range n).map fun (k : Nat) => if (k : Int) < (wRank total ws j : Int) then ws.sum - 1 else 0) = (List.range n).map fun (k : Nat) => (ws.sum - 1) * (if (k : Int) < (wRank total ws j : Int) then (1 : Int) else 0) := by
        apply List.map_congr_left
        intro k _
        split <;> simp
      rw [e1]
      have gen : ∀ (l : List Nat), (l.map fun (k : Nat) => (ws.sum - 1) * (if (k : Int) < (wRank total ws j : Int) then (1 : Int) else 0)).sum = (ws.sum - 1) * (l.map fun (k : Nat) => if (k : Int) < (wRank total ws j : Int) then (1 : Int) else 0).sum := by
        intro l
        induction l with
        | nil => simp
        | cons a t ih => simp only [List.map_cons, List.sum_cons, Int.mul_add, ih]
      rw [gen, sum_ind _ n hn]
    rw [hsum _ (Nat.le_of_lt (rank_lt total ws j hj)), ← hs] at hle
    have h2 : ws.sum * ((wRank total ws j : Int) + 1) ≤ ws.sum * wLeft total ws := Int.mul_le_mul_of_nonneg_left (by omega) (by omega)
    rw [Int.mul_add, Int.mul_one] at h2
    rw [Int.sub_mul, Int.one_mul] at hle
    omega

theorem share_mul (j : Nat) : wShare total ws j * ws.sum = total * wAt ws j - wRem total ws j := by
  have := Int.mul_ediv_add_emod (total * wAt ws j) ws.sum
  unfold wShare wRem
  rw [Int.mul_comm]
  omega

/-- every share differs from the exact proportion by less than one. -/
theorem give_near (hW : 0 < ws.sum) (j : Nat) (hj : j < ws.length) : -ws.sum < wGive total ws j * ws.sum - total * wAt ws j ∧ wGive total ws j * ws.sum - total * wAt ws j < ws.sum := by
  have h1 := share_mul total ws j
  have h2 := rem_bounds total ws hW j
  unfold wGive
  by_cases e : (wRank total ws j : Int) < wLeft total ws
  · have := rem_pos_of_given total ws hW j hj e
    rw [if_pos e, Int.add_mul, Int.one_mul]
    omega
  · rw [if_neg e, Int.add_zero]
    omega

theorem give_mono (hW : 0 < ws.sum) (ht : 0 ≤ total) (i k : Nat) (hi : i < ws.length) (_hk : k < ws.length) (h : wAt ws k < wAt ws i) : wGive total ws k ≤ wGive total ws i := by
  have hp : total * wAt ws k ≤ total * wAt ws i := Int.mul_le_mul_of_nonneg_left (by omega) ht
  have hs : wShare total ws k ≤ wShare total ws i := Int.ediv_le_ediv hW hp
  unfold wGive
  by_cases e : wShare total ws k < wShare total ws i
  · split <;> split <;> omega
  · have es : wShare total ws k = wShare total ws i := by omega
    have h1 := share_mul total ws i
    have h2 := share_mul total ws k
    rw [es] at h2
    by_cases er : wRem total ws k < wRem total ws i
    · have ha : wAhead total ws i k = true := by rw [wAhead_iff]; exact .inl er
      have := rank_lt_of_ahead total ws i k hi ha
      by_cases c : (wRank total ws k : Int) < wLeft total ws
      · rw [if_pos c, if_pos (by omega)]; omega
      · rw [if_neg c]; split <;> omega
    · -- then the total is 0, and nothing is left
      have e0 : total * (wAt ws i - wAt ws k) = 0 := by rw [Int.mul_sub]; omega
      have et : total = 0 := by
        rcases Int.mul_eq_zero.1 e0 with z | z
        · exact z
        · omega
      have el : wLeft total ws = 0 := by
        have hl := left_mul total ws hW
        have hz : ((List.range ws.length).map (wRem total ws)).sum = 0 := by
          have : (List.range ws.length).map (wRem total ws) = (List.range ws.length).map fun _ => (0 : Int) := by
            apply List.map_congr_left
            intro j _
            unfold wRem
            rw [et]; simp
          rw [this]
          clear hl this
          induction ws.length with
          | zero => simp
          | succ n ih => simp [List.range_succ, ih]
        rw [hz] at hl
        rcases Int.mul_eq_zero.1 hl with z | z
        · omega
        · exact z
      rw [el, if_neg (by omega), if_neg (by omega)]; omega

theorem give_same (i k : Nat) (hi : i < ws.length) (h : wAt ws i = wAt ws k) (hik : i < k) : wGive total ws i = wGive total ws k ∨ wGive total ws i = wGive total ws k + 1 := by
  have es : wShare total ws i = wShare total ws k := by unfold wShare; rw [h]
  have er : wRem total ws i = wRem total ws k := by unfold wRem; rw [h]
  have := rank_lt_of_ahead total ws i k hi (by rw [wAhead_iff]; exact .inr ⟨er, hik⟩)
  unfold wGive
  rw [es]
  by_cases c : (wRank total ws k : Int) < wLeft total ws
  · rw [if_pos c, if_pos (by omega)]; exact .inl rfl
  · rw [if_neg c]
    split
    · right; omega
    · left; rfl

/-! ### equal weights -/
theorem sum_replicate (n : Nat) (c : Int) : (List.replicate n c).sum = (n : Int) * c := by
  induction n with
  | zero => simp
  | succ n ih => rw [List.replicate_succ, List.sum_cons, ih, show ((n + 1 : Nat) : Int) = (n : Int) + 1 by omega, Int.add_mul]; omega

theorem filter_lt_range (j : Nat) : ∀ n, j ≤ n → ((List.range n).filter fun i => decide (i < j)).length = j
  | 0, h => by simp; omega
  | n + 1, h => by
    rw [List.range_succ, List.filter_append, List.length_append]
    by_cases e : j ≤ n
    · rw [filter_lt_range j n e]
      simp; omega
    · obtain rfl : j = n + 1 := by omega
      have e2 : ((List.range n).filter fun i => decide (i < n + 1)) = List.range n := by
        rw [List.filter_eq_self]
        intro x hx
        have := List.mem_range.1 hx
        simp; omega
      rw [e2]; simp

theorem equal_give (n : Nat) (c : Int) (_hn : 0 < n) (hc : 0 < c) (_ht : 0 ≤ total) (j : Nat) (hj : j < n) :
    wGive total (List.replicate n c) j = total / n + (if (j : Int) < total % n then 1 else 0) := by
  have hlen : (List.replicate n c).length = n := List.length_replicate
  have hsum := sum_replicate n c
  have hat : ∀ i, i < n → wAt (List.replicate n c) i = c := fun i hi => by simp [wAt, List.getD_eq_getElem?_getD, hi]
  have hsh : ∀ i, i < n → wShare total (List.replicate n c) i = total / n := fun i hi => by
    unfold wShare
    rw [hat i hi, hsum]
    exact Int.mul_ediv_mul_of_pos_left _ _ hc
  have hre : ∀ i, i < n → wRem total (List.replicate n c) i = wRem total (List.replicate n c) j := fun i hi => by
    unfold wRem
    rw [hat i hi, hat j hj]
  have hra : wRank total (List.replicate n c) j = j := by
    unfold wRank
    rw [hlen]
    have : ((List.range n).filter fun i => wAhead total (List.replicate n c) i j) = (List.range n).filter fun i => decide (i < j) := by
      apply List.filter_congr
      intro i hi
      have hin := List.mem_range.1 hi
      rw [Bool.eq_iff_iff, wAhead_iff, hre i hin]
      simp
    rw [this, filter_lt_range j n (by omega)]
  have hle : wLeft total (List.replicate n c) = total % n := by
    unfold wLeft
    rw [hlen]
    have e1 : (List.range n).map (wShare total (List.replicate n c)) = (List.range n).map fun _ => total / n := by
      apply List.map_congr_left
      intro i hi
      exact hsh i (List.mem_range.1 hi)
    rw [e1, List.map_const', List.length_range, sum_replicate]
    have := Int.mul_ediv_add_emod total (n : Int)
    omega
  unfold wGive
  rw [hsh j hj, hra, hle]

end Go.Proofs.Ytegoadlfchbgfaa

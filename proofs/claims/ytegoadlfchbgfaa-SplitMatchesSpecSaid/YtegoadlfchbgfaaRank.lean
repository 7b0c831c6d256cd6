/- The plain law of ranks: in the sorted order of the remainders the element at place k has rank k; the part that is left lies between 0 and the number of weights. No program in sight. -/
import Derived.Test.YtegoadlfchbgfaaStablePure
import Derived.Test.YtegoadlfchbgfaaSpec
namespace Go.Proofs.Ytegoadlfchbgfaa
open Go.Sort

theorem filter_rank {α : Type} (r : α → α → Bool) (hasym : ∀ x y, r x y = true → r y x = false) : ∀ (l : List α) (_ : l.Pairwise fun x y => r x y = true) (k : Nat) (h : k < l.length), (l.filter fun x => r x l[k]).length = k
  | [], _, k, h => by simp at h
  | a :: t, hp, k, h => by
    obtain ⟨h1, h2⟩ := List.pairwise_cons.1 hp
    have irr : ∀ x, r x x = false := fun x => by
      cases e : r x x with
      | false => rfl
      | true => have := hasym x x e; rw [e] at this; cases this
    cases k with
    | zero =>
      have e1 : ((a :: t).filter fun x => r x a) = [] := by
        rw [List.filter_eq_nil_iff]
        intro x hx
        rcases List.mem_cons.1 hx with e | hx
        · rw [e, irr]; simp
        · rw [hasym a x (h1 x hx)]; simp
      simp only [List.getElem_cons_zero, e1, List.length_nil]
    | succ k =>
      have hk : k < t.length := by simpa using h
      have ih := filter_rank r hasym t h2 k hk
      have e0 : r a t[k] = true := h1 _ (List.getElem_mem hk)
      simp only [List.getElem_cons_succ, List.filter_cons, e0, if_true, List.length_cons, ih]

variable (total : Int) (ws : List Int)

theorem wAhead_iff (i j : Nat) : wAhead total ws i j = true ↔ wRem total ws j < wRem total ws i ∨ (wRem total ws i = wRem total ws j ∧ i < j) := by
  simp [wAhead]
theorem wAhead_asym (i j : Nat) (h : wAhead total ws i j = true) : wAhead total ws j i = false := by
  cases e : wAhead total ws j i with
  | false => rfl
  | true =>
    rw [wAhead_iff] at h e
    omega

/-- in an order that is sorted by the remainders, the element at place k has rank k. -/
theorem rank_at (l : List Nat) (hperm : l.Perm (List.range ws.length)) (hs : l.Pairwise fun i j => wAhead total ws i j = true) (k : Nat) (h : k < l.length) : wRank total ws l[k] = k := by
  unfold wRank
  rw [← (hperm.filter _).length_eq]
  exact filter_rank (wAhead total ws) (wAhead_asym total ws) l hs k h

/-- the sums of quotients and remainders. -/
theorem sum_parts (W : Int) (f : Nat → Int) : ∀ n, ((List.range n).map f).sum = W * ((List.range n).map fun j => f j / W).sum + ((List.range n).map fun j => f j % W).sum
  | 0 => by simp
  | n + 1 => by
    have ih := sum_parts W f n
    simp only [List.range_succ, List.map_append, List.map_singleton, List.sum_append, List.sum_singleton, ih]
    have := Int.mul_ediv_add_emod (f n) W
    rw [Int.mul_add]
    omega
theorem sum_range_getD (c : Int) : ∀ (l : List Int), ((List.range l.length).map fun j => c * l.getD j 0).sum = c * l.sum := by
  intro l
  induction l with
  | nil => simp
  | cons a t ih =>
    rw [List.length_cons, List.range_succ_eq_map, List.map_cons, List.sum_cons, List.map_map, List.sum_cons, Int.mul_add, ← ih]
    congr 1
theorem sum_bounds (f : Nat → Int) (b : Int) : ∀ n, (∀ j, j < n → 0 ≤ f j ∧ f j ≤ b) → 0 ≤ ((List.range n).map f).sum ∧ ((List.range n).map f).sum ≤ b * (n : Int)
  | 0, _ => by simp
  | n + 1, h => by
    obtain ⟨h1, h2⟩ := sum_bounds f b n (fun j hj => h j (by omega))
    obtain ⟨h3, h4⟩ := h n (by omega)
    simp only [List.range_succ, List.map_append, List.map_singleton, List.sum_append, List.sum_singleton]
    refine ⟨by omega, ?_⟩
    have : b * ((n + 1 : Nat) : Int) = b * (n : Int) + b := by rw [show ((n + 1 : Nat) : Int) = (n : Int) + 1 by omega, Int.mul_add, Int.mul_one]
    omega

theorem left_mul (_hW : 0 < ws.sum) : ws.sum * wLeft total ws = ((List.range ws.length).map (wRem total ws)).sum := by
  have h := sum_parts ws.sum (fun j => total * wAt ws j) ws.length
  have h2 : ((List.range ws.length).map fun j => total * wAt ws j).sum = total * ws.sum := sum_range_getD total ws
  rw [h2] at h
  unfold wLeft
  rw [Int.mul_sub]
  have e1 : ((List.range ws.length).map (wShare total ws)).sum = ((List.range ws.length).map fun j => total * wAt ws j / ws.sum).sum := rfl
  have e2 : ((List.range ws.length).map (wRem total ws)).sum = ((List.range ws.length).map fun j => total * wAt ws j % ws.sum).sum := rfl
  rw [e1, e2]
  have e3 : ws.sum * total = total * ws.sum := Int.mul_comm _ _
  omega

theorem rem_bounds (hW : 0 < ws.sum) (j : Nat) : 0 ≤ wRem total ws j ∧ wRem total ws j ≤ ws.sum - 1 := by
  unfold wRem
  have h1 := Int.emod_nonneg (total * wAt ws j) (show ws.sum ≠ 0 by omega)
  have h2 := Int.emod_lt_of_pos (total * wAt ws j) hW
  omega

theorem left_bounds (hW : 0 < ws.sum) : 0 ≤ wLeft total ws ∧ wLeft total ws ≤ ws.length := by
  have h := left_mul total ws hW
  obtain ⟨h1, h2⟩ := sum_bounds (wRem total ws) (ws.sum - 1) ws.length (fun j _ => rem_bounds total ws hW j)
  rw [← h] at h1 h2
  constructor
  · by_cases e : 0 ≤ wLeft total ws
    · exact e
    · have := Int.mul_neg_of_pos_of_neg hW (show wLeft total ws < 0 by omega)
      omega
  · by_cases e : wLeft total ws ≤ (ws.length : Int)
    · exact e
    · have h3 : ws.sum * ((ws.length : Int) + 1) ≤ ws.sum * wLeft total ws := Int.mul_le_mul_of_nonneg_left (by omega) (by omega)
      have h4 : (ws.sum - 1) * (ws.length : Int) = ws.sum * (ws.length : Int) - (ws.length : Int) := by rw [Int.sub_mul, Int.one_mul]
      rw [Int.mul_add, Int.mul_one] at h3
      omega

/-! ### the elements as numbers below n -/
def remLt {n : Nat} (total : Int) (ws : List Int) (x y : Fin n) : Bool := decide (wRem total ws y.val < wRem total ws x.val)
def finBef {n : Nat} (x y : Fin n) : Prop := x.val < y.val
theorem finBef_trans {n : Nat} : ∀ x y z : Fin n, finBef x y → finBef y z → finBef x z := fun _ _ _ h1 h2 => Nat.lt_trans h1 h2
theorem remLt_swo {n : Nat} : SWO (remLt (n := n) total ws) where
  irrefl x := by simp [remLt]
  trans x y z h1 h2 := by simp [remLt] at *; omega
  ntrans x y z h1 h2 := by simp [remLt] at *; omega
theorem le_ahead {n : Nat} (x y : Fin n) (h : Le (remLt total ws) finBef x y) : wAhead total ws x.val y.val = true := by
  rw [wAhead_iff]
  unfold Le remLt finBef at h
  simp at h
  omega

theorem srt_pairwise {n : Nat} [Inhabited (Fin n)] (d : Array (Fin n)) (hd : d.size = n) (h : Srt (remLt total ws) finBef d 0 n) :
    (d.toList.map fun x => x.val).Pairwise fun i j => wAhead total ws i j = true := by
  rw [List.pairwise_iff_getElem]
  intro i j hi hj hij
  simp only [List.length_map, Array.length_toList] at hi hj
  have := h i j (Nat.zero_le _) hij (by omega)
  rw [getElem!_pos d i hi, getElem!_pos d j hj] at this
  simpa using le_ahead total ws _ _ this

theorem finRange_vals (n : Nat) : ((List.finRange n).map fun x => x.val) = List.range n := by
  apply List.ext_getElem
  · simp
  · intro i h1 h2
    simp

theorem rank_of_sorted {n : Nat} [Inhabited (Fin n)] (hn : n = ws.length) (d : Array (Fin n)) (hd : d.size = n) (hp : d.toList.Perm (List.finRange n)) (h : Srt (remLt total ws) finBef d 0 n) (k : Nat) (hk : k < n) :
    wRank total ws (d[k]!).val = k := by
  have hp2 : (d.toList.map fun x => x.val).Perm (List.range ws.length) := by
    rw [← hn, ← finRange_vals]
    exact hp.map _
  have := rank_at total ws _ hp2 (srt_pairwise total ws d hd h) k (by simp [hd, hk])
  rw [getElem!_pos d k (by omega)]
  simpa using this

/-- among the first L of the order are just those of a rank below L. -/
theorem mem_take_iff {n : Nat} [Inhabited (Fin n)] (hn : n = ws.length) (d : Array (Fin n)) (hd : d.size = n) (hp : d.toList.Perm (List.finRange n)) (h : Srt (remLt total ws) finBef d 0 n) (L : Nat) (hL : L ≤ n) (j : Nat) (hj : j < n) :
    (∃ k, k < L ∧ (d[k]!).val = j) ↔ wRank total ws j < L := by
  constructor
  · rintro ⟨k, hk, e⟩
    rw [← e, rank_of_sorted total ws hn d hd hp h k (by omega)]
    exact hk
  · intro hr
    have hm : (⟨j, hj⟩ : Fin n) ∈ d.toList := hp.mem_iff.2 (List.mem_finRange _)
    obtain ⟨k, hk, e⟩ := List.mem_iff_getElem.1 hm
    have hkn : k < d.size := by simpa using hk
    have e2 : d[k]! = ⟨j, hj⟩ := by rw [getElem!_pos d k hkn]; simpa using e
    refine ⟨k, ?_, by rw [e2]⟩
    have := rank_of_sorted total ws hn d hd hp h k (by omega)
    rw [e2] at this
    simp only at this
    omega

theorem inj_of_perm {n : Nat} [Inhabited (Fin n)] (total : Int) (ws : List Int) (hn : n = ws.length) (d : Array (Fin n)) (hd : d.size = n) (hp : d.toList.Perm (List.finRange n)) (h : Srt (remLt total ws) finBef d 0 n) (p q : Nat) (hpn : p < n) (hq : q < n) (e : (d[p]!).val = (d[q]!).val) : p = q := by
  have h1 := rank_of_sorted total ws hn d hd hp h p hpn
  have h2 := rank_of_sorted total ws hn d hd hp h q hq
  rw [← h1, e, h2]

end Go.Proofs.Ytegoadlfchbgfaa

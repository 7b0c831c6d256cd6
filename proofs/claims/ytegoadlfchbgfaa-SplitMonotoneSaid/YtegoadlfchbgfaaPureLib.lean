/- What the printed Lean functions of split.Even, of the references and of the sanity examples answer. -/
import Derived.Test.YtegoadlfchbgfaaPx1
import Derived.Test.YtegoadlfchbgfaaRank2
namespace Go.Proofs.Ytegoadlfchbgfaa.Pure
open Go.RowKit Go.Proofs.Ytegoadlfchbgfaa.P Go.Proofs.YtegoadlfchbgfaaW.PrintWords Go.Proofs.YtegoadlfchbgfaaW.PrintLast

theorem rd_map (f : Nat → Int) (n i : Nat) (h : i < n) : rd ((List.range n).map f) (i : Int) = f i := by
  simp [rd, List.getD_eq_getElem?_getD, h]

/-- n shares of q, one more at the first i. -/
def evL (q : Int) (n i : Nat) : List Int := (List.range n).map fun (j : Nat) => q + (if j < i then 1 else 0)
theorem evL_len (q : Int) (n i : Nat) : (evL q n i).length = n := by simp [evL]
theorem evL_zero (q : Int) (n : Nat) : List.replicate n q = evL q n 0 := by
  unfold evL
  apply List.ext_getElem
  · simp
  · intro i h1 h2; simp
theorem evL_set (q : Int) (n i : Nat) (_h : i < n) : (evL q n i).set i (q + 1) = evL q n (i + 1) := by
  apply List.ext_getElem
  · simp [evL]
  · intro j h1 h2
    rw [List.getElem_set]
    simp only [evL, List.getElem_map, List.getElem_range]
    by_cases e : i = j
    · subst e; rw [if_pos rfl, if_pos (by omega)]
    · rw [if_neg e]
      have : (j < i + 1) ↔ j < i := by omega
      simp only [this]

def evenRes (t n : Int) : List Int × Int :=
  if 0 ≤ t ∧ t ≤ 2147483647 ∧ 1 ≤ n ∧ n ≤ 65536 then (evL (t / n) n.toNat (t % n).toNat, 0) else ([], 1)

theorem even_l0 (q : Int) (n : Nat) (hn : n ≤ 65536) (hq0 : 0 ≤ q) (hq1 : q ≤ 2147483647) (r : Nat) (hr : r ≤ n) : ∀ (d k i : Nat), i + d = r → d < k → split_Even.l0 k (evL q n i) (r : Int) (i : Int) = some (evL q n r, 0)
  | 0, k, i, hd, hk => by
    obtain ⟨k, rfl⟩ : ∃ m, k = m + 1 := ⟨k - 1, by omega⟩
    obtain rfl : i = r := by omega
    rw [split_Even.l0, if_neg (by omega)]
  | d + 1, k, i, hd, hk => by
    obtain ⟨k, rfl⟩ : ∃ m, k = m + 1 := ⟨k - 1, by omega⟩
    have hrd : rd (evL q n i) (i : Int) = q := by
      unfold evL
      rw [rd_map _ n i (by omega)]
      simp
    rw [split_Even.l0, if_pos (by omega), if_pos (by omega), if_pos (by rw [evL_len]; omega), hrd, wrap_in (q + 1) (by omega) (by omega), Int.toNat_natCast, evL_set q n i (by omega),
      show wrap64 ((i : Int) + 1) = ((i + 1 : Nat) : Int) from wrap_in _ (by omega) (by omega)]
    exact even_l0 q n hn hq0 hq1 r hr d k (i + 1) (by omega) (by omega)

theorem even_f (t n : Int) (k : Nat) (hk : n.toNat + 3 ≤ k) : split_Even.f k t n = some (evenRes t n) := by
  obtain ⟨k, rfl⟩ : ∃ m, k = m + 1 := ⟨k - 1, by omega⟩
  unfold split_Even.f evenRes
  by_cases h1 : t < 0
  · rw [if_pos h1, if_neg (by omega), split_Even.j0, if_pos rfl]
  · by_cases h2 : t > 2147483647
    · rw [if_neg h1, if_pos h2, if_neg (by omega), split_Even.j0, if_pos rfl]
    · by_cases h3 : n < 1
      · rw [if_neg h1, if_neg h2, if_pos h3, if_neg (by omega), split_Even.j0, if_pos rfl]
      · by_cases h4 : n > 65536
        · rw [if_neg h1, if_neg h2, if_neg h3, if_neg (by omega), split_Even.j0, if_pos (by simpa using h4)]
        · obtain ⟨N, rfl⟩ := Int.eq_ofNat_of_zero_le (show 0 ≤ n by omega)
          have hq0 : 0 ≤ t / (N : Int) := Int.ediv_nonneg (by omega) (by omega)
          have hq1 : t / (N : Int) ≤ 2147483647 := Int.le_trans (Int.ediv_le_self _ (by omega)) (by omega)
          have hr0 : 0 ≤ t % (N : Int) := Int.emod_nonneg _ (by omega)
          have hr1 : t % (N : Int) < N := Int.emod_lt_of_pos _ (by omega)
          rw [if_neg h1, if_neg h2, if_neg h3, if_pos (by omega), split_Even.j0, if_neg (by simpa using h4), if_neg (by omega), Int.tdiv_eq_ediv_of_nonneg (by omega), Int.tmod_eq_emod_of_nonneg (by omega),
            wrap_in _ (by omega) (by omega)]
          have hrep : slices_Repeat_int_int.f [t / (N : Int)] (N : Int) = some (List.replicate N (t / (N : Int))) := by
            unfold slices_Repeat_int_int.f
            simp only
            rw [if_pos (by omega), Int.toNat_natCast]
          rw [hrep, Option.bind_some, evL_zero, Int.toNat_natCast]
          obtain ⟨R, hR⟩ := Int.eq_ofNat_of_zero_le hr0
          rw [hR, Int.toNat_natCast]
          have := even_l0 (t / (N : Int)) N (by omega) hq0 hq1 R (by omega) R k 0 (by omega) (by simp at hk; omega)
          exact this

theorem same_l0 : ∀ (d k i : Nat) (a b : List Int), a.length = b.length → a.length ≤ 100000 → i + d = a.length → d < k → solventref33_Same.l0 k a b (i : Int) = some (decide (a.drop i = b.drop i))
  | 0, k, i, a, b, hl, hb, hd, hk => by
    obtain ⟨k, rfl⟩ : ∃ m, k = m + 1 := ⟨k - 1, by omega⟩
    rw [solventref33_Same.l0, if_neg (by omega), List.drop_eq_nil_of_le (by omega), List.drop_eq_nil_of_le (by omega)]
    simp
  | d + 1, k, i, a, b, hl, hb, hd, hk => by
    obtain ⟨k, rfl⟩ : ∃ m, k = m + 1 := ⟨k - 1, by omega⟩
    have ha : i < a.length := by omega
    have hb' : i < b.length := by omega
    have e1 : rd a (i : Int) = a[i] := by simp [rd, List.getD_eq_getElem?_getD, ha]
    have e2 : rd b (i : Int) = b[i] := by simp [rd, List.getD_eq_getElem?_getD, hb']
    rw [solventref33_Same.l0, if_pos (by omega), if_pos (by omega), if_pos (by omega), e1, e2, List.drop_eq_getElem_cons ha, List.drop_eq_getElem_cons hb']
    by_cases c : a[i] = b[i]
    · rw [if_pos c, show wrap64 ((i : Int) + 1) = ((i + 1 : Nat) : Int) from wrap_in _ (by omega) (by omega), same_l0 d k (i + 1) a b hl hb (by omega) (by omega)]
      have : (a[i] :: a.drop (i + 1) = b[i] :: b.drop (i + 1)) ↔ (a.drop (i + 1) = b.drop (i + 1)) := by rw [c]; exact ⟨fun h => (List.cons.inj h).2, fun h => by rw [h]⟩
      simp only [this]
    · rw [if_neg c]
      have : ¬ (a[i] :: a.drop (i + 1) = b[i] :: b.drop (i + 1)) := fun h => c (List.cons.inj h).1
      rw [decide_eq_false this]
theorem same_f (a b : List Int) (k : Nat) (hl : a.length ≤ 100000) (hk : a.length + 1 ≤ k) : solventref33_Same.f k a b = some (decide (a = b)) := by
  unfold solventref33_Same.f
  by_cases h : (a.length : Int) = b.length
  · rw [if_pos h]
    have := same_l0 a.length k 0 a b (by omega) hl (by omega) (by omega)
    simpa using this
  · rw [if_neg h]
    have : a ≠ b := fun e => h (by rw [e])
    simp [this]

theorem sanity_f (k : Nat) (hk : 30 ≤ k) : solventlaw33_sanity.f k = some true := by
  have h : solventlaw33_sanity.f 30 = some true := by
    unfold solventlaw33_sanity.f
    rw [even_f 7 3 30 (by decide), even_f 1 0 30 (by decide)]
    decide +kernel
  exact at_rounds solventlaw33_sanity.mono hk h

end Go.Proofs.Ytegoadlfchbgfaa.Pure

/- The plain law of the stable sort: sorted by the comparison, and among equal ones in the order in which they came. No program in sight. -/
import Derived.Test.YtegoadlfchbgfaaSortDefs
import Derived.Sort.LotA
namespace Go.Proofs.Ytegoadlfchbgfaa
open Go.Sort
variable {α : Type} [Inhabited α]

/-! ### what each piece leaves at each place -/
theorem size_swapRangeP (d : Array α) (a b n : Nat) : (swapRange d a b n).size = d.size := by
  induction n with
  | zero => rfl
  | succ n ih => rw [swapRange, swp_size, ih]

theorem swapRange_get (d : Array α) (a b : Nat) : ∀ (n : Nat), a + n ≤ d.size → b + n ≤ d.size → (a + n ≤ b ∨ b + n ≤ a) → ∀ k,
    (swapRange d a b n)[k]! = if a ≤ k ∧ k < a + n then d[k - a + b]! else if b ≤ k ∧ k < b + n then d[k - b + a]! else d[k]!
  | 0, _, _, _, k => by rw [swapRange, if_neg (by omega), if_neg (by omega)]
  | n + 1, ha, hb, hd, k => by
    have ih := swapRange_get d a b n (by omega) (by omega) (by omega)
    rw [swapRange, swp_get _ (by rw [size_swapRangeP]; omega) (by rw [size_swapRangeP]; omega)]
    by_cases h1 : k = b + n
    · rw [if_pos h1, ih (a + n), if_neg (by omega), if_neg (by omega), if_neg (by omega), if_pos (by omega)]; congr 1; omega
    · rw [if_neg h1]
      by_cases h2 : k = a + n
      · rw [if_pos h2, ih (b + n), if_neg (by omega), if_neg (by omega), if_pos (by omega)]; congr 1; omega
      · rw [if_neg h2, ih k]
        by_cases h3 : a ≤ k ∧ k < a + n
        · rw [if_pos h3, if_pos (by omega)]
        · rw [if_neg h3, if_neg (c := a ≤ k ∧ k < a + (n + 1)) (by omega)]
          by_cases h4 : b ≤ k ∧ k < b + n
          · rw [if_pos h4, if_pos (by omega)]
          · rw [if_neg h4, if_neg (by omega)]

theorem size_rotLoopP (m : Nat) : ∀ (f i j : Nat) (d : Array α), (rotLoop m f i j d).size = d.size
  | 0, _, _, _ => rfl
  | f + 1, i, j, d => by
    unfold rotLoop
    split
    · exact size_swapRangeP _ _ _ _
    · split
      · rw [size_rotLoopP, size_swapRangeP]
      · rw [size_rotLoopP, size_swapRangeP]
theorem size_rotateP (d : Array α) (a m b : Nat) : (rotate d a m b).size = d.size := size_rotLoopP _ _ _ _ _

/-- what a rotation of [m - i, m) against [m, m + j) leaves at k. -/
def rotAt (d : Array α) (m i j k : Nat) : α :=
  if m - i ≤ k ∧ k < m - i + j then d[k + i]! else if m - i + j ≤ k ∧ k < m + j then d[k - j]! else d[k]!

theorem rotLoop_get (m : Nat) : ∀ (f i j : Nat) (d : Array α), 0 < i → 0 < j → i ≤ m → m + j ≤ d.size → i + j ≤ f → ∀ k,
    (rotLoop m f i j d)[k]! = rotAt d m i j k
  | 0, i, j, _, hi, hj, _, _, hf, _ => by omega
  | f + 1, i, j, d, hi, hj, him, hjs, hf, k => by
    unfold rotLoop
    by_cases e : i = j
    · subst e
      rw [if_pos rfl, swapRange_get d (m - i) m i (by omega) (by omega) (by omega)]
      unfold rotAt
      by_cases h1 : m - i ≤ k ∧ k < m - i + i
      · rw [if_pos h1, if_pos h1]; congr 1; omega
      · rw [if_neg h1, if_neg h1]
        by_cases h2 : m ≤ k ∧ k < m + i
        · rw [if_pos h2, if_pos (by omega)]; congr 1; omega
        · rw [if_neg h2, if_neg (by omega)]
    · rw [if_neg e]
      by_cases hl : j < i
      · rw [if_pos hl, rotLoop_get m f (i - j) j _ (by omega) hj (by omega) (by rw [size_swapRangeP]; omega) (by omega)]
        have g := swapRange_get d (m - i) m j (by omega) (by omega) (by omega)
        unfold rotAt
        by_cases h1 : m - (i - j) ≤ k ∧ k < m - (i - j) + j
        · rw [if_pos h1, g, if_neg (by omega), if_pos (by omega), if_neg (by omega), if_pos (by omega)]; congr 1; omega
        · rw [if_neg h1]
          by_cases h2 : m - (i - j) + j ≤ k ∧ k < m + j
          · rw [if_pos h2, g, if_neg (by omega), if_neg (by omega), if_neg (by omega), if_pos (by omega)]
          · rw [if_neg h2, g]
            by_cases h3 : m - i ≤ k ∧ k < m - i + j
            · rw [if_pos h3, if_pos h3]; congr 1; omega
            · rw [if_neg h3, if_neg (by omega), if_neg (by omega), if_neg (by omega)]
      · rw [if_neg hl, rotLoop_get m f i (j - i) _ hi (by omega) him (by rw [size_swapRangeP]; omega) (by omega)]
        have g := swapRange_get d (m - i) (m + j - i) i (by omega) (by omega) (by omega)
        unfold rotAt
        by_cases h1 : m - i ≤ k ∧ k < m - i + (j - i)
        · rw [if_pos h1, g]
          by_cases h3 : k + i < m
          · rw [if_pos (by omega), if_pos (by omega)]; omega
          · rw [if_neg (by omega), if_neg (by omega), if_pos (by omega)]
        · rw [if_neg h1]
          by_cases h2 : m - i + (j - i) ≤ k ∧ k < m + (j - i)
          · rw [if_pos h2, g]
            by_cases h3 : m ≤ k - (j - i)
            · omega
            · rw [if_pos (by omega)]
              by_cases h4 : k < m - i + j
              · rw [if_pos (by omega)]; congr 1; omega
              · omega
          · rw [if_neg h2, g]
            by_cases h3 : m + j - i ≤ k ∧ k < m + j
            · rw [if_neg (by omega), if_pos (by omega), if_neg (by omega), if_pos (by omega)]; congr 1; omega
            · rw [if_neg (by omega), if_neg (by omega), if_neg (by omega), if_neg (by omega)]

theorem rotate_get (d : Array α) (a m b : Nat) (ham : a < m) (hmb : m < b) (hb : b ≤ d.size) (k : Nat) :
    (rotate d a m b)[k]! = if a ≤ k ∧ k < a + (b - m) then d[k + (m - a)]! else if a + (b - m) ≤ k ∧ k < b then d[k - (b - m)]! else d[k]! := by
  unfold rotate
  rw [rotLoop_get m _ _ _ d (by omega) (by omega) (by omega) (by omega) (by omega)]
  unfold rotAt
  rw [show m - (m - a) = a by omega, show m + (b - m) = b by omega]

theorem size_shiftUp1P : ∀ (n k : Nat) (d : Array α), (shiftUp1 n k d).size = d.size
  | 0, _, _ => rfl
  | n + 1, k, d => by rw [shiftUp1, size_shiftUp1P, swp_size]
theorem size_shiftDown1P : ∀ (n k : Nat) (d : Array α), (shiftDown1 n k d).size = d.size
  | 0, _, _ => rfl
  | n + 1, k, d => by rw [shiftDown1, size_shiftDown1P, swp_size]

theorem shiftUp1_get : ∀ (n k : Nat) (d : Array α), k + n < d.size → ∀ t,
    (shiftUp1 n k d)[t]! = if k ≤ t ∧ t < k + n then d[t + 1]! else if t = k + n then d[k]! else d[t]!
  | 0, k, d, _, t => by
    rw [shiftUp1, if_neg (by omega)]
    split
    · next h => rw [h]; rfl
    · rfl
  | n + 1, k, d, h, t => by
    rw [shiftUp1, shiftUp1_get n (k + 1) _ (by rw [swp_size]; omega)]
    have g := fun x => swp_get d (i := k) (j := k + 1) (by omega) (by omega) x
    by_cases h1 : k + 1 ≤ t ∧ t < k + 1 + n
    · rw [if_pos h1, g, if_neg (by omega), if_neg (by omega), if_pos (by omega)]
    · rw [if_neg h1]
      by_cases h2 : t = k + 1 + n
      · rw [if_pos h2, g, if_pos rfl, if_neg (by omega), if_pos (by omega)]
      · rw [if_neg h2, g]
        by_cases h3 : t = k
        · rw [if_neg (by omega), if_pos h3, if_pos (by omega), h3]
        · rw [if_neg (by omega), if_neg h3, if_neg (by omega), if_neg (by omega)]

theorem shiftDown1_get : ∀ (n k : Nat) (d : Array α), n ≤ k → k < d.size → ∀ t,
    (shiftDown1 n k d)[t]! = if k - n < t ∧ t ≤ k then d[t - 1]! else if t = k - n then d[k]! else d[t]!
  | 0, k, d, _, _, t => by
    rw [shiftDown1, if_neg (by omega)]
    split
    · next h => rw [h]; rfl
    · rfl
  | n + 1, k, d, hn, h, t => by
    rw [shiftDown1, shiftDown1_get n (k - 1) _ (by omega) (by rw [swp_size]; omega)]
    have g := fun x => swp_get d (i := k) (j := k - 1) (by omega) (by omega) x
    by_cases h1 : k - 1 - n < t ∧ t ≤ k - 1
    · rw [if_pos h1, g, if_neg (by omega), if_neg (by omega), if_pos (by omega)]
    · rw [if_neg h1]
      by_cases h2 : t = k - 1 - n
      · rw [if_pos h2, g, if_pos rfl, if_neg (by omega), if_pos (by omega)]
      · rw [if_neg h2, g]
        by_cases h3 : t = k
        · rw [if_neg (by omega), if_pos h3, if_pos (by omega), h3]
        · rw [if_neg (by omega), if_neg h3, if_neg (by omega), if_neg (by omega)]

theorem bsearch_spec (p : Nat → Bool) : ∀ (f i j : Nat), i ≤ j → j - i ≤ f → (∀ x y, i ≤ x → x ≤ y → y < j → p y = true → p x = true) →
    i ≤ bsearch p f i j ∧ bsearch p f i j ≤ j ∧ (∀ x, i ≤ x → x < bsearch p f i j → p x = true) ∧ (∀ x, bsearch p f i j ≤ x → x < j → p x = false)
  | 0, i, j, hij, hf, _ => by
    rw [bsearch]
    exact ⟨Nat.le_refl _, hij, fun x _ _ => by omega, fun x _ _ => by omega⟩
  | f + 1, i, j, hij, hf, hp => by
    rw [bsearch]
    by_cases h : i < j
    · rw [if_pos h]
      cases hv : p ((i + j) / 2) with
      | true =>
        rw [if_pos rfl]
        obtain ⟨h1, h2, h3, h4⟩ := bsearch_spec p f ((i + j) / 2 + 1) j (by omega) (by omega) (fun x y hx hxy hy => hp x y (by omega) hxy hy)
        refine ⟨by omega, h2, fun x hx hxr => ?_, h4⟩
        by_cases hx2 : x ≤ (i + j) / 2
        · exact hp x ((i + j) / 2) hx hx2 (by omega) hv
        · exact h3 x (by omega) hxr
      | false =>
        rw [if_neg (by simp)]
        obtain ⟨h1, h2, h3, h4⟩ := bsearch_spec p f i ((i + j) / 2) (by omega) (by omega) (fun x y hx hxy hy => hp x y hx hxy (by omega))
        refine ⟨h1, by omega, h3, fun x hx hxj => ?_⟩
        by_cases hx2 : x < (i + j) / 2
        · exact h4 x hx hx2
        · cases hpx : p x with
          | false => rfl
          | true => exact absurd (hp ((i + j) / 2) x (by omega) (by omega) hxj hpx) (by simp [hv])
    · rw [if_neg h]
      exact ⟨Nat.le_refl _, hij, fun x _ _ => by omega, fun x _ _ => by omega⟩

/-! ### permutations, and where an element came from -/
theorem perm_swp (d : Array α) {i j : Nat} (hi : i < d.size) (hj : j < d.size) : (swp d i j).toList.Perm d.toList := by
  have h := (swp_permIn d 0 d.size i j (by omega) hi (by omega) hj (Nat.le_refl _)).2.2
  simpa [swp_size, Array.extract_eq_self_of_le] using h

theorem perm_swapRange (d : Array α) (a b : Nat) : ∀ n, a + n ≤ d.size → b + n ≤ d.size → (swapRange d a b n).toList.Perm d.toList
  | 0, _, _ => List.Perm.refl _
  | n + 1, ha, hb => (perm_swp _ (by rw [size_swapRangeP]; omega) (by rw [size_swapRangeP]; omega)).trans (perm_swapRange d a b n (by omega) (by omega))

theorem perm_rotLoop (m : Nat) : ∀ (f i j : Nat) (d : Array α), i ≤ m → m + j ≤ d.size → (rotLoop m f i j d).toList.Perm d.toList
  | 0, _, _, d, _, _ => List.Perm.refl _
  | f + 1, i, j, d, hi, hj => by
    unfold rotLoop
    split
    · exact perm_swapRange _ _ _ _ (by omega) (by omega)
    · split
      · exact (perm_rotLoop m f _ _ _ (by omega) (by rw [size_swapRangeP]; omega)).trans (perm_swapRange _ _ _ _ (by omega) (by omega))
      · exact (perm_rotLoop m f _ _ _ (by omega) (by rw [size_swapRangeP]; omega)).trans (perm_swapRange _ _ _ _ (by omega) (by omega))

theorem perm_rotate (d : Array α) (a m b : Nat) (hmb : m ≤ b) (hb : b ≤ d.size) : (rotate d a m b).toList.Perm d.toList :=
  perm_rotLoop _ _ _ _ _ (by omega) (by omega)

theorem perm_shiftUp1 : ∀ (n k : Nat) (d : Array α), k + n < d.size → (shiftUp1 n k d).toList.Perm d.toList
  | 0, _, _, _ => List.Perm.refl _
  | n + 1, k, d, h => (perm_shiftUp1 n (k + 1) _ (by rw [swp_size]; omega)).trans (perm_swp _ (by omega) (by omega))
theorem perm_shiftDown1 : ∀ (n k : Nat) (d : Array α), k < d.size → (shiftDown1 n k d).toList.Perm d.toList
  | 0, _, _, _ => List.Perm.refl _
  | n + 1, k, d, h => (perm_shiftDown1 n (k - 1) _ (by rw [swp_size]; omega)).trans (perm_swp _ (by omega) (by omega))

/-- outside [a, b) all is as it was; what is in [a, b) came from there. -/
def From (a b : Nat) (d d' : Array α) : Prop :=
  d'.size = d.size ∧ (∀ k, k < a ∨ b ≤ k → d'[k]! = d[k]!) ∧ ∀ k, a ≤ k → k < b → ∃ q, a ≤ q ∧ q < b ∧ d'[k]! = d[q]!

theorem From.refl (a b : Nat) (d : Array α) : From a b d d := ⟨rfl, fun _ _ => rfl, fun k h1 h2 => ⟨k, h1, h2, rfl⟩⟩
theorem From.trans {a b : Nat} {d d' d'' : Array α} (h : From a b d d') (h' : From a b d' d'') : From a b d d'' :=
  ⟨h'.1.trans h.1, fun k hk => (h'.2.1 k hk).trans (h.2.1 k hk), fun k h1 h2 => by
    obtain ⟨q, q1, q2, e⟩ := h'.2.2 k h1 h2
    obtain ⟨r, r1, r2, e2⟩ := h.2.2 q q1 q2
    exact ⟨r, r1, r2, e.trans e2⟩⟩
theorem From.mono {a b a' b' : Nat} {d d' : Array α} (h : From a b d d') (ha : a' ≤ a) (hb : b ≤ b') : From a' b' d d' :=
  ⟨h.1, fun k hk => h.2.1 k (by omega), fun k h1 h2 => by
    by_cases hk : a ≤ k ∧ k < b
    · obtain ⟨q, q1, q2, e⟩ := h.2.2 k hk.1 hk.2
      exact ⟨q, by omega, by omega, e⟩
    · exact ⟨k, h1, h2, h.2.1 k (by omega)⟩⟩
theorem From.rotate (d : Array α) (a m b : Nat) (ham : a < m) (hmb : m < b) (hb : b ≤ d.size) : From a b d (rotate d a m b) :=
  ⟨size_rotateP _ _ _ _, fun k hk => by rw [rotate_get d a m b ham hmb hb, if_neg (by omega), if_neg (by omega)], fun k h1 h2 => by
    rw [rotate_get d a m b ham hmb hb]
    by_cases h : a ≤ k ∧ k < a + (b - m)
    · rw [if_pos h]; exact ⟨_, by omega, by omega, rfl⟩
    · rw [if_neg h, if_pos (by omega)]; exact ⟨_, by omega, by omega, rfl⟩⟩

/-! ### the order -/
/-- less, or not greater and earlier. -/
def Le (lt : α → α → Bool) (bef : α → α → Prop) (x y : α) : Prop := lt x y = true ∨ (lt y x = false ∧ bef x y)

variable {lt : α → α → Bool} {bef : α → α → Prop}
omit [Inhabited α] in
theorem SWO.asymP (hS : SWO lt) {x y : α} (h : lt x y = true) : lt y x = false := by
  cases e : lt y x with
  | false => rfl
  | true => have := hS.trans x y x h e; rw [hS.irrefl] at this; cases this
omit [Inhabited α] in
theorem Le.ge (hS : SWO lt) {x y : α} (h : Le lt bef x y) : lt y x = false := by
  rcases h with h | h
  · exact SWO.asymP hS h
  · exact h.1
omit [Inhabited α] in
theorem lt_of_lt_of_ge (hS : SWO lt) {x y z : α} (h : lt x y = true) (h2 : lt z y = false) : lt x z = true := by
  cases e : lt x z with
  | true => rfl
  | false =>
    have := hS.ntrans x z y e h2
    rw [h] at this; cases this
omit [Inhabited α] in
theorem lt_of_ge_of_lt (hS : SWO lt) {x y z : α} (h : lt y x = false) (h2 : lt y z = true) : lt x z = true := by
  cases e : lt x z with
  | true => rfl
  | false =>
    have := hS.ntrans y x z h e
    rw [h2] at this; cases this
omit [Inhabited α] in
theorem Le.trans (hS : SWO lt) (hB : ∀ x y z, bef x y → bef y z → bef x z) {x y z : α} (h : Le lt bef x y) (h2 : Le lt bef y z) : Le lt bef x z := by
  rcases h with h | ⟨h, b⟩
  · exact .inl (lt_of_lt_of_ge hS h (h2.ge hS))
  · rcases h2 with h2 | ⟨h2, b2⟩
    · exact .inl (lt_of_ge_of_lt hS h h2)
    · exact .inr ⟨hS.ntrans _ _ _ h2 h, hB _ _ _ b b2⟩

def Srt (lt : α → α → Bool) (bef : α → α → Prop) (d : Array α) (a b : Nat) : Prop := ∀ p q, a ≤ p → p < q → q < b → Le lt bef d[p]! d[q]!
def Bef (bef : α → α → Prop) (d : Array α) (a m b : Nat) : Prop := ∀ p q, a ≤ p → p < m → m ≤ q → q < b → bef d[p]! d[q]!

theorem symMerge_spec (hS : SWO lt) (hB : ∀ x y z, bef x y → bef y z → bef x z) : ∀ (f : Nat) (d : Array α) (a m b : Nat), a < m → m < b → b ≤ d.size → b - a ≤ f →
    Srt lt bef d a m → Srt lt bef d m b → Bef bef d a m b →
    From a b d (symMerge lt f d a m b) ∧ (symMerge lt f d a m b).toList.Perm d.toList ∧ Srt lt bef (symMerge lt f d a m b) a b
  | 0, d, a, m, b, ham, hmb, hb, hf, _, _, _ => by omega
  | f + 1, d, a, m, b, ham, hmb, hb, hf, hL, hR, hBf => by
    rw [symMerge]
    by_cases c1 : m - a = 1
    · rw [if_pos c1]
      obtain rfl : m = a + 1 := by omega
      obtain ⟨s1, s2, s3, s4⟩ := bsearch_spec (fun h => lt d[h]! d[a]!) (b - (a + 1)) (a + 1) b (by omega) (by omega) (fun x y hx hxy hy hp => by
        by_cases e : x = y
        · rw [e]; exact hp
        · exact lt_of_ge_of_lt hS ((hR x y hx (by omega) hy).ge hS) hp)
      generalize bsearch (fun h => lt d[h]! d[a]!) (b - (a + 1)) (a + 1) b = i at s1 s2 s3 s4 ⊢
      have g := shiftUp1_get (i - 1 - a) a d (by omega)
      refine ⟨⟨size_shiftUp1P _ _ _, fun k hk => ?_, fun k h1 h2 => ?_⟩, perm_shiftUp1 _ _ _ (by omega), fun p q hp hpq hq => ?_⟩
      · rw [g, if_neg (by omega), if_neg (by omega)]
      · rw [g]
        by_cases e1 : a ≤ k ∧ k < a + (i - 1 - a)
        · rw [if_pos e1]; exact ⟨_, by omega, by omega, rfl⟩
        · rw [if_neg e1]
          by_cases e2 : k = a + (i - 1 - a)
          · rw [if_pos e2]; exact ⟨a, by omega, by omega, rfl⟩
          · rw [if_neg e2]; exact ⟨k, by omega, by omega, rfl⟩
      · rw [g, g]
        by_cases e1 : q < i - 1
        · rw [if_pos (by omega), if_pos (by omega)]; exact hR _ _ (by omega) (by omega) (by omega)
        · by_cases e2 : q = i - 1
          · rw [if_pos (by omega), if_neg (by omega), if_pos (by omega)]; exact .inl (s3 _ (by omega) (by omega))
          · rw [if_neg (c := a ≤ q ∧ _) (by omega), if_neg (c := q = _) (by omega)]
            by_cases e3 : p < i - 1
            · rw [if_pos (by omega)]; exact hR _ _ (by omega) (by omega) (by omega)
            · rw [if_neg (by omega)]
              by_cases e4 : p = i - 1
              · rw [if_pos (by omega)]; exact .inr ⟨s4 q (by omega) (by omega), hBf a q (by omega) (by omega) (by omega) hq⟩
              · rw [if_neg (by omega)]; exact hR _ _ (by omega) (by omega) (by omega)
    · rw [if_neg c1]
      by_cases c2 : b - m = 1
      · rw [if_pos c2]
        obtain rfl : b = m + 1 := by omega
        obtain ⟨s1, s2, s3, s4⟩ := bsearch_spec (fun h => !lt d[m]! d[h]!) (m - a) a m (by omega) (by omega) (fun x y hx hxy hy hp => by
          simp only [Bool.not_eq_true'] at hp ⊢
          by_cases e : x = y
          · rw [e]; exact hp
          · exact hS.ntrans _ _ _ hp ((hL x y hx (by omega) hy).ge hS))
        generalize bsearch (fun h => !lt d[m]! d[h]!) (m - a) a m = i at s1 s2 s3 s4 ⊢
        have g := shiftDown1_get (m - i) m d (by omega) (by omega)
        refine ⟨⟨size_shiftDown1P _ _ _, fun k hk => ?_, fun k h1 h2 => ?_⟩, perm_shiftDown1 _ _ _ (by omega), fun p q hp hpq hq => ?_⟩
        · rw [g, if_neg (by omega), if_neg (by omega)]
        · rw [g]
          by_cases e1 : m - (m - i) < k ∧ k ≤ m
          · rw [if_pos e1]; exact ⟨_, by omega, by omega, rfl⟩
          · rw [if_neg e1]
            by_cases e2 : k = m - (m - i)
            · rw [if_pos e2]; exact ⟨m, by omega, by omega, rfl⟩
            · rw [if_neg e2]; exact ⟨k, by omega, by omega, rfl⟩
        · rw [g, g]
          by_cases e1 : q < i
          · rw [if_neg (by omega), if_neg (by omega), if_neg (by omega), if_neg (by omega)]; exact hL _ _ (by omega) (by omega) (by omega)
          · by_cases e2 : q = i
            · rw [if_neg (by omega), if_neg (by omega), if_neg (by omega), if_pos (by omega)]
              have := s3 p (by omega) (by omega)
              simp only [Bool.not_eq_true'] at this
              exact .inr ⟨this, hBf p m (by omega) (by omega) (by omega) (by omega)⟩
            · rw [if_pos (c := m - (m - i) < q ∧ _) (by omega)]
              by_cases e3 : p < i
              · rw [if_neg (by omega), if_neg (by omega)]; exact hL _ _ (by omega) (by omega) (by omega)
              · by_cases e4 : p = i
                · rw [if_neg (by omega), if_pos (by omega)]
                  have := s4 (q - 1) (by omega) (by omega)
                  simp only [Bool.not_eq_false'] at this
                  exact .inl this
                · rw [if_pos (by omega)]; exact hL _ _ (by omega) (by omega) (by omega)
      · rw [if_neg c2]
        dsimp only
        have hmid1 : 2 * smMid a b ≤ a + b := by unfold smMid; omega
        have hmid2 : a + b ≤ 2 * smMid a b + 1 := by unfold smMid; omega
        have hs0 : (smMid a b < m ∧ smStart0 a m b = smMid a b + m - b ∧ smR0 a m b = smMid a b) ∨ (m ≤ smMid a b ∧ smStart0 a m b = a ∧ smR0 a m b = m) := by
          unfold smStart0 smR0
          by_cases h : smMid a b < m
          · left; rw [if_pos h, if_pos h]; exact ⟨h, rfl, rfl⟩
          · right; rw [if_neg h, if_neg h]; exact ⟨by omega, rfl, rfl⟩
        obtain ⟨s1, s2, s3, s4⟩ := bsearch_spec (fun c => !lt d[smMid a b + m - 1 - c]! d[c]!) (b - a) (smStart0 a m b) (smR0 a m b) (by omega) (by omega) (fun x y hx hxy hy hp => by
          simp only [Bool.not_eq_true'] at hp ⊢
          by_cases e : x = y
          · rw [e]; exact hp
          · -- d[p - y] not less than d[y]; x < y
            have h1 : lt d[smMid a b + m - 1 - x]! d[smMid a b + m - 1 - y]! = false := (hR _ _ (by omega) (by omega) (by omega)).ge hS
            have h2 : lt d[y]! d[x]! = false := (hL x y (by omega) (by omega) (by omega)).ge hS
            exact hS.ntrans _ _ _ (hS.ntrans _ _ _ h1 hp) h2)
        have hst : smStart lt d a m b = bsearch (fun c => !lt d[smMid a b + m - 1 - c]! d[c]!) (b - a) (smStart0 a m b) (smR0 a m b) := rfl
        rw [← hst] at s1 s2 s3 s4
        generalize smStart lt d a m b = st at s1 s2 s3 s4 ⊢
        generalize smMid a b = mid at hmid1 hmid2 hs0 s3 s4 ⊢
        clear hst
        obtain ⟨fin, hfin⟩ : ∃ q, q = mid + m - st := ⟨_, rfl⟩
        rw [← hfin]
        have hst1 : a ≤ st := by omega
        have hst2 : st ≤ m := by omega
        have hst3 : m ≤ fin := by omega
        have hst4 : fin ≤ b := by omega
        have hst5 : st ≤ mid := by omega
        -- the first of the four borders: the left half's left part is not greater than the right half's right part
        have b1 : ∀ p q, a ≤ p → p < st → fin ≤ q → q < b → Le lt bef d[p]! d[q]! := fun p q h1 h2 h3 h4 => by
          have hb1 : bef d[p]! d[q]! := hBf p q h1 (by omega) (by omega) h4
          have hs : st - 1 < st := by omega
          by_cases hss : smStart0 a m b ≤ st - 1
          · have e := s3 (st - 1) hss hs
            simp only [Bool.not_eq_true'] at e
            have e' : lt d[fin]! d[st - 1]! = false := by rw [show fin = mid + m - 1 - (st - 1) by omega]; exact e
            have l1 : lt d[st - 1]! d[p]! = false := by
              by_cases z : p = st - 1
              · rw [z]; exact hS.irrefl _
              · exact (hL p (st - 1) h1 (by omega) (by omega)).ge hS
            have l2 : lt d[q]! d[fin]! = false := by
              by_cases z : fin = q
              · rw [z]; exact hS.irrefl _
              · exact (hR fin q (by omega) (by omega) h4).ge hS
            exact .inr ⟨hS.ntrans _ _ _ (hS.ntrans _ _ _ l2 e') l1, hb1⟩
          · omega
        have b2 : ∀ p q, m ≤ p → p < fin → st ≤ q → q < m → lt d[p]! d[q]! = true := fun p q h1 h2 h3 h4 => by
          have hr : st < smR0 a m b := by omega
          have e := s4 st (Nat.le_refl _) hr
          simp only [Bool.not_eq_false'] at e
          have e' : lt d[fin - 1]! d[st]! = true := by rw [show fin - 1 = mid + m - 1 - st by omega]; exact e
          have l1 : lt d[fin - 1]! d[p]! = false := by
            by_cases z : p = fin - 1
            · rw [z]; exact hS.irrefl _
            · exact (hR p (fin - 1) h1 (by omega) (by omega)).ge hS
          have l2 : lt d[q]! d[st]! = false := by
            by_cases z : st = q
            · rw [z]; exact hS.irrefl _
            · exact (hL st q (by omega) (by omega) h4).ge hS
          exact lt_of_lt_of_ge hS (lt_of_ge_of_lt hS l1 e') l2
        -- behind the rotation
        obtain ⟨d1, hd1⟩ : ∃ q, q = (if st < m ∧ m < fin then rotate d st m fin else d) := ⟨_, rfl⟩
        rw [← hd1]
        have sz1 : d1.size = d.size := by rw [hd1]; split <;> first | exact size_rotateP _ _ _ _ | rfl
        have F1 : From a b d d1 := by
          rw [hd1]; split
          · next h => exact (From.rotate d st m fin h.1 h.2 (by omega)).mono hst1 hst4
          · exact From.refl _ _ _
        have P1 : d1.toList.Perm d.toList := by
          rw [hd1]; split
          · next h => exact perm_rotate d st m fin (by omega) (by omega)
          · exact List.Perm.refl _
        have g1 : ∀ k, d1[k]! = if st ≤ k ∧ k < mid then d[k + (m - st)]! else if mid ≤ k ∧ k < fin then d[k - (fin - m)]! else d[k]! := fun k => by
          rw [hd1]
          by_cases h : st < m ∧ m < fin
          · rw [if_pos h, rotate_get d st m fin h.1 h.2 (by omega), show st + (fin - m) = mid by omega]
          · rw [if_neg h]
            by_cases h1 : st ≤ k ∧ k < mid
            · rw [if_pos h1]; congr 1; omega
            · rw [if_neg h1]
              by_cases h2 : mid ≤ k ∧ k < fin
              · rw [if_pos h2]; congr 1; omega
              · rw [if_neg h2]
        have L1 : Srt lt bef d1 a st := fun p q hp hpq hq => by
          rw [g1, g1, if_neg (by omega), if_neg (by omega), if_neg (by omega), if_neg (by omega)]; exact hL p q hp hpq (by omega)
        have L2 : Srt lt bef d1 st mid := fun p q hp hpq hq => by
          rw [g1, g1, if_pos (by omega), if_pos (by omega)]; exact hR _ _ (by omega) (by omega) (by omega)
        have L3 : Bef bef d1 a st mid := fun p q hp hps hsq hq => by
          rw [g1, g1, if_neg (by omega), if_neg (by omega), if_pos (by omega)]; exact hBf _ _ hp (by omega) (by omega) (by omega)
        have R1 : Srt lt bef d1 mid fin := fun p q hp hpq hq => by
          rw [g1, g1, if_neg (by omega), if_pos (by omega), if_neg (by omega), if_pos (by omega)]; exact hL _ _ (by omega) (by omega) (by omega)
        have R2 : Srt lt bef d1 fin b := fun p q hp hpq hq => by
          rw [g1, g1, if_neg (by omega), if_neg (by omega), if_neg (by omega), if_neg (by omega)]; exact hR _ _ (by omega) (by omega) (by omega)
        have R3 : Bef bef d1 mid fin b := fun p q hp hps hsq hq => by
          rw [g1, g1, if_neg (by omega), if_pos (by omega), if_neg (by omega), if_neg (by omega)]; exact hBf _ _ (by omega) (by omega) (by omega) hq
        have X : ∀ p q, a ≤ p → p < mid → mid ≤ q → q < b → Le lt bef d1[p]! d1[q]! := fun p q hp hpm hmq hq => by
          rw [g1, g1]
          by_cases e1 : p < st
          · rw [if_neg (by omega), if_neg (by omega)]
            by_cases e2 : q < fin
            · rw [if_neg (by omega), if_pos (by omega)]; exact hL _ _ hp (by omega) (by omega)
            · rw [if_neg (by omega), if_neg (by omega)]; exact b1 p q hp e1 (by omega) hq
          · rw [if_pos (by omega)]
            by_cases e2 : q < fin
            · rw [if_neg (by omega), if_pos (by omega)]; exact .inl (b2 _ _ (by omega) (by omega) (by omega) (by omega))
            · rw [if_neg (by omega), if_neg (by omega)]; exact hR _ _ (by omega) (by omega) (by omega)
        clear b1 b2 s3 s4 hL hR hBf g1
        -- the left half
        obtain ⟨d2, hd2⟩ : ∃ q, q = (if a < st ∧ st < mid then symMerge lt f d1 a st mid else d1) := ⟨_, rfl⟩
        rw [← hd2]
        have K2 : From a mid d1 d2 ∧ d2.toList.Perm d1.toList ∧ Srt lt bef d2 a mid := by
          rw [hd2]
          by_cases h : a < st ∧ st < mid
          · rw [if_pos h]
            exact symMerge_spec hS hB f d1 a st mid h.1 h.2 (by omega) (by omega) L1 L2 L3
          · rw [if_neg h]
            refine ⟨From.refl _ _ _, List.Perm.refl _, fun p q hp hpq hq => ?_⟩
            by_cases e : a < st
            · exact L1 p q hp hpq (by omega)
            · exact L2 p q (by omega) hpq hq
        obtain ⟨F2, P2, S2⟩ := K2
        have at2 : ∀ k, mid ≤ k → d2[k]! = d1[k]! := fun k hk => F2.2.1 k (.inr hk)
        -- the right half
        obtain ⟨d3, hd3⟩ : ∃ q, q = (if mid < fin ∧ fin < b then symMerge lt f d2 mid fin b else d2) := ⟨_, rfl⟩
        rw [← hd3]
        have K3 : From mid b d2 d3 ∧ d3.toList.Perm d2.toList ∧ Srt lt bef d3 mid b := by
          have R1' : Srt lt bef d2 mid fin := fun p q hp hpq hq => by rw [at2 _ hp, at2 _ (by omega)]; exact R1 p q hp hpq hq
          have R2' : Srt lt bef d2 fin b := fun p q hp hpq hq => by rw [at2 _ (by omega), at2 _ (by omega)]; exact R2 p q hp hpq hq
          have R3' : Bef bef d2 mid fin b := fun p q hp hps hsq hq => by rw [at2 _ hp, at2 _ (by omega)]; exact R3 p q hp hps hsq hq
          rw [hd3]
          by_cases h : mid < fin ∧ fin < b
          · rw [if_pos h]
            exact symMerge_spec hS hB f d2 mid fin b h.1 h.2 (by rw [F2.1]; omega) (by omega) R1' R2' R3'
          · rw [if_neg h]
            refine ⟨From.refl _ _ _, List.Perm.refl _, fun p q hp hpq hq => ?_⟩
            by_cases e : mid < fin
            · exact R1' p q hp hpq (by omega)
            · exact R2' p q (by omega) hpq hq
        obtain ⟨F3, P3, S3⟩ := K3
        have at3 : ∀ k, k < mid → d3[k]! = d2[k]! := fun k hk => F3.2.1 k (.inl hk)
        refine ⟨(F1.trans (F2.mono (Nat.le_refl _) (by omega))).trans (F3.mono (by omega) (Nat.le_refl _)), (P3.trans P2).trans P1, fun p q hp hpq hq => ?_⟩
        by_cases e1 : q < mid
        · rw [at3 p (by omega), at3 q e1]; exact S2 p q hp hpq e1
        · by_cases e2 : p < mid
          · obtain ⟨q', q1, q2, eq⟩ := F3.2.2 q (by omega) hq
            obtain ⟨p', p1, p2, ep⟩ := F2.2.2 p hp e2
            rw [at3 p e2, eq, at2 q' q1, ep]
            exact X p' q' p1 p2 q1 q2
          · exact S3 p q (by omega) hpq hq

/-! ### the insertion sort -/
theorem size_insInner (a : Nat) : ∀ (j : Nat) (d : Array α), (insInner lt a j d).size = d.size
  | 0, _ => rfl
  | j + 1, d => by
    rw [insInner]
    split
    · rw [size_insInner, swp_size]
    · rfl

theorem insInner_get (a : Nat) : ∀ (j : Nat) (d : Array α), a ≤ j → j < d.size → ∃ t, a ≤ t ∧ t ≤ j ∧
    (∀ k, (insInner lt a j d)[k]! = if k = t then d[j]! else if t < k ∧ k ≤ j then d[k - 1]! else d[k]!) ∧
    (∀ k, t ≤ k → k < j → lt d[j]! d[k]! = true) ∧ (t = a ∨ lt d[j]! d[t - 1]! = false)
  | 0, d, ha, hj => ⟨0, ha, Nat.le_refl _, fun k => by
      rw [insInner]; split
      · next h => rw [h]
      · rw [if_neg (by omega)], fun k _ _ => by omega, .inl (by omega)⟩
  | j + 1, d, ha, hj => by
    rw [insInner]
    by_cases h : (decide (j + 1 > a) && lt d[j + 1]! d[j]!) = true
    · rw [if_pos h]
      simp only [Bool.and_eq_true, decide_eq_true_eq] at h
      have g := fun x => swp_get d (i := j + 1) (j := j) (by omega) (by omega) x
      obtain ⟨t, t1, t2, t3, t4, t5⟩ := insInner_get a j (swp d (j + 1) j) (by omega) (by rw [swp_size]; omega)
      have ej : (swp d (j + 1) j)[j]! = d[j + 1]! := by rw [g, if_pos rfl]
      refine ⟨t, t1, by omega, fun k => ?_, fun k hk1 hk2 => ?_, ?_⟩
      · rw [t3, ej]
        by_cases e1 : k = t
        · rw [if_pos e1, if_pos e1]
        · rw [if_neg e1, if_neg e1]
          by_cases e2 : t < k ∧ k ≤ j
          · rw [if_pos e2, g, if_neg (by omega), if_neg (by omega), if_pos (by omega)]
          · rw [if_neg e2, g]
            by_cases e3 : k = j + 1
            · rw [if_neg (by omega), if_pos e3, if_pos (by omega), e3]; rfl
            · by_cases e4 : k = j
              · omega
              · rw [if_neg e4, if_neg e3, if_neg (by omega)]
      · by_cases e : k = j
        · rw [e]; exact h.2
        · have := t4 k hk1 (by omega)
          rw [ej, g, if_neg e, if_neg (by omega)] at this
          exact this
      · rcases t5 with t5 | t5
        · exact .inl t5
        · by_cases e : t = 0
          · exact .inl (by omega)
          · rw [ej, g, if_neg (by omega), if_neg (by omega)] at t5
            exact .inr t5
    · rw [if_neg h]
      simp only [Bool.and_eq_true, decide_eq_true_eq, not_and, Bool.not_eq_true] at h
      refine ⟨j + 1, ha, Nat.le_refl _, fun k => ?_, fun k _ _ => by omega, ?_⟩
      · split
        · next h => rw [h]
        · rw [if_neg (by omega)]
      · by_cases e : j + 1 > a
        · exact .inr (h e)
        · exact .inl (by omega)

theorem perm_insInner (a : Nat) : ∀ (j : Nat) (d : Array α), j < d.size → (insInner lt a j d).toList.Perm d.toList
  | 0, _, _ => List.Perm.refl _
  | j + 1, d, h => by
    rw [insInner]
    split
    · exact (perm_insInner a j _ (by rw [swp_size]; omega)).trans (perm_swp _ (by omega) (by omega))
    · exact List.Perm.refl _

theorem insOuter_spec' (hS : SWO lt) (hB : ∀ x y z, bef x y → bef y z → bef x z) (a b : Nat) : ∀ (n i : Nat) (d : Array α), b - i ≤ n → a < i → b ≤ d.size →
    Srt lt bef d a i → (∀ p q, a ≤ p → p < q → i ≤ q → q < b → bef d[p]! d[q]!) →
    From a b d (insOuter lt a b i d) ∧ (insOuter lt a b i d).toList.Perm d.toList ∧ Srt lt bef (insOuter lt a b i d) a b
  | 0, i, d, hn, hai, hb, hL, hBf => by
    rw [insOuter, if_neg (by omega)]
    exact ⟨From.refl _ _ _, List.Perm.refl _, fun p q hp hpq hq => hL p q hp hpq (by omega)⟩
  | n + 1, i, d, hn, hai, hb, hL, hBf => by
    rw [insOuter]
    by_cases h : i < b
    · rw [if_pos h]
      obtain ⟨t, t1, t2, t3, t4, t5⟩ := insInner_get (lt := lt) a i d (by omega) (by omega)
      have F0 : From a b d (insInner lt a i d) := ⟨size_insInner _ _ _, fun k hk => by rw [t3, if_neg (by omega), if_neg (by omega)], fun k h1 h2 => by
        rw [t3]
        by_cases e1 : k = t
        · rw [if_pos e1]; exact ⟨i, by omega, h, rfl⟩
        · rw [if_neg e1]
          by_cases e2 : t < k ∧ k ≤ i
          · rw [if_pos e2]; exact ⟨k - 1, by omega, by omega, rfl⟩
          · rw [if_neg e2]; exact ⟨k, h1, h2, rfl⟩⟩
      obtain ⟨K1, K2, K3⟩ := insOuter_spec' hS hB a b n (i + 1) (insInner lt a i d) (by omega) (by omega) (by rw [size_insInner]; exact hb) (fun p q hp hpq hq => by
        have lo : ∀ k, a ≤ k → k < t → Le lt bef d[k]! d[i]! := fun k hk hkt => by
          rcases t5 with t5 | t5
          · omega
          · have last : Le lt bef d[t - 1]! d[i]! := .inr ⟨t5, hBf (t - 1) i (by omega) (by omega) (Nat.le_refl _) h⟩
            by_cases e : k = t - 1
            · rw [e]; exact last
            · exact (hL k (t - 1) hk (by omega) (by omega)).trans hS hB last
        rw [t3, t3]
        by_cases e1 : q = t
        · rw [if_pos e1, if_neg (by omega), if_neg (by omega)]; exact lo p hp (by omega)
        · rw [if_neg e1]
          by_cases e2 : t < q ∧ q ≤ i
          · rw [if_pos e2]
            by_cases e3 : p = t
            · rw [if_pos e3]; exact .inl (t4 _ (by omega) (by omega))
            · rw [if_neg e3]
              by_cases e4 : t < p ∧ p ≤ i
              · rw [if_pos e4]; exact hL _ _ (by omega) (by omega) (by omega)
              · rw [if_neg e4]; exact hL _ _ hp (by omega) (by omega)
          · rw [if_neg e2, if_neg (by omega), if_neg (by omega)]; exact hL _ _ hp hpq (by omega)) (fun p q hp hpq hiq hq => by
        have eq : (insInner lt a i d)[q]! = d[q]! := by rw [t3, if_neg (by omega), if_neg (by omega)]
        rw [eq]
        obtain ⟨r, r1, r2, e⟩ := F0.2.2 p hp (by omega)
        by_cases hp2 : p ≤ i
        · rw [t3]
          by_cases e1 : p = t
          · rw [if_pos e1]; exact hBf i q (by omega) (by omega) (by omega) hq
          · rw [if_neg e1]
            by_cases e2 : t < p ∧ p ≤ i
            · rw [if_pos e2]; exact hBf _ q (by omega) (by omega) (by omega) hq
            · rw [if_neg e2]; exact hBf p q hp hpq (by omega) hq
        · rw [t3, if_neg (by omega), if_neg (by omega)]; exact hBf p q hp hpq (by omega) hq)
      exact ⟨F0.trans K1, K2.trans (perm_insInner a i d (by omega)), K3⟩
    · rw [if_neg h]
      exact ⟨From.refl _ _ _, List.Perm.refl _, fun p q hp hpq hq => hL p q hp hpq (by omega)⟩

theorem insertionSort_spec (hS : SWO lt) (hB : ∀ x y z, bef x y → bef y z → bef x z) (d : Array α) (a b : Nat) (hb : b ≤ d.size)
    (hBf : ∀ p q, a ≤ p → p < q → q < b → bef d[p]! d[q]!) :
    From a b d (insertionSort lt d a b) ∧ (insertionSort lt d a b).toList.Perm d.toList ∧ Srt lt bef (insertionSort lt d a b) a b :=
  insOuter_spec' hS hB a b (b - (a + 1)) (a + 1) d (Nat.le_refl _) (by omega) hb (fun p q hp hpq hq => by omega) (fun p q hp hpq _ hq => hBf p q hp hpq hq)

end Go.Proofs.Ytegoadlfchbgfaa

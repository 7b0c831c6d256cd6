/- The plain law of the stable sort's rounds: blocks of a size are sorted, then blocks of twice the size. No program in sight. -/
import Derived.Test.YtegoadlfchbgfaaSortPure
namespace Go.Proofs.Ytegoadlfchbgfaa
open Go.Sort
variable {α : Type} [Inhabited α] {lt : α → α → Bool} {bef : α → α → Prop}

/-- the first rounds: the blocks of bs below a are sorted, all behind a is as it was; d came of d0. -/
structure Ins0 (lt : α → α → Bool) (bef : α → α → Prop) (bs n a : Nat) (d0 d : Array α) : Prop where
  size : d.size = n
  perm : d.toList.Perm d0.toList
  srt : ∀ s, bs ∣ s → s + bs ≤ a → Srt lt bef d s (s + bs)
  cut : ∀ s, bs ∣ s → s ≤ a → Bef bef d 0 s n
  rest : ∀ p q, p < q → a ≤ q → q < n → bef d[p]! d[q]!

theorem Ins0.start (bs n : Nat) (hbs : 0 < bs) (d0 : Array α) (hn : d0.size = n) (h : ∀ p q, p < q → q < n → bef d0[p]! d0[q]!) : Ins0 lt bef bs n 0 d0 d0 :=
  ⟨hn, List.Perm.refl _, fun s _ hs => by omega, fun s _ hs p q _ h1 h2 h3 => by omega, fun p q hpq _ hq => h p q hpq hq⟩

theorem dvd_le_of_lt {bs s a : Nat} (hs : bs ∣ s) (ha : bs ∣ a) (h : s < a) : s + bs ≤ a := by
  obtain ⟨x, rfl⟩ := hs
  obtain ⟨y, rfl⟩ := ha
  have : x < y := Nat.lt_of_mul_lt_mul_left h
  calc bs * x + bs = bs * (x + 1) := by rw [Nat.mul_succ]
    _ ≤ bs * y := Nat.mul_le_mul_left _ this

theorem Bef.of_from {d d' : Array α} {a b n s : Nat} (h : Bef bef d 0 s n) (F : From a b d d') (hs : s ≤ a ∨ b ≤ s) (hbn : b ≤ n) : Bef bef d' 0 s n := by
  intro p q hp hps hsq hq
  have P : ∃ p', p' < s ∧ d'[p]! = d[p']! := by
    by_cases h1 : a ≤ p ∧ p < b
    · obtain ⟨p', q1, q2, e⟩ := F.2.2 p h1.1 h1.2
      exact ⟨p', by omega, e⟩
    · exact ⟨p, hps, F.2.1 p (by omega)⟩
  have Q : ∃ q', s ≤ q' ∧ q' < n ∧ d'[q]! = d[q']! := by
    by_cases h1 : a ≤ q ∧ q < b
    · obtain ⟨q', q1, q2, e⟩ := F.2.2 q h1.1 h1.2
      exact ⟨q', by omega, by omega, e⟩
    · exact ⟨q, hsq, hq, F.2.1 q (by omega)⟩
  obtain ⟨p', hp', ep⟩ := P
  obtain ⟨q', hq1, hq2, eq⟩ := Q
  rw [ep, eq]
  exact h p' q' (Nat.zero_le _) hp' hq1 hq2

theorem Ins0.step (hS : SWO lt) (hB : ∀ x y z, bef x y → bef y z → bef x z) {bs n a : Nat} {d0 d : Array α} (hbs : 0 < bs) (h : Ins0 lt bef bs n a d0 d) (ha : bs ∣ a) (hb : a + bs ≤ n) :
    Ins0 lt bef bs n (a + bs) d0 (insertionSort lt d a (a + bs)) := by
  obtain ⟨F, P, S⟩ := insertionSort_spec hS hB d a (a + bs) (by rw [h.size]; exact hb) (fun p q hp hpq hq => h.rest p q hpq (by omega) (by omega))
  refine ⟨F.1.trans h.size, P.trans h.perm, fun s hs hsa => ?_, fun s hs hsa => ?_, fun p q hpq hq hqn => ?_⟩
  · by_cases e : s < a
    · have := dvd_le_of_lt hs ha e
      intro p q hp hpq hq
      rw [F.2.1 p (.inl (by omega)), F.2.1 q (.inl (by omega))]
      exact h.srt s hs (by omega) p q hp hpq hq
    · obtain rfl : s = a := by omega
      exact S
  · by_cases e : s ≤ a
    · exact (h.cut s hs e).of_from F (.inl e) hb
    · have := dvd_le_of_lt ha hs (by omega)
      obtain rfl : s = a + bs := by omega
      refine Bef.of_from (d := d) (a := a) (b := a + bs) ?_ F (.inr (Nat.le_refl _)) hb
      intro p q _ h1 h2 h3
      exact h.rest p q (by omega) (by omega) h3
  · have eq : (insertionSort lt d a (a + bs))[q]! = d[q]! := F.2.1 q (.inr hq)
    rw [eq]
    by_cases h1 : a ≤ p ∧ p < a + bs
    · obtain ⟨p', q1, q2, e⟩ := F.2.2 p h1.1 h1.2
      rw [e]
      exact h.rest p' q (by omega) (by omega) hqn
    · rw [F.2.1 p (by omega)]
      exact h.rest p q hpq (by omega) hqn

/-- all blocks of bs are sorted. -/
structure Lvl (lt : α → α → Bool) (bef : α → α → Prop) (bs n : Nat) (d0 d : Array α) : Prop where
  size : d.size = n
  perm : d.toList.Perm d0.toList
  srt : ∀ s, bs ∣ s → s < n → ∀ p q, s ≤ p → p < q → q < s + bs → q < n → Le lt bef d[p]! d[q]!
  cut : ∀ s, bs ∣ s → Bef bef d 0 s n

theorem Ins0.last (hS : SWO lt) (hB : ∀ x y z, bef x y → bef y z → bef x z) {bs n a : Nat} {d0 d : Array α} (_hbs : 0 < bs) (h : Ins0 lt bef bs n a d0 d) (ha : bs ∣ a) (han : a ≤ n) (hb : n < a + bs) :
    Lvl lt bef bs n d0 (insertionSort lt d a n) := by
  obtain ⟨F, P, S⟩ := insertionSort_spec hS hB d a n (by rw [h.size]; omega) (fun p q hp hpq hq => h.rest p q hpq (by omega) (by omega))
  refine ⟨F.1.trans h.size, P.trans h.perm, fun s hs hsn p q hp hpq hq hqn => ?_, fun s hs => ?_⟩
  · by_cases e : s < a
    · have := dvd_le_of_lt hs ha e
      rw [F.2.1 p (.inl (by omega)), F.2.1 q (.inl (by omega))]
      exact h.srt s hs (by omega) p q hp hpq hq
    · have e2 : s = a := by
        by_cases e3 : a < s
        · have := dvd_le_of_lt ha hs e3; omega
        · omega
      subst e2
      exact S p q hp hpq hqn
  · by_cases e : s ≤ a
    · exact (h.cut s hs e).of_from F (.inl e) (Nat.le_refl _)
    · have := dvd_le_of_lt ha hs (by omega)
      intro p q _ h1 h2 h3
      omega

/-- a round of merges: the blocks of 2 * bs below a are sorted, those of bs behind it. -/
structure Mrg (lt : α → α → Bool) (bef : α → α → Prop) (bs n a : Nat) (d0 d : Array α) : Prop where
  size : d.size = n
  perm : d.toList.Perm d0.toList
  done : ∀ s, 2 * bs ∣ s → s + 2 * bs ≤ a → Srt lt bef d s (s + 2 * bs)
  todo : ∀ s, bs ∣ s → a ≤ s → ∀ p q, s ≤ p → p < q → q < s + bs → q < n → Le lt bef d[p]! d[q]!
  cut : ∀ s, bs ∣ s → (a ≤ s ∨ 2 * bs ∣ s) → Bef bef d 0 s n

theorem Lvl.mrg {bs n : Nat} {d0 d : Array α} (h : Lvl lt bef bs n d0 d) (hbs : 0 < bs) : Mrg lt bef bs n 0 d0 d :=
  ⟨h.size, h.perm, fun s _ hs => by omega, fun s hs _ p q hp hpq hq hqn => h.srt s hs (by omega) p q hp hpq hq hqn, fun s hs _ => h.cut s hs⟩

theorem Mrg.merge (hS : SWO lt) (hB : ∀ x y z, bef x y → bef y z → bef x z) {bs n a b : Nat} {d0 d : Array α} (h : Mrg lt bef bs n a d0 d) (ha : 2 * bs ∣ a) (hab : a + bs < b) (hbn : b ≤ n) (hb : b ≤ a + 2 * bs) (hbs : 0 < bs) (f : Nat) (hf : b - a ≤ f) :
    From a b d (symMerge lt f d a (a + bs) b) ∧ (symMerge lt f d a (a + bs) b).toList.Perm d.toList ∧ Srt lt bef (symMerge lt f d a (a + bs) b) a b := by
  have hba : bs ∣ a := Nat.dvd_trans (Nat.dvd_mul_left bs 2) ha
  have hba2 : bs ∣ a + bs := (Nat.dvd_add_right hba).2 (Nat.dvd_refl _)
  exact symMerge_spec hS hB f d a (a + bs) b (by omega) hab (by rw [h.size]; exact hbn) hf
    (fun p q hp hpq hq => h.todo a hba (Nat.le_refl _) p q hp hpq hq (by omega))
    (fun p q hp hpq hq => h.todo (a + bs) hba2 (by omega) p q hp hpq (by omega) (by omega))
    (fun p q hp h1 h2 h3 => h.cut (a + bs) hba2 (.inl (by omega)) p q (Nat.zero_le _) h1 h2 (by omega))

theorem Mrg.step (hS : SWO lt) (hB : ∀ x y z, bef x y → bef y z → bef x z) {bs n a : Nat} {d0 d : Array α} (h : Mrg lt bef bs n a d0 d) (ha : 2 * bs ∣ a) (hb : a + 2 * bs ≤ n) (hbs : 0 < bs) (f : Nat) (hf : 2 * bs ≤ f) :
    Mrg lt bef bs n (a + 2 * bs) d0 (symMerge lt f d a (a + bs) (a + 2 * bs)) := by
  obtain ⟨F, P, S⟩ := h.merge hS hB ha (b := a + 2 * bs) (by omega) hb (Nat.le_refl _) hbs f (by omega)
  have hba : bs ∣ a := Nat.dvd_trans (Nat.dvd_mul_left bs 2) ha
  refine ⟨F.1.trans h.size, P.trans h.perm, fun s hs hsa => ?_, fun s hs hsa p q hp hpq hq hqn => ?_, fun s hs hsa => ?_⟩
  · by_cases e : s < a
    · have := dvd_le_of_lt hs ha e
      intro p q hp hpq hq
      rw [F.2.1 p (.inl (by omega)), F.2.1 q (.inl (by omega))]
      exact h.done s hs (by omega) p q hp hpq hq
    · obtain rfl : s = a := by omega
      exact S
  · rw [F.2.1 p (.inr (by omega)), F.2.1 q (.inr (by omega))]
    exact h.todo s hs (by omega) p q hp hpq hq hqn
  · by_cases e : s ≤ a
    · refine (h.cut s hs ?_).of_from F (.inl e) hb
      rcases hsa with h1 | h1
      · exact .inl (by omega)
      · exact .inr h1
    · have e2 : a + 2 * bs ≤ s := by
        rcases hsa with h1 | h1
        · exact h1
        · exact dvd_le_of_lt ha h1 (by omega)
      exact (h.cut s hs (.inl (by omega))).of_from F (.inr e2) hb

theorem Mrg.last (hS : SWO lt) (hB : ∀ x y z, bef x y → bef y z → bef x z) {bs n a : Nat} {d0 d : Array α} (h : Mrg lt bef bs n a d0 d) (ha : 2 * bs ∣ a) (han : a ≤ n) (hb : n < a + 2 * bs) (hbs : 0 < bs) (f : Nat) (hf : 2 * bs ≤ f) :
    Lvl lt bef (2 * bs) n d0 (if a + bs < n then symMerge lt f d a (a + bs) n else d) := by
  have hba : bs ∣ a := Nat.dvd_trans (Nat.dvd_mul_left bs 2) ha
  have fin : ∀ s, 2 * bs ∣ s → s < n → s + 2 * bs ≤ a ∨ s = a := fun s hs hsn => by
    by_cases e : s < a
    · exact .inl (dvd_le_of_lt hs ha e)
    · by_cases e3 : a < s
      · have := dvd_le_of_lt ha hs e3; omega
      · exact .inr (by omega)
  by_cases c : a + bs < n
  · rw [if_pos c]
    obtain ⟨F, P, S⟩ := h.merge hS hB ha (b := n) c (Nat.le_refl _) (by omega) hbs f (by omega)
    refine ⟨F.1.trans h.size, P.trans h.perm, fun s hs hsn p q hp hpq hq hqn => ?_, fun s hs => ?_⟩
    · rcases fin s hs hsn with e | e
      · rw [F.2.1 p (.inl (by omega)), F.2.1 q (.inl (by omega))]
        exact h.done s hs e p q hp hpq hq
      · subst e
        exact S p q hp hpq hqn
    · by_cases e : s ≤ a
      · exact (h.cut s (Nat.dvd_trans (Nat.dvd_mul_left bs 2) hs) (.inr hs)).of_from F (.inl e) (Nat.le_refl _)
      · have := dvd_le_of_lt ha hs (by omega)
        intro p q _ h1 h2 h3
        omega
  · rw [if_neg c]
    refine ⟨h.size, h.perm, fun s hs hsn p q hp hpq hq hqn => ?_, fun s hs => h.cut s (Nat.dvd_trans (Nat.dvd_mul_left bs 2) hs) (.inr hs)⟩
    rcases fin s hs hsn with e | e
    · exact h.done s hs e p q hp hpq hq
    · subst e
      exact h.todo s hba (Nat.le_refl _) p q hp hpq (by omega) hqn

theorem Lvl.whole {bs n : Nat} {d0 d : Array α} (h : Lvl lt bef bs n d0 d) (hb : n ≤ bs) : Srt lt bef d 0 n := fun p q hp hpq hq =>
  h.srt 0 (Nat.dvd_zero _) (by omega) p q hp hpq (by omega) hq

end Go.Proofs.Ytegoadlfchbgfaa

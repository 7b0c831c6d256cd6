/- The credits, plainly: which kinds are served, who is the greatest, and what stays balanced. -/
import Derived.Test.YtmpeekkbmfbjeaaRunPure
namespace Go.Proofs.Ytmpeekkbmfbjeaa
open Go.Proofs.Ytmpeekkbmfbjeaa.P Go.Proofs.YtmpeekkbmfbjeaaW.PrintWords

/-- the kinds (from 0) of which a task can be chosen. -/
def srv (l : List S58) (left : List Int) (k : Nat) : Bool := !decide (bestC l left ((k : Int) + 1) < 0)
def wg (k : Nat) : Int := wgt ((k : Int) + 1)
def bi (b : Bool) (x : Int) : Int := if b = true then x else 0
def sm (T : Nat → Bool) (a : Nat → Int) : Int := bi (T 0) (a 0) + bi (T 1) (a 1) + bi (T 2) (a 2) + bi (T 3) (a 3) + bi (T 4) (a 4)
def smTo (n : Nat) (T : Nat → Bool) (a : Nat → Int) : Int := match n with
  | 0 => 0
  | n + 1 => smTo n T a + bi (T n) (a n)

theorem nFold_spec (l : List S58) (left cr : List Int) (h5 : cr.length = 5) : ∀ n, n ≤ 5 →
    (nFold l left cr n).1.length = 5 ∧ (∀ j : Nat, j < 5 → rd (nFold l left cr n).1 (j : Int) = rd cr (j : Int) + bi (decide (j < n) && srv l left j) (wg j)) ∧
    (nFold l left cr n).2.1 = smTo n (srv l left) wg ∧
    (((nFold l left cr n).2.2 = 0 ∧ ∀ j : Nat, j < n → srv l left j = false) ∨ ∃ t : Nat, (nFold l left cr n).2.2 = (t : Int) + 1 ∧ t < n ∧ srv l left t = true ∧ ∀ j : Nat, j < n → srv l left j = true → rd cr (j : Int) + wg j ≤ rd cr (t : Int) + wg t)
  | 0, _ => ⟨h5, fun j hj => by simp [nFold, bi], rfl, .inl ⟨rfl, fun j hj => absurd hj (Nat.not_lt_zero j)⟩⟩
  | n + 1, hn => by
    obtain ⟨h1, h2, h3, h4⟩ := nFold_spec l left cr h5 n (by omega)
    simp only [nFold, nRound]
    by_cases c : bestC l left ((n : Int) + 1) < 0
    · have hs : srv l left n = false := by unfold srv; simp [c]
      rw [if_pos c]
      refine ⟨h1, fun j hj => ?_, ?_, ?_⟩
      · rw [h2 j hj]
        by_cases e : j = n
        · subst e; simp [hs]
        · have : decide (j < n + 1) = decide (j < n) := by simp; omega
          rw [this]
      · rw [h3]; simp [smTo, hs, bi]
      · rcases h4 with ⟨h5, h6⟩ | ⟨t, h5, h6, h7, h8⟩
        · refine .inl ⟨h5, fun j hj => ?_⟩
          by_cases e : j = n
          · subst e; exact hs
          · exact h6 j (by omega)
        · refine .inr ⟨t, h5, by omega, h7, fun j hj hsj => ?_⟩
          by_cases e : j = n
          · subst e; rw [hs] at hsj; cases hsj
          · exact h8 j (by omega) hsj
    · have hs : srv l left n = true := by unfold srv; simp [c]
      rw [if_neg c]
      have hx : rd (nFold l left cr n).1 (n : Int) = rd cr (n : Int) := by
        rw [h2 n (by omega)]; simp [bi]
      refine ⟨by simpa using h1, fun j hj => ?_, ?_, ?_⟩
      · simp only []
        rw [rd_set _ _ _ _ (by rw [h1]; omega)]
        by_cases e : j = n
        · subst e
          rw [if_pos rfl, hx]
          simp [hs, bi, wg]
        · rw [if_neg e, h2 j hj]
          have : decide (j < n + 1) = decide (j < n) := by simp; omega
          rw [this]
      · simp only [smTo, hs, bi, if_true, h3]
        rfl
      · simp only [hx]
        rcases h4 with ⟨h5, h6⟩ | ⟨t, h5, h6, h7, h8⟩
        · refine .inr ⟨n, by rw [if_pos (Or.inl h5)], by omega, hs, fun j hj hsj => ?_⟩
          by_cases e : j = n
          · subst e; exact Int.le_refl _
          · rw [h6 j (by omega)] at hsj; cases hsj
        · have ht : rd (nFold l left cr n).1 ((nFold l left cr n).2.2 - 1) = rd cr (t : Int) + wg t := by
            rw [h5, show (t : Int) + 1 - 1 = (t : Int) by omega, h2 t (by omega)]
            simp [h6, h7, bi]
          rw [ht]
          by_cases g : rd cr (n : Int) + wgt ((n : Int) + 1) > rd cr (t : Int) + wg t
          · refine .inr ⟨n, by rw [if_pos (Or.inr g)], by omega, hs, fun j hj hsj => ?_⟩
            by_cases e : j = n
            · subst e; exact Int.le_refl _
            · have := h8 j (by omega) hsj
              have g' : rd cr (n : Int) + wg n > rd cr (t : Int) + wg t := g
              omega
          · refine .inr ⟨t, by rw [if_neg (by rw [h5]; intro hh; rcases hh with hh | hh; omega; exact g hh), h5], by omega, h7, fun j hj hsj => ?_⟩
            by_cases e : j = n
            · subst e
              have g' : ¬ rd cr (j : Int) + wg j > rd cr (t : Int) + wg t := g
              omega
            · exact h8 j (by omega) hsj

theorem smTo_five (T : Nat → Bool) (a : Nat → Int) : smTo 5 T a = sm T a := by simp [smTo, sm]

theorem rd_map (c : List Int) (f : Int → Int) (j : Nat) (hj : j < c.length) : rd (c.map f) (j : Int) = f (rd c (j : Int)) := by simp [rd, List.getD_eq_getElem?_getD, hj]

/-- one step: who is chosen, and the credits behind it. -/
theorem nxt_spec (l : List S58) (left cr : List Int) (h : COk cr) (hu : ¬ bestU l left ≥ 0) :
    ((∀ j : Nat, j < 5 → srv l left j = false) ∧ nxt l left cr = (cr, -1)) ∨
    ∃ t : Nat, t < 5 ∧ srv l left t = true ∧ (∀ j : Nat, j < 5 → srv l left j = true → rd cr (j : Int) + wg j ≤ rd cr (t : Int) + wg t) ∧
      (nxt l left cr).2 = bestC l left ((t : Int) + 1) ∧ (nxt l left cr).1.length = 5 ∧
      ∀ j : Nat, j < 5 → rd (nxt l left cr).1 (j : Int) = clamp (rd cr (j : Int) + bi (srv l left j) (wg j) - bi (j == t) (sm (srv l left) wg)) := by
  obtain ⟨h1, h2, h3, h4⟩ := nFold_spec l left cr h.1 5 (Nat.le_refl _)
  have hf := nxt_not hu (l := l) (left := left) (cr := cr) (c' := (nFold l left cr 5).1) (sum := (nFold l left cr 5).2.1) (top := (nFold l left cr 5).2.2) rfl
  rcases h4 with ⟨h5, h6⟩ | ⟨t, h5, h6, h7, h8⟩
  · left
    refine ⟨h6, ?_⟩
    rw [hf, if_pos h5, nFold_top0 _ _ _ _ h5]
  · right
    rw [h5, if_neg (by omega), show (t : Int) + 1 - 1 = (t : Int) by omega, Int.toNat_natCast] at hf
    refine ⟨t, h6, h7, h8, by rw [hf], by rw [hf]; simp [h1], fun j hj => ?_⟩
    rw [hf]
    have e : rd (((nFold l left cr 5).1.set t (rd (nFold l left cr 5).1 (t : Int) - (nFold l left cr 5).2.1)).map clamp) (j : Int) = clamp (rd ((nFold l left cr 5).1.set t (rd (nFold l left cr 5).1 (t : Int) - (nFold l left cr 5).2.1)) (j : Int)) := rd_map _ _ _ (by rw [List.length_set, h1]; exact hj)
    rw [e, rd_set _ _ _ _ (by rw [h1]; exact h6), h3, smTo_five]
    congr 1
    by_cases ej : j = t
    · subst ej
      rw [if_pos rfl, h2 j hj]
      simp [hj, bi]
    · rw [if_neg ej, h2 j hj]
      simp [hj, ej, bi]

/-! ### balance -/
def cn (T : Nat → Bool) : Int := sm T (fun _ => 1)
def Bf (n : Int) : Int := if n = 1 then 20 else if n = 2 then 30 else if n = 3 then 30 else if n = 4 then 20 else 0
def Bal (a : Nat → Int) : Prop := sm (fun _ => true) a = 0 ∧ ∀ T : Nat → Bool, -(Bf (cn T)) ≤ sm T a

theorem bi_cases (b : Bool) (x : Int) : (b = true ∧ bi b x = x) ∨ (b = false ∧ bi b x = 0) := by cases b <;> simp [bi]

theorem sm_le {T : Nat → Bool} {a b : Nat → Int} (h : ∀ k, k < 5 → bi (T k) (a k) ≤ b k) : sm T a ≤ b 0 + b 1 + b 2 + b 3 + b 4 := by
  unfold sm
  have h0 := h 0 (by decide); have h1 := h 1 (by decide); have h2 := h 2 (by decide); have h3 := h 3 (by decide); have h4 := h 4 (by decide)
  omega
theorem sm_eq {T : Nat → Bool} {a b : Nat → Int} (h : ∀ k, k < 5 → bi (T k) (a k) = b k) : sm T a = b 0 + b 1 + b 2 + b 3 + b 4 := by
  unfold sm
  have h0 := h 0 (by decide); have h1 := h 1 (by decide); have h2 := h 2 (by decide); have h3 := h 3 (by decide); have h4 := h 4 (by decide)
  omega
theorem pick5 {t : Nat} (ht : t < 5) (x : Int) : bi (0 == t) x + bi (1 == t) x + bi (2 == t) x + bi (3 == t) x + bi (4 == t) x = x := by
  have : t = 0 ∨ t = 1 ∨ t = 2 ∨ t = 3 ∨ t = 4 := by omega
  rcases this with rfl | rfl | rfl | rfl | rfl <;> simp [bi]

theorem wmax (X : Nat → Bool) : sm X wg ≤ 10 ∧ (cn X = 2 → sm X wg ≤ 6) ∧ (cn X = 3 → sm X wg ≤ 8) ∧ (cn X = 4 → sm X wg ≤ 9) ∧ 0 ≤ cn X ∧ cn X ≤ 5 := by
  have w0 : wg 0 = 4 := rfl
  have w1 : wg 1 = 2 := rfl
  have w2 : wg 2 = 2 := rfl
  have w3 : wg 3 = 1 := rfl
  have w4 : wg 4 = 1 := rfl
  unfold cn sm
  rw [w0, w1, w2, w3, w4]
  cases X 0 <;> cases X 1 <;> cases X 2 <;> cases X 3 <;> cases X 4 <;> simp [bi]

theorem bal_step {a : Nat → Int} (h : Bal a) (s : Nat → Bool) (t : Nat) (ht : t < 5) (hs : s t = true) (hm : ∀ j : Nat, j < 5 → s j = true → a j + wg j ≤ a t + wg t) :
    Bal (fun j => a j + bi (s j) (wg j) - bi (j == t) (sm s wg)) := by
  obtain ⟨h0, hB⟩ := h
  have hw : ∀ k, 0 ≤ wg k := fun k => (wgt_bd _).1
  constructor
  · have e := sm_eq (T := fun _ => true) (a := fun j => a j + bi (s j) (wg j) - bi (j == t) (sm s wg)) (b := fun j => a j + bi (s j) (wg j) - bi (j == t) (sm s wg)) (fun k hk => by simp [bi])
    rw [e]
    have p := pick5 ht (sm s wg)
    have q : sm (fun _ => true) a = a 0 + a 1 + a 2 + a 3 + a 4 := by simp [sm, bi]
    have r : sm s wg = bi (s 0) (wg 0) + bi (s 1) (wg 1) + bi (s 2) (wg 2) + bi (s 3) (wg 3) + bi (s 4) (wg 4) := rfl
    omega
  · intro T
    cases hT : T t with
    | false =>
      have e : sm T a ≤ sm T (fun j => a j + bi (s j) (wg j) - bi (j == t) (sm s wg)) := by
        have one : ∀ k, k < 5 → bi (T k) (a k) ≤ bi (T k) (a k + bi (s k) (wg k) - bi (k == t) (sm s wg)) := fun k hk => by
          by_cases e : k = t
          · subst e; simp [hT, bi]
          · have h1 := hw k
            have : (k == t) = false := by simp [e]
            rw [this]
            cases T k <;> cases s k <;> simp [bi] <;> omega
        exact sm_le (b := fun k => bi (T k) (a k + bi (s k) (wg k) - bi (k == t) (sm s wg))) one
      have := hB T
      omega
    | true =>
      -- those that are served and not in T
      have hV := hB (fun k => T k && !(k == t))
      have hX := hB (fun k => T k || (s k && !T k))
      have cV : cn (fun k => T k && !(k == t)) = cn T - 1 := by
        have := sm_eq (T := fun k => T k && !(k == t)) (a := fun _ => 1) (b := fun k => bi (T k) 1 - bi (k == t) 1) (fun k hk => by
          by_cases e : k = t
          · subst e; simp [hT, bi]
          · have : (k == t) = false := by simp [e]
            simp [this, bi])
        have p := pick5 ht 1
        have r : cn T = bi (T 0) 1 + bi (T 1) 1 + bi (T 2) 1 + bi (T 3) 1 + bi (T 4) 1 := rfl
        unfold cn at *
        omega
      have sV : sm (fun k => T k && !(k == t)) a = sm T a - a t := by
        have := sm_eq (T := fun k => T k && !(k == t)) (a := a) (b := fun k => bi (T k) (a k) - bi (k == t) (a t)) (fun k hk => by
          by_cases e : k = t
          · subst e; simp [hT, bi]
          · have : (k == t) = false := by simp [e]
            simp [this, bi])
        have p := pick5 ht (a t)
        have r : sm T a = bi (T 0) (a 0) + bi (T 1) (a 1) + bi (T 2) (a 2) + bi (T 3) (a 3) + bi (T 4) (a 4) := rfl
        omega
      obtain ⟨U, hU⟩ : ∃ U : Nat → Bool, U = fun k => s k && !T k := ⟨_, rfl⟩
      have hUk : ∀ k, U k = (s k && !T k) := fun k => by rw [hU]
      have hUt : U t = false := by rw [hUk]; simp [hT]
      have two : ∀ b : Nat → Int, sm (fun k => T k || (s k && !T k)) b = sm T b + sm U b := fun b => by
        have := sm_eq (T := fun k => T k || (s k && !T k)) (a := b) (b := fun k => bi (T k) (b k) + bi (U k) (b k)) (fun k hk => by
          rw [hUk k]
          cases T k <;> cases s k <;> simp [bi])
        have r1 : sm T b = bi (T 0) (b 0) + bi (T 1) (b 1) + bi (T 2) (b 2) + bi (T 3) (b 3) + bi (T 4) (b 4) := rfl
        have r2 : sm U b = bi (U 0) (b 0) + bi (U 1) (b 1) + bi (U 2) (b 2) + bi (U 3) (b 3) + bi (U 4) (b 4) := rfl
        omega
      have cX : cn (fun k => T k || (s k && !T k)) = cn T + cn U := two _
      have sX := two a
      -- the new sum
      have sN : sm T (fun j => a j + bi (s j) (wg j) - bi (j == t) (sm s wg)) = sm T a - sm U wg := by
        have := sm_eq (T := T) (a := fun j => a j + bi (s j) (wg j) - bi (j == t) (sm s wg)) (b := fun k => bi (T k) (a k) + (bi (s k) (wg k) - bi (U k) (wg k)) - bi (k == t) (sm s wg)) (fun k hk => by
          rw [hUk k]
          by_cases e : k = t
          · subst e; simp [hT, bi]
          · have : (k == t) = false := by simp [e]
            rw [this]
            cases T k <;> cases s k <;> simp [bi])
        have p := pick5 ht (sm s wg)
        have r1 : sm T a = bi (T 0) (a 0) + bi (T 1) (a 1) + bi (T 2) (a 2) + bi (T 3) (a 3) + bi (T 4) (a 4) := rfl
        have r2 : sm U wg = bi (U 0) (wg 0) + bi (U 1) (wg 1) + bi (U 2) (wg 2) + bi (U 3) (wg 3) + bi (U 4) (wg 4) := rfl
        have r3 : sm s wg = bi (s 0) (wg 0) + bi (s 1) (wg 1) + bi (s 2) (wg 2) + bi (s 3) (wg 3) + bi (s 4) (wg 4) := rfl
        omega
      -- the served ones outside are no greater
      have sU : sm U a ≤ cn U * (a t + wg t) - sm U wg := by
        have := sm_le (T := U) (a := a) (b := fun k => bi (U k) (a t + wg t) - bi (U k) (wg k)) (fun k hk => by
          cases e : U k with
          | false => simp [bi]
          | true =>
            have hsk : s k = true := by rw [hUk k] at e; simp at e; exact e.1
            have := hm k hk hsk
            simp only [bi, if_true]
            omega)
        have r2 : sm U wg = bi (U 0) (wg 0) + bi (U 1) (wg 1) + bi (U 2) (wg 2) + bi (U 3) (wg 3) + bi (U 4) (wg 4) := rfl
        have r4 : bi (U 0) (a t + wg t) + bi (U 1) (a t + wg t) + bi (U 2) (a t + wg t) + bi (U 3) (a t + wg t) + bi (U 4) (a t + wg t) = cn U * (a t + wg t) := by
          generalize a t + wg t = z
          unfold cn sm
          cases U 0 <;> cases U 1 <;> cases U 2 <;> cases U 3 <;> cases U 4 <;> simp [bi] <;> omega
        omega
      -- the weights outside, and the chosen one's
      have sW := wmax (fun k => U k || (k == t))
      have cW : ∀ b : Nat → Int, sm (fun k => U k || (k == t)) b = sm U b + b t := fun b => by
        have := sm_eq (T := fun k => U k || (k == t)) (a := b) (b := fun k => bi (U k) (b k) + bi (k == t) (b t)) (fun k hk => by
          by_cases e : k = t
          · subst e; simp [hUt, bi]
          · have : (k == t) = false := by simp [e]
            simp [this, bi])
        have p := pick5 ht (b t)
        have r2 : sm U b = bi (U 0) (b 0) + bi (U 1) (b 1) + bi (U 2) (b 2) + bi (U 3) (b 3) + bi (U 4) (b 4) := rfl
        omega
      rw [cW wg, show cn (fun k => U k || (k == t)) = cn U + 1 from cW _] at sW
      rw [sN]
      rw [cX, sX] at hX
      rw [cV, sV] at hV
      have nU := (wmax U).2.2.2.2
      have nT := (wmax T).2.2.2.2
      have nX := (wmax (fun k => T k || (s k && !T k))).2.2.2.2
      rw [cX] at nX
      have nV := (wmax (fun k => T k && !(k == t))).2.2.2.2
      rw [cV] at nV
      have hT0 := hB T
      have wU : cn U = 0 → sm U wg = 0 := by
        unfold cn sm
        cases U 0 <;> cases U 1 <;> cases U 2 <;> cases U 3 <;> cases U 4 <;> simp [bi] <;> omega
      obtain ⟨s1, s2, s3, s4, _, _⟩ := sW
      generalize sm U wg = u at *
      generalize sm U a = ua at *
      generalize sm T a = ta at *
      generalize wg t = v at *
      generalize a t = x at *
      clear hU hUk two cW sN sX cX cV sV hB hm h0 hw
      generalize cn U = cu at *
      generalize cn T = ct at *
      have ku : cu = 0 ∨ cu = 1 ∨ cu = 2 ∨ cu = 3 ∨ cu = 4 ∨ cu = 5 := by omega
      have kt : ct = 0 ∨ ct = 1 ∨ ct = 2 ∨ ct = 3 ∨ ct = 4 ∨ ct = 5 := by omega
      rcases ku with rfl | rfl | rfl | rfl | rfl | rfl <;> rcases kt with rfl | rfl | rfl | rfl | rfl | rfl <;> (first | omega | (simp [Bf] at *; omega))

theorem bal_zero : Bal (fun _ => 0) := by
  have z : ∀ T : Nat → Bool, sm T (fun _ => 0) = 0 := fun T => by unfold sm; cases T 0 <;> cases T 1 <;> cases T 2 <;> cases T 3 <;> cases T 4 <;> simp [bi]
  refine ⟨z _, fun T => ?_⟩
  rw [z]
  unfold Bf
  (repeat' split) <;> omega
theorem bal_bound {a : Nat → Int} (h : Bal a) (k : Nat) (hk : k < 5) : -20 ≤ a k ∧ a k ≤ 20 := by
  obtain ⟨h0, hB⟩ := h
  have h1 := hB (fun j => j == k)
  have h2 := hB (fun j => !(j == k))
  have : k = 0 ∨ k = 1 ∨ k = 2 ∨ k = 3 ∨ k = 4 := by omega
  rcases this with rfl | rfl | rfl | rfl | rfl <;> simp [sm, cn, bi, Bf] at h0 h1 h2 <;> omega
theorem bal_congr {a b : Nat → Int} (h : Bal a) (e : ∀ k, k < 5 → b k = a k) : Bal b := by
  have s : ∀ T, sm T b = sm T a := fun T => by
    unfold sm
    rw [e 0 (by decide), e 1 (by decide), e 2 (by decide), e 3 (by decide), e 4 (by decide)]
  exact ⟨by rw [s]; exact h.1, fun T => by rw [s]; exact h.2 T⟩

/-- the credits of a list. -/
def BalL (cr : List Int) : Prop := cr.length = 5 ∧ Bal (fun k => rd cr (k : Int))
theorem BalL.ok {cr : List Int} (h : BalL cr) : COk cr := ⟨h.1, fun j hj => by have := bal_bound h.2 j hj; omega⟩
theorem BalL.next {cr : List Int} (h : BalL cr) (l : List S58) (left : List Int) : BalL (nxt l left cr).1 := by
  by_cases hu : bestU l left ≥ 0
  · rw [nxt_urg hu]; exact h
  · rcases nxt_spec l left cr h.ok hu with ⟨_, e⟩ | ⟨t, h1, h2, h3, _, h5, h6⟩
    · rw [e]; exact h
    · refine ⟨h5, ?_⟩
      have hb := bal_step h.2 (srv l left) t h1 h2 h3
      refine bal_congr hb (fun k hk => ?_)
      rw [h6 k hk]
      have := bal_bound hb k hk
      unfold clamp
      omega
theorem BalL.zero : BalL [0, 0, 0, 0, 0] := ⟨rfl, bal_congr bal_zero (fun k hk => by
  have : k = 0 ∨ k = 1 ∨ k = 2 ∨ k = 3 ∨ k = 4 := by omega
  rcases this with rfl | rfl | rfl | rfl | rfl <;> rfl)⟩

end Go.Proofs.Ytmpeekkbmfbjeaa

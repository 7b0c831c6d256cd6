/- The reference's best and step, plainly: they are the program's. -/
import Derived.Test.YtmpeekkbmfbjeaaPx6
import Derived.Test.YtmpeekkbmfbjeaaLawLib
namespace Go.Proofs.Ytmpeekkbmfbjeaa
open Go.RowKit Go.Proofs.Ytmpeekkbmfbjeaa.P Go.Proofs.YtmpeekkbmfbjeaaW.PrintWords Go.Proofs.YtmpeekkbmfbjeaaW.PrintMore

theorem cmpOr_cons (a b : Int) (r : List Int) : cmpOr (Lib.compareInt a b :: r) = if a < b then -1 else if b < a then 1 else cmpOr r := by
  unfold Lib.compareInt
  rw [cmpOr]
  by_cases h : a < b
  · simp [h]
  · by_cases h2 : b < a
    · have : a > b := h2
      simp [h, h2]
    · have : ¬ a > b := h2
      simp [h, h2]

theorem hCmp_eq (x y : S78) : hCmp x y = if hLost x < hLost y then -1 else if hLost y < hLost x then 1 else if x.f1 < y.f1 then -1 else if y.f1 < x.f1 then 1 else if y.f2 < x.f2 then -1 else if x.f2 < y.f2 then 1 else
    if x.f0.f0 < y.f0.f0 then -1 else if y.f0.f0 < x.f0.f0 then 1 else if x.f0.f1 < y.f0.f1 then -1 else if y.f0.f1 < x.f0.f1 then 1 else 0 := by
  unfold hCmp
  rw [cmpOr_cons, cmpOr_cons, cmpOr_cons, cmpOr_cons, cmpOr_cons]
  rfl
theorem chain_neg (p q : Prop) [Decidable p] [Decidable q] (r : Int) : (if p then (-1 : Int) else if q then 1 else r) < 0 ↔ p ∨ (¬ q ∧ r < 0) := by
  by_cases h : p
  · simp [h]
  · by_cases h2 : q
    · simp [h, h2]
    · simp [h, h2]
theorem ite_tt (p : Prop) [Decidable p] (a b : Bool) : (if p then a else b) = true ↔ (p ∧ a = true) ∨ (¬ p ∧ b = true) := by
  by_cases h : p <;> simp [h]
theorem hLost_lt (x y : S78) : hLost x < hLost y ↔ ¬ x.f1 < 0 ∧ y.f1 < 0 := by
  unfold hLost
  by_cases a : x.f1 < 0 <;> by_cases b : y.f1 < 0 <;> simp [a, b]
theorem hCmp_neg (x y : S78) : hCmp x y < 0 ↔ (¬ x.f1 < 0 ∧ y.f1 < 0) ∨ (¬ (¬ y.f1 < 0 ∧ x.f1 < 0) ∧ (x.f1 < y.f1 ∨ (¬ y.f1 < x.f1 ∧ (y.f2 < x.f2 ∨ (¬ x.f2 < y.f2 ∧ (x.f0.f0 < y.f0.f0 ∨ (¬ y.f0.f0 < x.f0.f0 ∧ (x.f0.f1 < y.f0.f1 ∨ (¬ y.f0.f1 < x.f0.f1 ∧ (0 : Int) < 0))))))))) := by
  rw [hCmp_eq, chain_neg, chain_neg, chain_neg, chain_neg, chain_neg, hLost_lt, hLost_lt]
theorem befV_tt (x y : S78) : befV x y = true ↔ ((decide (x.f1 < 0) != decide (y.f1 < 0)) = true ∧ y.f1 < 0) ∨ (¬ (decide (x.f1 < 0) != decide (y.f1 < 0)) = true ∧ ((x.f1 = y.f1 ∧ ((x.f2 = y.f2 ∧ ((x.f0.f0 = y.f0.f0 ∧ x.f0.f1 < y.f0.f1) ∨ (¬ x.f0.f0 = y.f0.f0 ∧ x.f0.f0 < y.f0.f0))) ∨ (¬ x.f2 = y.f2 ∧ x.f2 > y.f2))) ∨ (¬ x.f1 = y.f1 ∧ x.f1 < y.f1))) := by
  unfold befV
  rw [ite_tt, ite_tt, ite_tt, ite_tt]
  simp only [decide_eq_true_eq]
theorem befV_iff (x y : S78) (hne : ¬ (x.f0.f0 = y.f0.f0 ∧ x.f0.f1 = y.f0.f1 ∧ x.f1 = y.f1 ∧ x.f2 = y.f2)) : befV x y = true ↔ ¬ hCmp y x < 0 := by
  rw [befV_tt, hCmp_neg]
  have e : (decide (x.f1 < 0) != decide (y.f1 < 0)) = true ↔ ¬ (x.f1 < 0 ↔ y.f1 < 0) := by
    by_cases a : x.f1 < 0 <;> by_cases b : y.f1 < 0 <;> simp [a, b]
  rw [e]
  generalize x.f1 = a1 at *
  generalize y.f1 = b1 at *
  generalize x.f2 = a2 at *
  generalize y.f2 = b2 at *
  generalize x.f0.f0 = a3 at *
  generalize y.f0.f0 = b3 at *
  generalize x.f0.f1 = a4 at *
  generalize y.f0.f1 = b4 at *
  clear e
  by_cases h1 : a1 = b1
  · subst h1
    by_cases h2 : a2 = b2
    · subst h2
      by_cases h3 : a3 = b3
      · subst h3
        have h4 : ¬ a4 = b4 := fun h => hne ⟨rfl, h, rfl, rfl⟩
        simp
        omega
      · simp [h3]
        omega
    · simp [h2]
      omega
  · simp [h1]
    by_cases p : a1 < 0 <;> by_cases q : b1 < 0 <;> simp [p, q] <;> omega

theorem betV_iff (a b : S52) : betV a b = true ↔ reb (tOwn a) (tOwn b) < 0 := by
  unfold betV reb eqB rHd
  have hh : hOf (tOwn a) = h2 a ∧ hOf (tOwn b) = h2 b := ⟨rfl, rfl⟩
  rw [hh.1, hh.2]
  by_cases e : a.f1.f0 = b.f1.f0 ∧ a.f1.f1 = b.f1.f1 ∧ a.f2 = b.f2 ∧ a.f3 = b.f3
  · obtain ⟨e0, e1, e2, e3⟩ := e
    simp [tOwn, e0, e1, e2, e3]
  · have hb := befV_iff (h2 a) (h2 b) (fun h => e h)
    have he : ¬ (((tOwn a).f1.f0 == (tOwn b).f1.f0 && ((tOwn a).f1.f1 == (tOwn b).f1.f1)) && ((tOwn a).f2 == (tOwn b).f2 && ((tOwn a).f3 == (tOwn b).f3))) = true := by
      intro h
      simp only [tOwn, Bool.and_eq_true, beq_iff_eq] at h
      exact e ⟨h.1.1, h.1.2, h.2.1, h.2.2⟩
    have hn : (!(a.f1.f0 == b.f1.f0 && (a.f1.f1 == b.f1.f1)) || (a.f2 != b.f2 || a.f3 != b.f3)) = true := by
      by_cases x0 : a.f1.f0 = b.f1.f0
      · by_cases x1 : a.f1.f1 = b.f1.f1
        · by_cases x2 : a.f2 = b.f2
          · have x3 : ¬ a.f3 = b.f3 := fun x3 => e ⟨x0, x1, x2, x3⟩
            simp [x3]
          · simp [x2]
        · simp [x1]
      · simp [x0]
    rw [if_neg he, hn, Bool.and_true]
    by_cases c : befV (h2 a) (h2 b) = true
    · have := hb.1 c
      rw [if_pos c, if_neg this]
      simp [h2]
    · have : hCmp (h2 b) (h2 a) < 0 := by
        by_cases hh : hCmp (h2 b) (h2 a) < 0
        · exact hh
        · exact absurd (hb.2 hh) c
      rw [if_neg c, if_pos this]
      constructor
      · intro h
        exfalso
        simp only [h2, Bool.and_eq_true, beq_iff_eq] at h
        exact e ⟨h.1.1.symm, h.1.2.symm, h.2.1.symm, h.2.2.symm⟩
      · intro h; omega
theorem plc2_iff (a b : S52) : plc2 a b = true ↔ plc (tOwn a) (tOwn b) < 0 := by
  unfold plc2 plc
  rw [cmpOr_cons, cmpOr_cons]
  have e0 : (tOwn a).f1.f0 = a.f1.f0 ∧ (tOwn b).f1.f0 = b.f1.f0 ∧ (tOwn a).f1.f1 = a.f1.f1 ∧ (tOwn b).f1.f1 = b.f1.f1 := ⟨rfl, rfl, rfl, rfl⟩
  rw [e0.1, e0.2.1, e0.2.2.1, e0.2.2.2]
  have z : cmpOr [] = 0 := rfl
  rw [z]
  by_cases h : a.f1.f0 = b.f1.f0
  · rw [if_pos h, decide_eq_true_eq]
    (repeat' split) <;> omega
  · rw [if_neg h, decide_eq_true_eq]
    (repeat' split) <;> omega

theorem can_ref (t : S52) : solventref37_can.f t.f0 t.f1.f0 t.f1.f1 t.f2 t.f3 = some (canP (tOwn t)) := by
  unfold solventref37_can.f
  show _ = some (decide (wgt t.f0 > 0) && (decide (t.f0 ≠ 1) || (decide (t.f2 ≥ 0) && decide (t.f3 > 0))))
  have hw : decide (wgt t.f0 > 0) = decide (1 ≤ t.f0 ∧ t.f0 ≤ 5) := by
    rw [Bool.eq_iff_iff, decide_eq_true_eq, decide_eq_true_eq]
    constructor
    · exact wgt_pos
    · intro h
      unfold wgt
      (repeat' split) <;> omega
  rw [hw]
  by_cases a : t.f0 = 1
  · rw [if_pos a]
    by_cases b : t.f2 ≥ 0
    · rw [if_pos b]; simp [a, b]
    · rw [if_neg b]; simp [a, b]
  · rw [if_neg a]
    by_cases b : t.f0 > 1
    · rw [if_pos b]
      congr 1
      simp [a]
      omega
    · rw [if_neg b]
      congr 1
      simp [a]
      omega

theorem better_ref (a b : S52) (k : Int) (ka : a.f0 = k) (kb : b.f0 = k) (ca : canP (tOwn a) = true) (cb : canP (tOwn b) = true) :
    solventref37_better.f a.f0 a.f1.f0 a.f1.f1 a.f2 a.f3 b.f0 b.f1.f0 b.f1.f1 b.f2 b.f3 = some (decide (cfK k (tOwn a) (tOwn b) < 0)) := by
  unfold solventref37_better.f cfK
  by_cases h : k = 1
  · have ha : 0 < a.f3 := canP_bad ca (by show a.f0 = 1; rw [ka, h])
    have hb : 0 < b.f3 := canP_bad cb (by show b.f0 = 1; rw [kb, h])
    rw [if_pos (by rw [ka, h]), if_pos ⟨ha, hb⟩, if_pos h]
    congr 1
    rw [Bool.eq_iff_iff, decide_eq_true_eq]
    exact betV_iff a b
  · rw [if_neg (by rw [ka]; exact h), if_neg h]
    congr 1
    rw [Bool.eq_iff_iff, decide_eq_true_eq]
    exact plc2_iff a b

/-! ### best -/
theorem tk_own1 (l : List S52) (x : Int) : rd_T58 (l.map tOwn) x = tOwn (rd_T52 l x) := by
  unfold rd_T58 rd_T52
  rw [List.getD_eq_getElem?_getD, List.getD_eq_getElem?_getD, List.getElem?_map]
  cases l[x.toNat]? <;> rfl
def leftFrom (n i : Nat) (gone : List Bool) : List Int := ((List.range' i (n - i)).map (fun (j : Nat) => (j : Int))).filter (fun x => !rdOf false gone x)
def leftOf (n : Nat) (gone : List Bool) : List Int := (upto n).filter (fun x => !rdOf false gone x)
theorem leftFrom_zero (n : Nat) (gone : List Bool) : leftFrom n 0 gone = leftOf n gone := by
  unfold leftFrom leftOf upto
  rw [Nat.sub_zero, List.range_eq_range']
theorem leftFrom_end (n : Nat) (gone : List Bool) : leftFrom n n gone = [] := by simp [leftFrom]
theorem leftFrom_step (n i : Nat) (gone : List Bool) (h : i < n) : leftFrom n i gone = if rdOf false gone (i : Int) = true then leftFrom n (i + 1) gone else (i : Int) :: leftFrom n (i + 1) gone := by
  unfold leftFrom
  rw [show n - i = (n - (i + 1)) + 1 by omega, List.range'_succ, List.map_cons, List.filter_cons]
  cases rdOf false gone (i : Int) <;> simp

def pK (urg : Bool) (t : S58) : Bool := canP t && (!urg || decide (t.f2 = 0))
theorem best_l0 (l : List S52) (hl : l.length ≤ 60) (gone : List Bool) (hg : gone.length = l.length) (kind : Int) (urg : Bool) : ∀ (d k i : Nat) (out : Int), i + d = l.length → 2 * d + 1 < k → BInv (l.map tOwn) kind (pK urg) out →
    solventref37_best.l0 k l gone kind urg out (i : Int) = some ((leftFrom l.length i gone).foldl (bStep (l.map tOwn) kind (pK urg) (cfK kind)) out)
  | 0, k, i, out, hd, hk, hb => by
    obtain ⟨k, rfl⟩ : ∃ m, k = m + 1 := ⟨k - 1, by omega⟩
    obtain rfl : i = l.length := by omega
    rw [solventref37_best.l0, if_neg (by omega), leftFrom_end]
    rfl
  | d + 1, k, i, out, hd, hk, hb => by
    obtain ⟨k, rfl⟩ : ∃ m, k = m + 2 := ⟨k - 2, by omega⟩
    have hi : i < l.length := by omega
    have hw : wrap64 ((i : Int) + 1) = ((i + 1 : Nat) : Int) := wrap_in _ (by omega) (by omega)
    have ih := fun out hb => best_l0 l hl gone hg kind urg d k (i + 1) out (by omega) (by omega) hb
    have sk : ∀ x9, BInv (l.map tOwn) kind (pK urg) x9 → solventref37_best.j1 (k + 1) l gone kind urg x9 (i : Int) true = some ((leftFrom l.length (i + 1) gone).foldl (bStep (l.map tOwn) kind (pK urg) (cfK kind)) x9) := fun x9 hx => by
      rw [solventref37_best.j1, if_pos rfl, hw]
      exact ih x9 hx
    rw [solventref37_best.l0, if_pos (by omega), if_pos (by omega), if_pos (by omega), leftFrom_step _ _ _ hi]
    by_cases g : rdOf false gone (i : Int) = true
    · rw [if_pos g, if_pos g]
      exact sk out hb
    · rw [if_neg g, if_neg g, List.foldl_cons]
      have hstep := bInv_step (l.map tOwn) kind (pK urg) (cfK kind) out (i : Int) hb (by omega) (by rw [List.length_map]; omega)
      have hbs : bStep (l.map tOwn) kind (pK urg) (cfK kind) out (i : Int) = if (rd_T52 l (i : Int)).f0 = kind ∧ pK urg (tOwn (rd_T52 l (i : Int))) = true ∧ (out < 0 ∨ cfK kind (tOwn (rd_T52 l (i : Int))) (tOwn (rd_T52 l out)) < 0) then (i : Int) else out := by
        unfold bStep
        rw [tk_own1, tk_own1]
        rfl
      by_cases kd : (rd_T52 l (i : Int)).f0 = kind
      · rw [if_pos kd, can_ref, Option.bind_some]
        by_cases c : canP (tOwn (rd_T52 l (i : Int))) = true
        · rw [if_pos c]
          have go : pK urg (tOwn (rd_T52 l (i : Int))) = true → solventref37_best.j1 (k + 1) l gone kind urg out (i : Int) false = some ((leftFrom l.length (i + 1) gone).foldl (bStep (l.map tOwn) kind (pK urg) (cfK kind)) (bStep (l.map tOwn) kind (pK urg) (cfK kind) out (i : Int))) := fun hp => by
            rw [solventref37_best.j1, if_neg (by decide), hw]
            by_cases o : out < 0
            · rw [if_pos o]
              rw [hbs, if_pos ⟨kd, hp, .inl o⟩] at hstep ⊢
              exact ih _ hstep
            · rw [if_neg o]
              rcases hb with hb' | ⟨b0, b1, b2, b3⟩
              · omega
              · have hb : BInv (l.map tOwn) kind (pK urg) out := .inr ⟨b0, b1, b2, b3⟩
                rw [tk_own1] at b2 b3
                rw [List.length_map] at b1
                have cb : canP (tOwn (rd_T52 l out)) = true := by
                  unfold pK at b3
                  simp only [Bool.and_eq_true] at b3
                  exact b3.1
                rw [if_pos (by omega), if_pos (by omega), if_pos b0, if_pos b1, better_ref _ _ kind kd b2 c cb, Option.bind_some]
                by_cases e : cfK kind (tOwn (rd_T52 l (i : Int))) (tOwn (rd_T52 l out)) < 0
                · rw [decide_eq_true e, if_pos rfl]
                  rw [hbs, if_pos ⟨kd, hp, .inr e⟩] at hstep ⊢
                  exact ih _ hstep
                · rw [decide_eq_false e, if_neg (by decide)]
                  rw [hbs, if_neg (fun h => h.2.2.elim o e)]
                  exact ih _ hb
          cases urg with
          | true =>
            rw [if_pos rfl]
            by_cases z : (rd_T52 l (i : Int)).f2 = 0
            · rw [show ((rd_T52 l (i : Int)).f2 != 0) = false by simp [z]]
              exact go (by unfold pK; rw [c]; simp; exact z)
            · rw [show ((rd_T52 l (i : Int)).f2 != 0) = true by simp [z], hbs, if_neg (fun h => z (by have h9 := h.2.1; unfold pK at h9; rw [c] at h9; simp at h9; exact h9))]
              exact sk out hb
          | false =>
            rw [if_neg (by decide)]
            exact go (by unfold pK; rw [c]; rfl)
        · rw [if_neg c, hbs, if_neg (fun h => c (by have := h.2.1; unfold pK at this; simp only [Bool.and_eq_true] at this; exact this.1))]
          exact sk out hb
      · rw [if_neg kd, hbs, if_neg (fun h => kd h.1)]
        exact sk out hb

theorem best_ref (l : List S52) (hl : l.length ≤ 60) (gone : List Bool) (hg : gone.length = l.length) (kind : Int) (urg : Bool) (k : Nat) (hk : 130 < k) :
    solventref37_best.f k l gone kind urg = some (bst (l.map tOwn) kind (pK urg) (cfK kind) (leftOf l.length gone)) := by
  unfold solventref37_best.f bst
  rw [← leftFrom_zero]
  exact best_l0 l hl gone hg kind urg l.length k 0 (-1) (by omega) (by omega) (.inl rfl)
theorem bst_can (l : List S52) (hl : l.length ≤ 60) (gone : List Bool) (hg : gone.length = l.length) (kind : Int) (k : Nat) (hk : 130 < k) :
    solventref37_best.f k l gone kind false = some (bestC (l.map tOwn) (leftOf l.length gone) kind) := by
  rw [best_ref l hl gone hg kind false k hk]
  have : pK false = canP := by funext t; unfold pK; simp
  rw [this]
  rfl
theorem foldl_congr {α β : Type} (f g : β → α → β) (h : ∀ b a, f b a = g b a) : ∀ (l : List α) (b : β), l.foldl f b = l.foldl g b
  | [], _ => rfl
  | x :: r, b => by rw [List.foldl_cons, List.foldl_cons, h, foldl_congr f g h r]
theorem bst_urg (l : List S52) (hl : l.length ≤ 60) (gone : List Bool) (hg : gone.length = l.length) (k : Nat) (hk : 130 < k) :
    solventref37_best.f k l gone 1 true = some (bestU (l.map tOwn) (leftOf l.length gone)) := by
  rw [best_ref l hl gone hg 1 true k hk]
  congr 1
  unfold bestU bst
  refine foldl_congr _ _ (fun out x => ?_) _ _
  unfold bStep
  congr 1
  apply propext
  constructor
  · rintro ⟨a, b, c⟩
    refine ⟨a, ?_, c⟩
    unfold pK at b
    simp only [Bool.and_eq_true, Bool.not_true, Bool.false_or, decide_eq_true_eq] at b
    unfold urgP
    simp [a, b.1, b.2]
  · rintro ⟨a, b, c⟩
    refine ⟨a, ?_, c⟩
    unfold urgP at b
    simp only [Bool.and_eq_true, decide_eq_true_eq] at b
    unfold pK
    simp [b.1.2, b.2]

end Go.Proofs.Ytmpeekkbmfbjeaa

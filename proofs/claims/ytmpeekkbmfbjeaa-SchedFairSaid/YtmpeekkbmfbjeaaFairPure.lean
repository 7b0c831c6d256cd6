/- The law SchedFair, plainly: which kinds are wanted, and who is chosen in as many calls as the weights add up to. -/
import Derived.Test.YtmpeekkbmfbjeaaLawLib
namespace Go.Proofs.Ytmpeekkbmfbjeaa
open Go.RowKit Go.Proofs.Ytmpeekkbmfbjeaa.P Go.Proofs.YtmpeekkbmfbjeaaW.PrintWords Go.Proofs.YtmpeekkbmfbjeaaW.PrintMore

/-! ### one call, by the set of the kinds that can be chosen -/
def tRound (T : Nat → Bool) (st : List Int × Int × Int) (i : Nat) : List Int × Int × Int :=
  if T i = false then st
  else (st.1.set i (rd st.1 (i : Int) + wgt ((i : Int) + 1)), st.2.1 + wgt ((i : Int) + 1),
    if st.2.2 = 0 ∨ rd st.1 (i : Int) + wgt ((i : Int) + 1) > rd st.1 (st.2.2 - 1) then (i : Int) + 1 else st.2.2)
def tFold (T : Nat → Bool) (cr : List Int) : Nat → List Int × Int × Int
  | 0 => (cr, 0, 0)
  | n + 1 => tRound T (tFold T cr n) n
def tEnd (r : List Int × Int × Int) : List Int × Int :=
  if r.2.2 = 0 then (r.1, 0) else ((r.1.set (r.2.2 - 1).toNat (rd r.1 (r.2.2 - 1) - r.2.1)).map clamp, r.2.2)
def tNxt (T : Nat → Bool) (cr : List Int) : List Int × Int := tEnd (tFold T cr 5)

theorem nFold_t (l : List S58) (left cr : List Int) : ∀ n, nFold l left cr n = tFold (srv l left) cr n
  | 0 => rfl
  | n + 1 => by
    rw [nFold, tFold, nFold_t l left cr n]
    have e : (srv l left n = false) = (bestC l left ((n : Int) + 1) < 0) := by unfold srv; simp
    unfold nRound tRound
    simp only [e]
theorem tFold_congr (T T' : Nat → Bool) (cr : List Int) : ∀ n, (∀ k, k < n → T k = T' k) → tFold T cr n = tFold T' cr n
  | 0, _ => rfl
  | n + 1, h => by
    rw [tFold, tFold, tFold_congr T T' cr n (fun k hk => h k (by omega))]
    unfold tRound
    rw [h n (by omega)]
theorem nxt_t {l : List S58} {left cr : List Int} (hu : bestU l left < 0) (h : (tNxt (srv l left) cr).2 ≠ 0) : nxt l left cr = ((tNxt (srv l left) cr).1, bestC l left (tNxt (srv l left) cr).2) := by
  unfold tNxt tEnd at h ⊢
  rw [← nFold_t] at h ⊢
  unfold nxt
  rw [if_neg (by omega)]
  by_cases e : (nFold l left cr 5).2.2 = 0
  · rw [if_pos e] at h
    exact absurd rfl h
  · rw [if_neg e, if_neg e]

/-! ### as many calls as the weights add up to -/
def fStep (T : Nat → Bool) (s : List Int × List Int) : List Int × List Int := ((tNxt T s.1).1, s.2.set (tNxt T s.1).2.toNat (rd s.2 (tNxt T s.1).2 + 1))
def fSt (T : Nat → Bool) : Nat → List Int × List Int
  | 0 => ([0, 0, 0, 0, 0], [0, 0, 0, 0, 0, 0])
  | n + 1 => fStep T (fSt T n)
def wl (T : Nat → Bool) : List Int := [0, bi (T 0) 4, bi (T 1) 2, bi (T 2) 2, bi (T 3) 1, bi (T 4) 1]
def tOf (b : List Bool) (k : Nat) : Bool := b.getD k false
def fOne (T : Nat → Bool) (s : List Int × List Int) : Bool :=
  vOk s.1 && decide (1 ≤ (tNxt T s.1).2) && decide ((tNxt T s.1).2 ≤ 5) && T ((tNxt T s.1).2 - 1).toNat && decide (s.2.length = 6) && s.2.all fun x => decide (0 ≤ x) && decide (x ≤ 10)
def fOk (T : Nat → Bool) : Bool := ((List.range (sm T wg).toNat).all fun i => fOne T (fSt T i)) && decide (fSt T (sm T wg).toNat = ([0, 0, 0, 0, 0], wl T)) && decide (0 ≤ sm T wg) && decide (sm T wg ≤ 10)
set_option maxRecDepth 100000 in
theorem fOk_all : ∀ b0 b1 b2 b3 b4 : Bool, fOk (tOf [b0, b1, b2, b3, b4]) = true := by decide +kernel

theorem fOk_at (T : Nat → Bool) (hT : ∀ k, 5 ≤ k → T k = false) : fOk T = true := by
  have e : T = tOf [T 0, T 1, T 2, T 3, T 4] := by
    funext k
    by_cases h : k < 5
    · have : k = 0 ∨ k = 1 ∨ k = 2 ∨ k = 3 ∨ k = 4 := by omega
      rcases this with rfl | rfl | rfl | rfl | rfl <;> rfl
    · rw [hT k (by omega)]
      simp [tOf, List.getD_eq_getElem?_getD, List.getElem?_eq_none (show [T 0, T 1, T 2, T 3, T 4].length ≤ k by simp; omega)]
  rw [e]
  exact fOk_all _ _ _ _ _

/-! ### the wanted numbers -/
theorem tk_own1' (l : List S52) (x : Int) : rd_T58 (l.map tOwn) x = tOwn (rd_T52 l x) := by
  unfold rd_T58 rd_T52
  rw [List.getD_eq_getElem?_getD, List.getD_eq_getElem?_getD, List.getElem?_map]
  cases l[x.toNat]? <;> rfl
def wStp (st : List Int × Int) (t : S52) : List Int × Int := if canP (tOwn t) = true then (st.1.set t.f0.toNat (wgt t.f0), st.2 + (wgt t.f0 - rd st.1 t.f0)) else st
def wSt (l : List S52) : Nat → List Int × Int
  | 0 => ([0, 0, 0, 0, 0, 0], 0)
  | n + 1 => wStp (wSt l n) (rd_T52 l (n : Int))
def tk (l : List S52) (n k : Nat) : Bool := (l.take n).any fun t => canP (tOwn t) && decide (t.f0 = (k : Int) + 1)
theorem tk_step (l : List S52) (n k : Nat) (h : n < l.length) : tk l (n + 1) k = (tk l n k || (canP (tOwn (rd_T52 l (n : Int))) && decide ((rd_T52 l (n : Int)).f0 = (k : Int) + 1))) := by
  have e : rd_T52 l (n : Int) = l[n] := by simp [rd_T52, List.getD_eq_getElem?_getD, h]
  unfold tk
  rw [e, List.take_succ_eq_append_getElem h, List.any_append]
  simp
theorem wl_set (T T' : Nat → Bool) (k : Nat) (hk : k < 5) (h1 : T' k = true) (h2 : ∀ j, j ≠ k → T' j = T j) : (wl T).set (k + 1) (wgt ((k : Int) + 1)) = wl T' ∧ sm T wg + (wgt ((k : Int) + 1) - rd (wl T) ((k : Int) + 1)) = sm T' wg := by
  have w0 : wg 0 = 4 := rfl
  have w1 : wg 1 = 2 := rfl
  have w2 : wg 2 = 2 := rfl
  have w3 : wg 3 = 1 := rfl
  have w4 : wg 4 = 1 := rfl
  have v1 : wgt 1 = 4 := rfl
  have v2 : wgt 2 = 2 := rfl
  have v3 : wgt 3 = 2 := rfl
  have v4 : wgt 4 = 1 := rfl
  have v5 : wgt 5 = 1 := rfl
  have : k = 0 ∨ k = 1 ∨ k = 2 ∨ k = 3 ∨ k = 4 := by omega
  unfold sm wl
  rw [w0, w1, w2, w3, w4]
  rcases this with rfl | rfl | rfl | rfl | rfl
  · rw [h1, h2 1 (by decide), h2 2 (by decide), h2 3 (by decide), h2 4 (by decide)]
    refine ⟨by simp [bi, v1], ?_⟩
    cases T 0 <;> simp [bi, v1, rd] <;> omega
  · rw [h1, h2 0 (by decide), h2 2 (by decide), h2 3 (by decide), h2 4 (by decide)]
    refine ⟨by simp [bi, v2], ?_⟩
    cases T 1 <;> simp [bi, v2, rd] <;> omega
  · rw [h1, h2 0 (by decide), h2 1 (by decide), h2 3 (by decide), h2 4 (by decide)]
    refine ⟨by simp [bi, v3], ?_⟩
    cases T 2 <;> simp [bi, v3, rd] <;> omega
  · rw [h1, h2 0 (by decide), h2 1 (by decide), h2 2 (by decide), h2 4 (by decide)]
    refine ⟨by simp [bi, v4], ?_⟩
    cases T 3 <;> simp [bi, v4, rd] <;> omega
  · rw [h1, h2 0 (by decide), h2 1 (by decide), h2 2 (by decide), h2 3 (by decide)]
    refine ⟨by simp [bi, v5], ?_⟩
    cases T 4 <;> simp [bi, v5, rd] <;> omega
theorem wSt_eq (l : List S52) : ∀ n, n ≤ l.length → wSt l n = (wl (tk l n), sm (tk l n) wg)
  | 0, _ => by
    have : tk l 0 = fun _ => false := by funext k; simp [tk]
    rw [this]; rfl
  | n + 1, h => by
    rw [wSt, wSt_eq l n (by omega)]
    unfold wStp
    by_cases c : canP (tOwn (rd_T52 l (n : Int))) = true
    · rw [if_pos c]
      have hk : 1 ≤ (rd_T52 l (n : Int)).f0 ∧ (rd_T52 l (n : Int)).f0 ≤ 5 := canP_kind c
      obtain ⟨k, e⟩ : ∃ k : Nat, (rd_T52 l (n : Int)).f0 = (k : Int) + 1 := ⟨((rd_T52 l (n : Int)).f0 - 1).toNat, by omega⟩
      obtain ⟨a, b⟩ := wl_set (tk l n) (tk l (n + 1)) k (by omega) (by rw [tk_step l n k (by omega), c, e]; simp) (fun j hj => by
        rw [tk_step l n j (by omega), e]
        have : decide ((k : Int) + 1 = (j : Int) + 1) = false := by simp; omega
        rw [this]; simp)
      rw [e, show ((k : Int) + 1).toNat = k + 1 by omega, a, b]
    · rw [if_neg c]
      have : tk l (n + 1) = tk l n := by
        funext k
        rw [tk_step l n k (by omega), Bool.eq_false_iff.2 c]
        simp
      rw [this]

theorem tk_srv (l : List S52) (k : Nat) : tk l l.length k = srv (l.map tOwn) (upto l.length) k := by
  have hm : (l.map tOwn).length = l.length := List.length_map ..
  rw [Bool.eq_iff_iff]
  unfold tk srv
  rw [List.take_length, List.any_eq_true]
  simp only [Bool.and_eq_true, decide_eq_true_eq, Bool.not_eq_true', decide_eq_false_iff_not]
  constructor
  · rintro ⟨t, ht, hc, hk⟩ hb
    obtain ⟨j, hj, rfl⟩ := List.getElem_of_mem ht
    have h2 := (bst_neg (l.map tOwn) ((k : Int) + 1) canP (cfK ((k : Int) + 1)) (upto l.length) (-1) (fun x hx => (mem_upto hx).1) hb).2 (j : Int) (by unfold upto; exact List.mem_map.2 ⟨j, List.mem_range.2 hj, rfl⟩)
    have e : rd_T58 (l.map tOwn) (j : Int) = tOwn l[j] := by rw [tk_own1']; congr 1; simp [rd_T52, List.getD_eq_getElem?_getD, hj]
    rw [e] at h2
    exact h2 ⟨hk, hc⟩
  · intro hb
    rcases bst_inv (l.map tOwn) ((k : Int) + 1) canP (cfK ((k : Int) + 1)) (upto l.length) (-1) (fun x hx => by rw [hm]; exact mem_upto hx) (.inl rfl) with e | ⟨b0, b1, b2, b3⟩
    · exfalso
      apply hb
      unfold bestC bst
      rw [e]; decide
    · rw [hm] at b1
      have hi : (bestC (l.map tOwn) (upto l.length) ((k : Int) + 1)).toNat < l.length := by unfold bestC bst; omega
      refine ⟨l[(bestC (l.map tOwn) (upto l.length) ((k : Int) + 1)).toNat], List.getElem_mem hi, ?_⟩
      have e : rd_T58 (l.map tOwn) (bestC (l.map tOwn) (upto l.length) ((k : Int) + 1)) = tOwn l[(bestC (l.map tOwn) (upto l.length) ((k : Int) + 1)).toNat] := by rw [tk_own1']; congr 1; simp [rd_T52, List.getD_eq_getElem?_getD, hi]
      have b2' : (rd_T58 (l.map tOwn) (bestC (l.map tOwn) (upto l.length) ((k : Int) + 1))).f0 = (k : Int) + 1 := b2
      have b3' : canP (rd_T58 (l.map tOwn) (bestC (l.map tOwn) (upto l.length) ((k : Int) + 1))) = true := b3
      rw [e] at b2' b3'
      exact ⟨b3', b2'⟩

/-! ### together -/
structure FOne (l : List S52) (s s' : List Int × List Int) : Prop where
  vok : vOk s.1 = true
  len : s.2.length = 6
  bd : ∀ j : Nat, j < 6 → 0 ≤ rd s.2 (j : Int) ∧ rd s.2 (j : Int) ≤ 10
  k0 : 0 ≤ (nxt (l.map tOwn) (upto l.length) s.1).2
  k1 : (nxt (l.map tOwn) (upto l.length) s.1).2 < (l.length : Int)
  f1 : 1 ≤ (rd_T52 l (nxt (l.map tOwn) (upto l.length) s.1).2).f0
  f5 : (rd_T52 l (nxt (l.map tOwn) (upto l.length) s.1).2).f0 ≤ 5
  next : s' = ((nxt (l.map tOwn) (upto l.length) s.1).1, s.2.set (rd_T52 l (nxt (l.map tOwn) (upto l.length) s.1).2).f0.toNat (rd s.2 (rd_T52 l (nxt (l.map tOwn) (upto l.length) s.1).2).f0 + 1))
theorem fair_pure (l : List S52) (hu : bestU (l.map tOwn) (upto l.length) < 0) : ∃ (S : Nat) (st : Nat → List Int × List Int) (W : List Int),
    wSt l l.length = (W, (S : Int)) ∧ S ≤ 10 ∧ st 0 = ([0, 0, 0, 0, 0], [0, 0, 0, 0, 0, 0]) ∧ st S = ([0, 0, 0, 0, 0], W) ∧ W.length = 6 ∧ ∀ i, i < S → FOne l (st i) (st (i + 1)) := by
  obtain ⟨T, hT⟩ : ∃ T : Nat → Bool, T = tk l l.length := ⟨_, rfl⟩
  have hT5 : ∀ k, 5 ≤ k → T k = false := fun k hk => by
    rw [hT]
    unfold tk
    rw [List.any_eq_false]
    intro t _ h
    simp only [Bool.and_eq_true, decide_eq_true_eq] at h
    have h9 : 1 ≤ t.f0 ∧ t.f0 ≤ 5 := canP_kind h.1
    omega
  have hf := fOk_at T hT5
  have hsr : T = srv (l.map tOwn) (upto l.length) := by rw [hT]; funext k; exact tk_srv l k
  unfold fOk at hf
  simp only [Bool.and_eq_true, decide_eq_true_eq, List.all_eq_true, List.mem_range] at hf
  obtain ⟨⟨⟨h1, h2⟩, h3⟩, h4⟩ := hf
  refine ⟨(sm T wg).toNat, fSt T, wl T, ?_, by omega, rfl, h2, rfl, fun i hi => ?_⟩
  · rw [wSt_eq l _ (Nat.le_refl _), ← hT]
    congr 1
    omega
  · have h := h1 i hi
    unfold fOne at h
    simp only [Bool.and_eq_true, decide_eq_true_eq, List.all_eq_true] at h
    obtain ⟨⟨⟨⟨⟨a1, a2⟩, a3⟩, a4⟩, a5⟩, a6⟩ := h
    have hm : (l.map tOwn).length = l.length := List.length_map ..
    have hn := nxt_t (l := l.map tOwn) (left := upto l.length) (cr := (fSt T i).1) hu (by rw [← hsr]; omega)
    rw [← hsr] at hn
    obtain ⟨t, ht⟩ : ∃ t, t = (tNxt T (fSt T i).1).2 := ⟨_, rfl⟩
    rw [← ht] at hn a2 a3 a4
    have hb : ¬ bestC (l.map tOwn) (upto l.length) t < 0 := by
      have : srv (l.map tOwn) (upto l.length) (t - 1).toNat = true := by rw [← hsr]; exact a4
      unfold srv at this
      simp only [Bool.not_eq_true', decide_eq_false_iff_not] at this
      rw [show (((t - 1).toNat : Int) + 1) = t by omega] at this
      exact this
    rcases bst_inv (l.map tOwn) t canP (cfK t) (upto l.length) (-1) (fun x hx => by rw [hm]; exact mem_upto hx) (.inl rfl) with e | ⟨b0, b1, b2, b3⟩
    · exfalso
      apply hb
      unfold bestC bst
      rw [e]; decide
    · have kd : (rd_T52 l (bestC (l.map tOwn) (upto l.length) t)).f0 = t := by
        rw [tk_own1'] at b2
        exact b2
      rw [hm] at b1
      refine ⟨a1, a5, fun j hj => ?_, by rw [hn]; exact b0, by rw [hn]; exact b1, by rw [hn, kd]; exact a2, by rw [hn, kd]; exact a3, ?_⟩
      · have e : rd (fSt T i).2 (j : Int) = (fSt T i).2[j]'(by omega) := by simp [rd, List.getD_eq_getElem?_getD, show j < (fSt T i).2.length by omega]
        rw [e]
        exact a6 _ (List.getElem_mem _)
      · rw [hn, kd]
        show fStep T (fSt T i) = _
        unfold fStep
        rw [ht]

end Go.Proofs.Ytmpeekkbmfbjeaa

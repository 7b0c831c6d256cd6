/- The law SchedUrgent, plainly. -/
import Derived.Test.YtmpeekkbmfbjeaaPx11
import Derived.Test.YtmpeekkbmfbjeaaLawLib
namespace Go.Proofs.Ytmpeekkbmfbjeaa
open Go.RowKit Go.Proofs.Ytmpeekkbmfbjeaa.P Go.Proofs.YtmpeekkbmfbjeaaW.PrintWords Go.Proofs.YtmpeekkbmfbjeaaW.PrintMore

theorem urgP_spec {t : S58} (h : urgP t = true) : t.f0 = 1 ∧ t.f2 = 0 ∧ canP t = true := by
  unfold urgP at h
  simp only [Bool.and_eq_true, decide_eq_true_eq] at h
  exact ⟨h.1.1, h.2, h.1.2⟩
theorem urgP_of {t : S58} (h0 : t.f0 = 1) (h2 : t.f2 = 0) (hc : canP t = true) : urgP t = true := by
  unfold urgP
  simp [h0, h2, hc]

theorem urg_reb {s t : S58} (hs : s.f2 = 0) (ht : t.f2 = 0) : (reb s t < 0 → t.f3 ≤ s.f3) ∧ (¬ reb s t < 0 → s.f3 ≤ t.f3) := by
  have h3 : s.f3 < t.f3 → hCmp (hOf t) (hOf s) < 0 := fun h => by
    unfold hCmp cmpOr
    simp only [hLost, hOf, hs, ht]
    simp only [Lib.compareInt, cmpOr]
    simp [h]
  have h4 : t.f3 < s.f3 → ¬ hCmp (hOf t) (hOf s) < 0 := fun h => by
    unfold hCmp cmpOr
    simp only [hLost, hOf, hs, ht]
    simp only [Lib.compareInt, cmpOr]
    have : ¬ s.f3 < t.f3 := by omega
    simp [h, this]
  unfold reb
  by_cases e : eqB s t = true
  · rw [if_pos e]
    unfold eqB at e
    simp only [Bool.and_eq_true, beq_iff_eq] at e
    omega
  · rw [if_neg e]
    by_cases c : hCmp (hOf t) (hOf s) < 0
    · rw [if_pos c]
      refine ⟨fun h => by omega, fun _ => ?_⟩
      by_cases d : t.f3 < s.f3
      · exact absurd c (h4 d)
      · omega
    · rw [if_neg c]
      refine ⟨fun _ => ?_, fun h => by omega⟩
      by_cases d : s.f3 < t.f3
      · exact absurd (h3 d) c
      · omega

theorem fold_max (l : List S58) : ∀ (left : List Int) (out : Int), (∀ x ∈ left, 0 ≤ x ∧ x < (l.length : Int)) → BInv l 1 urgP out →
    (0 ≤ out → (rd_T58 l out).f3 ≤ (rd_T58 l (left.foldl (bStep l 1 urgP (cfK 1)) out)).f3) ∧ ∀ y ∈ left, urgP (rd_T58 l y) = true → (rd_T58 l y).f3 ≤ (rd_T58 l (left.foldl (bStep l 1 urgP (cfK 1)) out)).f3
  | [], out, _, _ => ⟨fun _ => Int.le_refl _, fun y hy => absurd hy List.not_mem_nil⟩
  | x :: r, out, hin, h => by
    rw [List.foldl_cons]
    have hx := hin x List.mem_cons_self
    have hb := bInv_step l 1 urgP (cfK 1) out x h hx.1 hx.2
    obtain ⟨i1, i2⟩ := fold_max l r _ (fun y hy => hin y (List.mem_cons_of_mem _ hy)) hb
    generalize (r.foldl (bStep l 1 urgP (cfK 1)) (bStep l 1 urgP (cfK 1) out x)) = F at i1 i2 ⊢
    unfold bStep at i1 hb
    by_cases c : (rd_T58 l x).f0 = 1 ∧ urgP (rd_T58 l x) = true ∧ (out < 0 ∨ cfK 1 (rd_T58 l x) (rd_T58 l out) < 0)
    · rw [if_pos c] at i1
      have ix := i1 hx.1
      refine ⟨fun ho => ?_, fun y hy hu => ?_⟩
      · rcases h with h | ⟨_, _, _, h4⟩
        · omega
        · have hc : cfK 1 (rd_T58 l x) (rd_T58 l out) < 0 := by
            rcases c.2.2 with h | h
            · omega
            · exact h
          have := (urg_reb (urgP_spec c.2.1).2.1 (urgP_spec h4).2.1).1 hc
          omega
      · rcases List.mem_cons.1 hy with rfl | hy
        · exact ix
        · exact i2 y hy hu
    · rw [if_neg c] at i1
      refine ⟨i1, fun y hy hu => ?_⟩
      rcases List.mem_cons.1 hy with rfl | hy
      · have h0 : ¬ out < 0 := fun hh => c ⟨(urgP_spec hu).1, hu, .inl hh⟩
        rcases h with h | ⟨_, _, _, h4⟩
        · omega
        · have := (urg_reb (urgP_spec hu).2.1 (urgP_spec h4).2.1).2 (fun hh => c ⟨(urgP_spec hu).1, hu, .inr hh⟩)
          have := i1 (by omega)
          omega
      · exact i2 y hy hu

/-- urgent ones first, those with more bad units ahead. -/
def UO (l : List S58) : List Int → Prop
  | [] => True
  | [_] => True
  | a :: b :: r => (urgP (rd_T58 l b) = true → urgP (rd_T58 l a) = true ∧ (rd_T58 l b).f3 ≤ (rd_T58 l a).f3) ∧ UO l (b :: r)
theorem UO.snoc (l : List S58) (k : Int) : ∀ (P : List Int), UO l P → (∀ a, P.getLast? = some a → urgP (rd_T58 l k) = true → urgP (rd_T58 l a) = true ∧ (rd_T58 l k).f3 ≤ (rd_T58 l a).f3) → UO l (P ++ [k])
  | [], _, _ => trivial
  | [a], _, h => ⟨h a rfl, trivial⟩
  | a :: b :: r, hu, h => ⟨hu.1, UO.snoc l k (b :: r) hu.2 (fun c hc => h c (by rw [List.getLast?_cons_cons]; exact hc))⟩

theorem run_urg (l : List S58) (b : Int) : ∀ (n : Nat) (cr left picks c P : List Int), runO l b n cr left picks = some (c, P) → RP l left picks → COk cr → UO l picks →
    (∀ a, picks.getLast? = some a → ∀ y ∈ left, urgP (rd_T58 l y) = true → urgP (rd_T58 l a) = true ∧ (rd_T58 l y).f3 ≤ (rd_T58 l a).f3) → UO l P
  | 0, _, _, _, _, _, h, _, _, _, _ => by simp [runO] at h
  | n + 1, cr, left, picks, c, P, h, hr, hc, hu, hl => by
    unfold runO at h
    split at h
    · split at h
      · simp only [Option.some.injEq, Prod.mk.injEq] at h
        obtain ⟨rfl, rfl⟩ := h
        exact hu
      · rename_i hk
        have hm := nxt_mem hk
        refine run_urg l b n _ _ _ _ _ h (hr.step hm (nxt_can hc hr.hin hk)) (nxt_COk hc) (UO.snoc l _ _ hu (fun a ha hh => hl a ha _ hm hh)) (fun a ha y hy hyu => ?_)
        have ha2 : a = (nxt l left cr).2 := by
          rw [List.getLast?_append] at ha
          simpa using ha.symm
        have hyl : y ∈ left := (List.mem_filter.1 hy).1
        rw [ha2]
        by_cases hb : bestU l left ≥ 0
        · rw [nxt_urg hb]
          obtain ⟨_, h2⟩ := fold_max l left (-1) hr.hin (.inl rfl)
          rcases bst_inv l 1 urgP (cfK 1) left (-1) hr.hin (.inl rfl) with e | ⟨_, _, _, e⟩
          · exfalso; unfold bestU bst at hb; rw [e] at hb; omega
          · exact ⟨e, h2 y hyl hyu⟩
        · exfalso
          have hb2 : bestU l left < 0 := by omega
          exact (bst_neg l 1 urgP (cfK 1) left (-1) (fun z hz => (hr.hin z hz).1) hb2).2 y hyl ⟨(urgP_spec hyu).1, hyu⟩
    · simp only [Option.some.injEq, Prod.mk.injEq] at h
      obtain ⟨rfl, rfl⟩ := h
      exact hu

theorem tk_own2 (l : List S52) (x : Int) : rd_T58 (l.map tOwn) x = tOwn (rd_T52 l x) := by
  unfold rd_T58 rd_T52
  rw [List.getD_eq_getElem?_getD, List.getD_eq_getElem?_getD, List.getElem?_map]
  cases l[x.toNat]? <;> rfl

theorem urg_l0 (l : List S52) (hl : l.length ≤ 60) (P : List Int) (hP : P.length ≤ 60) (hin : ∀ x ∈ P, 0 ≤ x ∧ x < (l.length : Int)) (hcan : ∀ x ∈ P, canP (tOwn (rd_T52 l x)) = true) (hU : ∀ i : Nat, i + 1 < P.length → urgP (tOwn (rd_T52 l (rd P ((i + 1 : Nat) : Int)))) = true → urgP (tOwn (rd_T52 l (rd P (i : Int)))) = true ∧ (rd_T52 l (rd P ((i + 1 : Nat) : Int))).f3 ≤ (rd_T52 l (rd P (i : Int))).f3) :
    ∀ (d k i : Nat) (u : Bool) (bd : Int), i + d = P.length → 2 * d + 10 < k → (i = 0 → u = true) → (∀ m : Nat, i = m + 1 → (urgP (tOwn (rd_T52 l (rd P (m : Int)))) = true → u = true) ∧ bd = (rd_T52 l (rd P (m : Int))).f3) →
      solventlaw37_SchedUrgent.l0 k l 0 u bd P (P.length : Int) (i : Int) = some true
  | 0, k, i, u, bd, hd, hk, _, _ => by
    obtain ⟨k, rfl⟩ : ∃ m, k = m + 1 := ⟨k - 1, by omega⟩
    rw [solventlaw37_SchedUrgent.l0, if_neg (by omega)]
    rfl
  | d + 1, k, i, u, bd, hd, hk, h0, h1 => by
    obtain ⟨k, rfl⟩ : ∃ m, k = m + 2 := ⟨k - 2, by omega⟩
    have hi : i < P.length := by omega
    have e : rd P (i : Int) = P[i] := by simp [rd, List.getD_eq_getElem?_getD, hi]
    have hxin := hin P[i] (List.getElem_mem hi)
    have hxc := hcan P[i] (List.getElem_mem hi)
    rw [← e] at hxin hxc
    obtain ⟨x0, x1⟩ := hxin
    have ih := urg_l0 l hl P hP hin hcan hU d k (i + 1)
    have hw : wrap64 ((i : Int) + 1) = ((i + 1 : Nat) : Int) := wrap_in _ (by omega) (by omega)
    have hgo : ∀ u' bd', (urgP (tOwn (rd_T52 l (rd P (i : Int)))) = true → u' = true) → bd' = (rd_T52 l (rd P (i : Int))).f3 → solventlaw37_SchedUrgent.l0 k l 0 u' bd' P (P.length : Int) ((i + 1 : Nat) : Int) = some true := fun u' bd' hu' hb' =>
      ih u' bd' (by omega) (by omega) (fun h => by omega) (fun m hm => by
        obtain rfl : m = i := by omega
        exact ⟨hu', hb'⟩)
    have hprev : urgP (tOwn (rd_T52 l (rd P (i : Int)))) = true → u = true ∧ ((i : Int) > 0 → (rd_T52 l (rd P (i : Int))).f3 ≤ bd) := fun hu => by
      rcases Nat.eq_zero_or_pos i with rfl | hp
      · exact ⟨h0 rfl, fun h => by omega⟩
      · obtain ⟨m, rfl⟩ : ∃ m, i = m + 1 := ⟨i - 1, by omega⟩
        obtain ⟨q1, q2⟩ := hU m hi hu
        obtain ⟨r1, r2⟩ := h1 m rfl
        exact ⟨r1 q1, fun _ => by rw [r2]; exact q2⟩
    rw [solventlaw37_SchedUrgent.l0, if_pos (by omega), if_pos (by omega), if_pos (by omega), if_neg (by omega), decide_eq_false (by omega), solventlaw37_SchedUrgent.j2, if_neg (by decide), if_pos x0, if_pos x1, hw]
    generalize rd_T52 l (rd P (i : Int)) = t at hxc hgo hprev ⊢
    by_cases c1 : t.f0 = 1
    · rw [if_pos c1]
      by_cases c2 : t.f2 = 0
      · rw [if_pos c2]
        have hu : urgP (tOwn t) = true := urgP_of c1 c2 hxc
        obtain ⟨p1, p2⟩ := hprev hu
        have hr := hgo (t.f2 == 0) t.f3 (fun _ => by simp [c2]) rfl
        rw [if_pos p1]
        by_cases c3 : (i : Int) > 0
        · rw [if_pos c3, if_neg (by have := p2 c3; omega)]
          exact hr
        · rw [if_neg c3]
          exact hr
      · rw [if_neg c2]
        exact hgo (t.f2 == 0) t.f3 (fun hu => absurd (urgP_spec hu).2.1 c2) rfl
    · rw [if_neg c1]
      exact hgo false t.f3 (fun hu => absurd (urgP_spec hu).1 c1) rfl

theorem UO.at (l : List S58) : ∀ (P : List Int), UO l P → ∀ i : Nat, i + 1 < P.length → urgP (rd_T58 l (rd P ((i + 1 : Nat) : Int))) = true → urgP (rd_T58 l (rd P (i : Int))) = true ∧ (rd_T58 l (rd P ((i + 1 : Nat) : Int))).f3 ≤ (rd_T58 l (rd P (i : Int))).f3
  | [], _, i, h => by simp at h
  | [_], _, i, h => by simp at h
  | a :: b :: r, hu, 0, _ => hu.1
  | a :: b :: r, hu, i + 1, h => by
    have := UO.at l (b :: r) hu.2 i (by simpa using h)
    have e : ∀ j : Nat, rd (a :: b :: r) ((j + 1 : Nat) : Int) = rd (b :: r) (j : Int) := fun j => by simp [rd]
    rw [e, e]
    exact this

theorem Pure.SchedUrgent (cr : List Int) (l : List S52) : ∃ k, solventlaw37_SchedUrgent.f k cr l = some true := by
  refine ⟨400, ?_⟩
  unfold solventlaw37_SchedUrgent.f
  have san : ∀ k x0 x1, solventlaw37_SchedUrgent.j0 (k + 1) x0 x1 true = some true := fun k x0 x1 => by rw [solventlaw37_SchedUrgent.j0, if_pos rfl]; rfl
  by_cases h60 : (l.length : Int) > 60
  · rw [if_pos h60]; exact san _ _ _
  · rw [if_neg h60, valid_f cr 400 (by decide), Option.bind_some]
    by_cases hv : vOk cr = true
    · rw [hv, show (!true) = false from rfl, solventlaw37_SchedUrgent.j0, if_neg (by decide), own_f l (by omega) _ (by omega), Option.bind_some]
      have hl : (l.map tOwn).length ≤ 60 := by rw [List.length_map]; omega
      obtain ⟨c1, P, left', r1, f1, p1, _⟩ := run_f cr (l.map tOwn) (l.length : Int) hv (by omega) hl
      have hlen := p1.len
      rw [List.length_map] at hlen
      rw [f1, Option.bind_some]
      have hUO := run_urg (l.map tOwn) (l.length : Int) 61 cr _ [] c1 P r1 (RP.start _) (vOk_COk hv) trivial (fun a ha => by simp at ha)
      have hin : ∀ x ∈ P, 0 ≤ x ∧ x < (l.length : Int) := fun x hx => by
        have := mem_upto ((p1.mem x).2 (.inr hx))
        rwa [List.length_map] at this
      exact urg_l0 l (by omega) P (by omega) hin (fun x hx => by rw [← tk_own2]; exact p1.can x hx) (fun i hi => by
        have := UO.at _ P hUO i hi
        rw [tk_own2, tk_own2] at this
        exact this) P.length 399 0 true 0 (by omega) (by omega) (fun _ => rfl) (fun m hm => by omega)
    · rw [show vOk cr = false by simpa using hv]; exact san _ _ _

end Go.Proofs.Ytmpeekkbmfbjeaa

/- Parts of the walks of schedule.Urgent, Next and Run: the credits' copy, the list of all indices, what Run computes. -/
import Derived.Test.YtmpeekkbmfbjeaaNextWalk
namespace Go.Proofs.Ytmpeekkbmfbjeaa
open Go.RowKit Go.Lib Go.Proofs.Ytmpeekkbmfbjeaa.P Go.Proofs.YtmpeekkbmfbjeaaW.PrintWords Go.Proofs.YtmpeekkbmfbjeaaW.PrintLast Go.Proofs.YtmpeekkbmfbjeaaW.PrintMore

def upto (n : Nat) : List Int := (List.range n).map (fun (i : Nat) => (i : Int))
theorem upto_succ (n : Nat) : upto (n + 1) = upto n ++ [(n : Int)] := by simp [upto, List.range_succ]
theorem upto_len (n : Nat) : (upto n).length = n := by simp [upto]
theorem rd_upto (n j : Nat) (h : j < n) : rd (upto n) (j : Int) = (j : Int) := by simp [rd, upto, List.getD_eq_getElem?_getD, h]
theorem mem_upto {n : Nat} {x : Int} (h : x ∈ upto n) : 0 ≤ x ∧ x < (n : Int) := by
  unfold upto at h
  obtain ⟨i, hi, rfl⟩ := List.mem_map.1 h
  have := List.mem_range.1 hi
  omega

theorem every_l0 (n : Nat) (hn : n ≤ 60) : ∀ (d k i : Nat), i + d = n → d < k → schedule_every.l0 k (upto i) (n : Int) (i : Int) = some (upto n)
  | 0, k, i, hd, hk => by
    obtain ⟨k, rfl⟩ : ∃ m, k = m + 1 := ⟨k - 1, by omega⟩
    obtain rfl : i = n := by omega
    rw [schedule_every.l0, if_neg (by omega)]
  | d + 1, k, i, hd, hk => by
    obtain ⟨k, rfl⟩ : ∃ m, k = m + 1 := ⟨k - 1, by omega⟩
    rw [schedule_every.l0, if_pos (by omega), if_pos (by rw [upto_len]; omega), ← upto_succ, show wrap64 ((i : Int) + 1) = ((i + 1 : Nat) : Int) from wrap_in _ (by omega) (by omega)]
    exact every_l0 n hn d k (i + 1) (by omega) (by omega)
theorem every_f (l : List S58) (h : l.length ≤ 60) : schedule_every.f 100 l = some (upto l.length) := every_l0 l.length h l.length 100 0 (by omega) (by omega)

theorem inL_upto (l : List S58) (h : l.length ≤ 60) : InL l (upto l.length) := by
  refine ⟨fun j hj => ?_, by rw [upto_len]; omega⟩
  rw [upto_len] at hj
  rw [rd_upto _ _ hj]
  omega

theorem inL_of {l : List S58} {left : List Int} (h : ∀ x ∈ left, 0 ≤ x ∧ x < (l.length : Int)) (hl : left.length ≤ 60) : InL l left := by
  refine ⟨fun j hj => ?_, by omega⟩
  have : rd left (j : Int) = left[j] := by simp [rd, List.getD_eq_getElem?_getD, hj]
  rw [this]
  exact h _ (List.getElem_mem hj)

theorem vOk_COk {cr : List Int} (h : vOk cr = true) : COk cr := by
  unfold vOk at h
  simp only [Bool.and_eq_true, decide_eq_true_eq, Bool.not_eq_true', List.any_eq_false] at h
  refine ⟨h.1, fun j hj => ?_⟩
  have e : rd cr (j : Int) = cr[j]'(by rw [h.1]; exact hj) := by simp [rd, List.getD_eq_getElem?_getD, h.1, hj]
  have := h.2 _ (List.getElem_mem (l := cr) (n := j) (by rw [h.1]; exact hj))
  unfold wrong at this
  simp only [Bool.or_eq_true, decide_eq_true_eq, not_or] at this
  rw [e]
  omega

theorem COk_map (cr : List Int) (h : cr.length = 5) : COk (cr.map clamp) := by
  refine ⟨by rw [List.length_map]; exact h, fun j hj => ?_⟩
  have e : rd (cr.map clamp) (j : Int) = clamp (cr[j]'(by rw [h]; exact hj)) := by simp [rd, List.getD_eq_getElem?_getD, h, hj]
  rw [e]
  unfold clamp
  omega
theorem nFold_topn (l : List S58) (left cr : List Int) : ∀ n, 0 ≤ (nFold l left cr n).2.2
  | 0 => Int.le_refl _
  | n + 1 => by
    have ih := nFold_topn l left cr n
    simp only [nFold, nRound]
    split
    · exact ih
    · show 0 ≤ ite _ _ _
      split
      · omega
      · exact ih
theorem nFold_top0 (l : List S58) (left cr : List Int) : ∀ n, (nFold l left cr n).2.2 = 0 → (nFold l left cr n).1 = cr
  | 0, _ => rfl
  | n + 1, h => by
    have ht := nFold_topn l left cr n
    simp only [nFold, nRound] at h ⊢
    by_cases c : bestC l left ((n : Int) + 1) < 0
    · rw [if_pos c] at h ⊢
      exact nFold_top0 l left cr n h
    · rw [if_neg c] at h
      exfalso
      simp only [] at h
      split at h
      · omega
      · rename_i h2
        exact h2 (Or.inl h)
theorem nxt_COk {l : List S58} {left cr : List Int} (h : COk cr) : COk (nxt l left cr).1 := by
  unfold nxt
  split
  · exact h
  · split
    · rename_i h0
      rw [nFold_top0 _ _ _ _ h0]
      exact h
    · exact COk_map _ (by rw [List.length_set]; exact (nFold_bd l left cr h 5 (Nat.le_refl _)).len)

/-- Run's rounds: what is chosen, as long as the budget allows. -/
def runO (l : List S58) (budget : Int) : Nat → List Int → List Int → List Int → Option (List Int × List Int)
  | 0, _, _, _ => none
  | n + 1, cr, left, picks => if (picks.length : Int) < budget then
      (if (nxt l left cr).2 < 0 then some ((nxt l left cr).1, picks) else runO l budget n (nxt l left cr).1 (left.filter fun i => !(i == (nxt l left cr).2)) (picks ++ [(nxt l left cr).2]))
    else some (cr, picks)

/-! ### rows -/
theorem Crd.C {w : World} {g n : Nat} {cr : List Int} (h : Crd w g n cr) (hl : cr.length ≤ 100) : Kd.C (Kd.int .i64) w (some ⟨g, 0, none⟩) cr.length cr := by
  refine ⟨rfl, by omega, fun _ => ⟨_, rfl, fun j p hp => ⟨[.int .i64 p], rfl, rfl, fun i u hu => ?_⟩⟩⟩
  have hj := (List.getElem?_eq_some_iff.1 hp).1
  cases i with
  | zero =>
    simp at hu
    subst hu
    rw [show j * (Kd.int .i64).sz + 0 = j from by show j * 1 + 0 = j; omega, add_plain, h.cell j hj]
    simp [rd, List.getD_eq_getElem?_getD, hp]
  | succ i => simp at hu
theorem Crd.keepC {w : World} {g n b : Nat} {cr : List Int} (h : Crd w g n cr) (hl : cr.length ≤ 100) (hb : g ≠ b) : ∀ W, KeepBut w W b none → Kd.C (Kd.int .i64) W (some ⟨g, 0, none⟩) cr.length cr := fun W hW => by
  refine Crd.C (n := n) ?_ hl
  have hlt := h.lt
  obtain ⟨cs, h1, h2⟩ := h
  exact ⟨cs, (hW.2 g hlt hb (by simp)).trans h1, h2⟩
theorem Crd.R {w : World} {g n base : Nat} {cr : List Int} (h : Crd w g n cr) (hn : n ≤ maxLen) (hb : base ≤ g) : Kd.R (Kd.int .i64) 3 w base (fun _ => True) (.slice (some ⟨g, 0, none⟩) cr.length n) cr := by
  obtain ⟨cs, h1, h2, h3, h4⟩ := h
  refine Kd.R_of_own ?_ (fun _ _ => trivial)
  refine ⟨by rw [encs_length]; omega, .inr ⟨g, n, cs, rfl, hb, h1, h4, hn, by omega, ?_⟩⟩
  rw [Nat.mul_one]
  exact h3
theorem Crd.of_own {w : World} {base : Nat} {v : Value} {cr : List Int} (h : w.ownsRow base 3 1 v cr.length (cr.map (Value.int .i64))) (hpos : 0 < cr.length) : ∃ g n, v = .slice (some ⟨g, 0, none⟩) cr.length n ∧ base ≤ g ∧ n ≤ maxLen ∧ Crd w g n cr := by
  rcases h.2 with ⟨_, h0⟩ | ⟨g, cap, cur, rfl, hg, hh, h1, h2, h3, h4⟩
  · omega
  · exact ⟨g, cap, rfl, hg, h2, cur, hh, by omega, by rw [Nat.mul_one] at h4; exact h4, h1⟩
theorem Crd.of_R {w : World} {base : Nat} {ok : Nat → Prop} {v : Value} {cr : List Int} (h : Kd.R (Kd.int .i64) 3 w base ok v cr) (hpos : 0 < cr.length) : ∃ g n, v = .slice (some ⟨g, 0, none⟩) cr.length n ∧ base ≤ g ∧ n ≤ maxLen ∧ Crd w g n cr := Crd.of_own (Kd.own_of_R h) hpos

theorem clone5 (A : Option Addr) (c : Nat) (cr : List Int) (w : World) (hC : Kd.C (Kd.int .i64) w A cr.length cr) (h5 : cr.length = 5) :
    Calls Try.prog 24 #[.slice A 5 c] w fun e w' => ∃ g n, e = .returned (.slice (some ⟨g, 0, none⟩) 5 n) ∧ w.heap.size ≤ g ∧ n ≤ maxLen ∧ Crd w' g n cr ∧ Below w.heap.size w w' := by
  obtain ⟨ad, rfl, hcell⟩ := (Kd.reads_of_C (d := (0 : Int)) hC).2.2 (by omega)
  have h0 := hcell 0 (by omega)
  obtain ⟨b, o, s⟩ := ad
  obtain rfl : s = none := by
    cases s with
    | none => rfl
    | some s => simp [World.cell?, Addr.add] at h0; split at h0 <;> simp at h0
  obtain ⟨i0, hi, hz0, hz1, hz2⟩ := info_parts info3
  refine (AnyE.slices_Clone Try.laysCl i0 _ 1 8 hi hz0 hz1 hz2 rfl (by decide) (fun w => Try.sizeOf3 w) b o 5 c (cr.map (Value.int .i64)) w (by simp [h5]) (by unfold maxLen; omega) (by omega) ?_ ?_).mono ?_
  · intro j u hu
    have hj : j < cr.length := by have := (List.getElem?_eq_some_iff.1 hu).1; simpa using this
    have := hcell j hj
    rw [Addr.add_lit] at this
    rw [this]
    rw [List.getElem?_map, List.getElem?_eq_getElem hj] at hu
    rw [← hu]
    simp [List.getD_eq_getElem?_getD, hj]
  · intro u hu
    obtain ⟨x, _, rfl⟩ := List.mem_map.1 hu
    rfl
  · rintro e w' ⟨v', rfl, ho, hne, hb⟩
    obtain ⟨g, n, e1, hg, hn, hc⟩ := Crd.of_own (cr := cr) (by rw [h5]; exact ho) (by omega)
    rw [h5] at e1
    exact ⟨g, n, by rw [e1], hg, hn, hc, hb⟩

end Go.Proofs.Ytmpeekkbmfbjeaa

/- Words for the plain laws: the reference's Valid and Same. -/
import Derived.Test.YtmpeekkbmfbjeaaPx4
import Derived.Test.YtmpeekkbmfbjeaaOwnPure
import Derived.Test.YtmpeekkbmfbjeaaRunLaws
import Derived.Test.YtmpeekkbmfbjeaaGiven
namespace Go.Proofs.Ytmpeekkbmfbjeaa
open Go.RowKit Go.Proofs.Ytmpeekkbmfbjeaa.P Go.Proofs.YtmpeekkbmfbjeaaW.PrintWords

theorem same_l0 (a : List Int) (ha : a.length ≤ 1000) : ∀ (d k i : Nat), i + d = a.length → d < k → solventref37_Same.l0 k a a (i : Int) = some true
  | 0, k, i, hd, hk => by
    obtain ⟨k, rfl⟩ : ∃ m, k = m + 1 := ⟨k - 1, by omega⟩
    rw [solventref37_Same.l0, if_neg (by omega)]
  | d + 1, k, i, hd, hk => by
    obtain ⟨k, rfl⟩ : ∃ m, k = m + 1 := ⟨k - 1, by omega⟩
    rw [solventref37_Same.l0, if_pos (by omega), if_pos (by omega), if_pos (by omega), if_pos rfl, show wrap64 ((i : Int) + 1) = ((i + 1 : Nat) : Int) from wrap_in _ (by omega) (by omega)]
    exact same_l0 a ha d k (i + 1) (by omega) (by omega)
theorem same_self (a : List Int) (ha : a.length ≤ 1000) (k : Nat) (hk : a.length < k) : solventref37_Same.f k a a = some true := by
  unfold solventref37_Same.f
  rw [if_pos rfl]
  exact same_l0 a ha a.length k 0 (by omega) hk

theorem valid_l0 (cr : List Int) (h5 : cr.length = 5) : ∀ (d k i : Nat), i + d = 5 → d < k → solventref37_Valid.l0 k cr (i : Int) = some (!(cr.drop i).any wrong)
  | 0, k, i, hd, hk => by
    obtain ⟨k, rfl⟩ : ∃ m, k = m + 1 := ⟨k - 1, by omega⟩
    rw [solventref37_Valid.l0, if_neg (by omega), List.drop_eq_nil_of_le (by omega)]
    rfl
  | d + 1, k, i, hd, hk => by
    obtain ⟨k, rfl⟩ : ∃ m, k = m + 1 := ⟨k - 1, by omega⟩
    have hi : i < cr.length := by omega
    have e : rd cr (i : Int) = cr[i] := by simp [rd, List.getD_eq_getElem?_getD, hi]
    rw [solventref37_Valid.l0, if_pos (by omega), if_pos (by omega), if_pos (by omega), e, List.drop_eq_getElem_cons hi, List.any_cons]
    by_cases c1 : cr[i] < -1000
    · rw [if_pos c1]
      have : wrong cr[i] = true := by unfold wrong; simp [c1]
      rw [this]; rfl
    · rw [if_neg c1]
      by_cases c2 : cr[i] > 1000
      · rw [if_pos c2]
        have : wrong cr[i] = true := by unfold wrong; simp; omega
        rw [this]; rfl
      · rw [if_neg c2, show wrap64 ((i : Int) + 1) = ((i + 1 : Nat) : Int) from wrap_in _ (by omega) (by omega), valid_l0 cr h5 d k (i + 1) (by omega) (by omega)]
        have : wrong cr[i] = false := by unfold wrong; simp; omega
        rw [this]; rfl
theorem valid_f (cr : List Int) (k : Nat) (hk : 5 < k) : solventref37_Valid.f k cr = some (vOk cr) := by
  unfold solventref37_Valid.f vOk
  by_cases h : cr.length = 5
  · have h0 := valid_l0 cr h 5 k 0 rfl hk
    rw [if_pos (by omega), show solventref37_Valid.l0 k cr 0 = _ from h0, decide_eq_true h, List.drop_zero, Bool.true_and]
  · rw [if_neg (by omega), decide_eq_false h, Bool.false_and]

theorem run_f (cr : List Int) (l : List S58) (b : Int) (hv : vOk cr = true) (hb : 0 ≤ b) (hl : l.length ≤ 60) : ∃ c P left', runO l b 61 cr (upto l.length) [] = some (c, P) ∧ schedule_Run.f cr l b = some (c, P, 0) ∧ RP l left' P ∧ ((∀ x ∈ left', canP (rd_T58 l x) = false) ∨ ¬ (P.length : Int) < b) := by
  obtain ⟨⟨c, P⟩, h⟩ := runO_some l b 61 cr (upto l.length) [] (by rw [upto_len]; omega)
  obtain ⟨left', h1, h2⟩ := run_end l b 61 cr _ [] c P h (RP.start l) (vOk_COk hv)
  refine ⟨c, P, left', h, ?_, h1, h2⟩
  unfold schedule_Run.f
  rw [if_pos ⟨hv, by omega⟩, if_pos hl, h]
  rfl

end Go.Proofs.Ytmpeekkbmfbjeaa

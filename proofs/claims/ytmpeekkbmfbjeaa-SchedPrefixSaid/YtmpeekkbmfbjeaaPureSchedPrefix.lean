/- The law SchedPrefix, plainly. -/
import Derived.Test.YtmpeekkbmfbjeaaPx10
import Derived.Test.YtmpeekkbmfbjeaaLawLib
namespace Go.Proofs.Ytmpeekkbmfbjeaa
open Go.RowKit Go.Proofs.Ytmpeekkbmfbjeaa.P Go.Proofs.YtmpeekkbmfbjeaaW.PrintWords Go.Proofs.YtmpeekkbmfbjeaaW.PrintMore

theorem Pure.SchedPrefix (cr : List Int) (l : List S52) (a : Int) (ha : 0 ≤ a ∧ a < 256) (b : Int) (hb : 0 ≤ b ∧ b < 256) : ∃ k, solventlaw37_SchedPrefix.f k cr l a b = some true := by
  refine ⟨200, ?_⟩
  unfold solventlaw37_SchedPrefix.f
  have san : ∀ k x0 x1 x2 x3, solventlaw37_SchedPrefix.j0 (k + 1) x0 x1 x2 x3 true = some true := fun k x0 x1 x2 x3 => by rw [solventlaw37_SchedPrefix.j0, if_pos rfl]; rfl
  by_cases h60 : (l.length : Int) > 60
  · rw [if_pos h60]; exact san _ _ _ _ _
  · rw [if_neg h60, valid_f cr 200 (by decide), Option.bind_some]
    by_cases hv : vOk cr = true
    · rw [if_pos hv]
      by_cases hab : a > b
      · rw [decide_eq_true hab]; exact san _ _ _ _ _
      · rw [decide_eq_false hab, solventlaw37_SchedPrefix.j0, if_neg (by decide), own_f l (by omega) _ (by omega), Option.bind_some, wrap_in a (by omega) (by omega), wrap_in b (by omega) (by omega)]
        have hl : (l.map tOwn).length ≤ 60 := by rw [List.length_map]; omega
        generalize l.map tOwn = l2 at hl ⊢
        obtain ⟨c1, P, _, r1, f1, p1, _⟩ := run_f cr l2 a hv ha.1 hl
        obtain ⟨c2, Q, _, r2, f2, p2, _⟩ := run_f cr l2 b hv hb.1 hl
        obtain ⟨t1, t2⟩ := run_two l2 a b (by omega) 61 cr _ [] c1 P c2 Q (by simpa using ha.1) r1 r2
        have hp := p1.len
        rw [f1, Option.bind_some, Option.bind_some, f2, Option.bind_some]
        have hle : (P.length : Int) ≤ (Q.length : Int) := by have := t1.length_le; omega
        have htk : Q.take P.length = P := by
          obtain ⟨t, rfl⟩ := t1
          simp
        simp only [if_true]
        rw [show solventlaw37_sanity.f = some true from rfl, Option.bind_some, if_pos rfl, if_pos hle, if_pos (by omega), Int.toNat_natCast, htk, same_self P (by omega) _ (by omega), Option.bind_some, if_pos rfl]
        congr 1
        rw [beq_iff_eq, t2]
        unfold mn
        split <;> omega
    · rw [if_neg hv]; exact san _ _ _ _ _

end Go.Proofs.Ytmpeekkbmfbjeaa

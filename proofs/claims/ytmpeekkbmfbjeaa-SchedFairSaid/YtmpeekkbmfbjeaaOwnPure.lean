/- The law's own copy of the tasks, plainly. -/
import Derived.Test.YtmpeekkbmfbjeaaPx2
import Derived.Test.YtmpeekkbmfbjeaaRunPure
namespace Go.Proofs.Ytmpeekkbmfbjeaa
open Go.RowKit Go.Proofs.Ytmpeekkbmfbjeaa.P Go.Proofs.YtmpeekkbmfbjeaaW.PrintWords

def tOwn (t : S52) : S58 := ⟨t.f0, ⟨t.f1.f0, t.f1.f1⟩, t.f2, t.f3⟩
theorem own_l0 (l : List S52) (hl : l.length ≤ 1000) : ∀ (d k i : Nat), i + d = l.length → d < k → solventlaw37_own.l0 k ((l.take i).map tOwn) l (l.length : Int) (i : Int) = some (l.map tOwn)
  | 0, k, i, hd, hk => by
    obtain ⟨k, rfl⟩ : ∃ m, k = m + 1 := ⟨k - 1, by omega⟩
    obtain rfl : i = l.length := by omega
    rw [solventlaw37_own.l0, if_neg (by omega), List.take_length]
  | d + 1, k, i, hd, hk => by
    obtain ⟨k, rfl⟩ : ∃ m, k = m + 1 := ⟨k - 1, by omega⟩
    have hi : i < l.length := by omega
    have e : rd_T52 l (i : Int) = l[i] := by simp [rd_T52, List.getD_eq_getElem?_getD, hi]
    rw [solventlaw37_own.l0, if_pos (by omega), if_pos (by omega), if_pos (by omega), if_pos (by simp; omega), e, show wrap64 ((i : Int) + 1) = ((i + 1 : Nat) : Int) from wrap_in _ (by omega) (by omega)]
    have e2 : (l.take i).map tOwn ++ [tOwn l[i]] = (l.take (i + 1)).map tOwn := by rw [List.take_succ_eq_append_getElem hi, List.map_append]; rfl
    exact (congrArg (fun z => solventlaw37_own.l0 k z l (l.length : Int) ((i + 1 : Nat) : Int)) e2).trans (own_l0 l hl d k (i + 1) (by omega) (by omega))
theorem own_f (l : List S52) (hl : l.length ≤ 1000) (k : Nat) (hk : l.length < k) : solventlaw37_own.f k l = some (l.map tOwn) := own_l0 l hl l.length k 0 (by omega) hk

end Go.Proofs.Ytmpeekkbmfbjeaa

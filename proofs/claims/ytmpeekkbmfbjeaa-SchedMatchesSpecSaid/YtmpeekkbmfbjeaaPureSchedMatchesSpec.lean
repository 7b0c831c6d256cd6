/- The law SchedMatchesSpec, plainly. -/
import Derived.Test.YtmpeekkbmfbjeaaRxNext
import Derived.Test.YtmpeekkbmfbjeaaLawLib
namespace Go.Proofs.Ytmpeekkbmfbjeaa
open Go.RowKit Go.Proofs.Ytmpeekkbmfbjeaa.P Go.Proofs.YtmpeekkbmfbjeaaW.PrintWords Go.Proofs.YtmpeekkbmfbjeaaW.PrintMore

theorem leftOf_rep (n : Nat) : leftOf n (List.replicate n false) = upto n := by
  unfold leftOf
  rw [List.filter_eq_self]
  intro x _
  have : rdOf false (List.replicate n false) x = false := by
    unfold rdOf
    rw [List.getD_eq_getElem?_getD, List.getElem?_replicate]
    split <;> rfl
  rw [this]; rfl
theorem weightR_f (a : Int) (k : Nat) (hk : 0 < k) : solventref37_Weight.f k a = some (wgt a) := by
  obtain ⟨k, rfl⟩ : ∃ m, k = m + 1 := ⟨k - 1, by omega⟩
  unfold solventref37_Weight.f wgt
  by_cases h1 : a = 1
  · simp [h1]
  · rw [if_neg h1, if_neg h1]
    by_cases h2 : a = 2
    · simp [h2, solventref37_Weight.j0]
    · rw [if_neg h2, if_neg h2, solventref37_Weight.j0]
      by_cases h3 : a = 3
      · simp [h3]
      · simp only [beq_iff_eq, h3, if_false]
        (repeat' split) <;> rfl

theorem Pure.SchedMatchesSpec (cr : List Int) (l : List S52) (a : Int) : ∃ k, solventlaw37_SchedMatchesSpec.f k cr l a = some true := by
  refine ⟨200, ?_⟩
  unfold solventlaw37_SchedMatchesSpec.f
  by_cases h60 : (l.length : Int) > 60
  · rw [if_pos h60]; rfl
  · have hl : l.length ≤ 60 := by omega
    have hm : (l.map tOwn).length = l.length := List.length_map ..
    have san : solventlaw37_sanity.f = some true := rfl
    have hu : schedule_Urgent.f (l.map tOwn) = some (bestU (l.map tOwn) (upto l.length)) := by unfold schedule_Urgent.f; rw [hm, if_pos hl]
    have hru : solventref37_Urgent.f 200 l = some (bestU (l.map tOwn) (upto l.length)) := by
      unfold solventref37_Urgent.f
      rw [if_pos (by omega), if_pos (by omega), Int.toNat_natCast, bst_urg l hl _ (by simp) 200 (by decide), leftOf_rep]
      rfl
    have hv : schedule_Valid.f cr = some (vOk cr) := rfl
    rw [if_neg h60, own_f l (by omega) 200 (by omega), Option.bind_some]
    have fin : ∀ (R : List Int × Int × Int), schedule_Next.f cr (l.map tOwn) = some R → solventref37_Next.f 200 cr l = some R → R.1.length ≤ 100 →
      ((schedule_Next.f cr (l.map tOwn)).bind fun bt231 => ((solventref37_Next.f 200 cr l).bind fun bt237 => ((solventlaw37_sanity.f).bind fun t242 => (if t242 = true then ((schedule_Valid.f cr).bind fun t243 => ((solventref37_Valid.f 200 cr).bind fun t244 => (if (t243 == t244) = true then ((schedule_Weight.f a).bind fun t245 => ((solventref37_Weight.f 200 a).bind fun t246 => (if t245 = t246 then ((some (l.map tOwn)).bind fun t247 => ((schedule_Urgent.f t247).bind fun t250 => ((solventref37_Urgent.f 200 l).bind fun t251 => (if t250 = t251 then ((solventref37_Same.f 200 bt231.1 bt237.1).bind fun t252 => (if t252 = true then (if bt231.2.1 = bt237.2.1 then (some (bt231.2.2 == bt237.2.2)) else (some false)) else (some false))) else (some false))))) else (some false)))) else (some false)))) else (some false))))) = some true := fun R e1 e2 hR => by
      rw [e1, Option.bind_some, e2, Option.bind_some, san, Option.bind_some, if_pos rfl, hv, Option.bind_some, valid_f cr 200 (by decide), Option.bind_some, if_pos (by simp), show schedule_Weight.f a = some (wgt a) from rfl, Option.bind_some, weightR_f a 200 (by decide), Option.bind_some, if_pos rfl,
        Option.bind_some, hu, Option.bind_some, hru, Option.bind_some, if_pos rfl, same_self R.1 (by omega) 200 (by omega), Option.bind_some, if_pos rfl, if_pos rfl]
      simp
    by_cases hvk : vOk cr = true
    · have hok := vOk_COk hvk
      refine fin ((nxt (l.map tOwn) (upto l.length) cr).1, (nxt (l.map tOwn) (upto l.length) cr).2, 0) ?_ ?_ ?_
      · unfold schedule_Next.f
        rw [if_pos hvk, hm, if_pos hl]
      · unfold solventref37_Next.f
        rw [valid_f cr 200 (by decide), Option.bind_some, if_pos hvk, if_pos (by have := hok.1; simp; omega), if_pos (by omega), if_pos (by omega), Int.toNat_natCast, List.nil_append]
        unfold solventref37_step.f
        rw [if_pos ⟨hok, hl, by simp⟩, Option.bind_some, leftOf_rep]
      · have := (nxt_COk (l := l.map tOwn) (left := upto l.length) hok).1
        show (nxt (l.map tOwn) (upto l.length) cr).1.length ≤ 100
        omega
    · refine fin ([], 0, 1) ?_ ?_ (by simp)
      · unfold schedule_Next.f
        rw [if_neg hvk]
      · unfold solventref37_Next.f
        rw [valid_f cr 200 (by decide), Option.bind_some, if_neg hvk]

end Go.Proofs.Ytmpeekkbmfbjeaa

/- The law SchedBalanced, plainly: behind each call the credits add up to nothing and stay small. -/
import Derived.Test.YtmpeekkbmfbjeaaPx3
import Derived.Test.YtmpeekkbmfbjeaaCredit
import Derived.Test.YtmpeekkbmfbjeaaOwnPure
namespace Go.Proofs.Ytmpeekkbmfbjeaa
open Go.RowKit Go.Proofs.Ytmpeekkbmfbjeaa.P Go.Proofs.YtmpeekkbmfbjeaaW.PrintWords

theorem five {cr : List Int} (h : cr.length = 5) : ∃ a b c d e, cr = [a, b, c, d, e] := by
  match cr, h with
  | [a, b, c, d, e], _ => exact ⟨a, b, c, d, e, rfl⟩
theorem wr (x : Int) (h : -1000 ≤ x ∧ x ≤ 1000) : wrap64 x = x := wrap_in _ (by omega) (by omega)

theorem bal_l1 (a b c d e : Int) (ha : -20 ≤ a ∧ a ≤ 20) (hb : -20 ≤ b ∧ b ≤ 20) (hc : -20 ≤ c ∧ c ≤ 20) (hd : -20 ≤ d ∧ d ≤ 20) (he : -20 ≤ e ∧ e ≤ 20) (hs : a + b + c + d + e = 0) (k : Nat) (ls : List (List S52)) (n i : Int) :
    solventlaw37_SchedBalanced.l1 (k + 6) 0 ls n i [a, b, c, d, e] 5 0 [a, b, c, d, e] = solventlaw37_SchedBalanced.l0 k ls n (wrap64 (i + 1)) [a, b, c, d, e] := by
  rw [solventlaw37_SchedBalanced.l1, if_pos (by decide), if_pos (by decide), if_pos (by show (0 : Int) < 5; decide), show rd [a, b, c, d, e] 0 = a from rfl, if_neg (by omega), if_neg (by omega), wr (0 + a) (by omega), show wrap64 (0 + 1) = 1 from wrap_in _ (by decide) (by decide),
    solventlaw37_SchedBalanced.l1, if_pos (by decide), if_pos (by decide), if_pos (by show (1 : Int) < 5; decide), show rd [a, b, c, d, e] 1 = b from rfl, if_neg (by omega), if_neg (by omega), wr (0 + a + b) (by omega), show wrap64 (1 + 1) = 2 from wrap_in _ (by decide) (by decide),
    solventlaw37_SchedBalanced.l1, if_pos (by decide), if_pos (by decide), if_pos (by show (2 : Int) < 5; decide), show rd [a, b, c, d, e] 2 = c from rfl, if_neg (by omega), if_neg (by omega), wr (0 + a + b + c) (by omega), show wrap64 (2 + 1) = 3 from wrap_in _ (by decide) (by decide),
    solventlaw37_SchedBalanced.l1, if_pos (by decide), if_pos (by decide), if_pos (by show (3 : Int) < 5; decide), show rd [a, b, c, d, e] 3 = d from rfl, if_neg (by omega), if_neg (by omega), wr (0 + a + b + c + d) (by omega), show wrap64 (3 + 1) = 4 from wrap_in _ (by decide) (by decide),
    solventlaw37_SchedBalanced.l1, if_pos (by decide), if_pos (by decide), if_pos (by show (4 : Int) < 5; decide), show rd [a, b, c, d, e] 4 = e from rfl, if_neg (by omega), if_neg (by omega), wr (0 + a + b + c + d + e) (by omega), show wrap64 (4 + 1) = 5 from wrap_in _ (by decide) (by decide),
    solventlaw37_SchedBalanced.l1, if_neg (by decide), if_pos (by omega)]

theorem bal_l0 (ls : List (List S52)) (hl : ls.length ≤ 40) : ∀ (d k i : Nat) (cr : List Int), i + d = ls.length → 10 * d + 100 < k → BalL cr → solventlaw37_SchedBalanced.l0 k ls (ls.length : Int) (i : Int) cr = some true
  | 0, k, i, cr, hd, hk, hc => by
    obtain ⟨k, rfl⟩ : ∃ m, k = m + 1 := ⟨k - 1, by omega⟩
    rw [solventlaw37_SchedBalanced.l0, if_neg (by omega)]
    rfl
  | d + 1, k, i, cr, hd, hk, hc => by
    obtain ⟨k, rfl⟩ : ∃ m, k = m + 8 := ⟨k - 8, by omega⟩
    rw [solventlaw37_SchedBalanced.l0, if_pos (by omega), if_pos (by omega), if_pos (by omega)]
    by_cases h20 : ((rd_L8 ls (i : Int)).length : Int) > 20
    · rw [if_pos h20]
      rfl
    · rw [if_neg h20]
      have hlen : (rd_L8 ls (i : Int)).length ≤ 20 := by omega
      rw [own_f _ (by omega) _ (by omega), Option.bind_some]
      generalize hl2 : (rd_L8 ls (i : Int)).map tOwn = l2
      have h60 : l2.length ≤ 60 := by rw [← hl2, List.length_map]; omega
      have hv : vOk cr = true := by
        unfold vOk
        simp only [Bool.and_eq_true, decide_eq_true_eq, Bool.not_eq_true', List.any_eq_false]
        refine ⟨hc.1, fun x hx => ?_⟩
        obtain ⟨j, hj, rfl⟩ := List.getElem_of_mem hx
        have := hc.ok.2 j (by rw [← hc.1]; exact hj)
        have e : rd cr (j : Int) = cr[j] := by simp [rd, List.getD_eq_getElem?_getD, hj]
        rw [e] at this
        unfold wrong
        simp
        omega
      have hn := hc.next l2 (upto l2.length)
      rw [show schedule_Next.f cr l2 = some ((nxt l2 (upto l2.length) cr).1, (nxt l2 (upto l2.length) cr).2, 0) from by unfold schedule_Next.f; rw [if_pos hv, if_pos h60], Option.bind_some]
      simp only [if_true]
      generalize (nxt l2 (upto l2.length) cr).1 = cr2 at hn ⊢
      obtain ⟨a, b, c, d', e, rfl⟩ := five hn.1
      have h0 := bal_bound hn.2 0 (by decide)
      have h1 := bal_bound hn.2 1 (by decide)
      have h2 := bal_bound hn.2 2 (by decide)
      have h3 := bal_bound hn.2 3 (by decide)
      have h4 := bal_bound hn.2 4 (by decide)
      have hs := hn.2.1
      have hs2 : a + b + c + d' + e = 0 := hs
      rw [show ((([a, b, c, d', e] : List Int).length : Int) != 5) = false from rfl, solventlaw37_SchedBalanced.j1, if_neg (by decide)]
      have := bal_l1 a b c d' e h0 h1 h2 h3 h4 hs2 k ls (ls.length : Int) (i : Int)
      rw [show (([a, b, c, d', e] : List Int).length : Int) = 5 from rfl, this, show wrap64 ((i : Int) + 1) = ((i + 1 : Nat) : Int) from wrap_in _ (by omega) (by omega)]
      exact bal_l0 ls hl d k (i + 1) _ (by omega) (by omega) hn

theorem Pure.SchedBalanced (ls : List (List S52)) : ∃ k, solventlaw37_SchedBalanced.f k ls = some true := by
  refine ⟨1000, ?_⟩
  unfold solventlaw37_SchedBalanced.f
  by_cases h : (ls.length : Int) > 40
  · rw [if_pos h]; rfl
  · rw [if_neg h, show schedule_New.f = some [0, 0, 0, 0, 0] from rfl, Option.bind_some]
    exact bal_l0 ls (by omega) ls.length 1000 0 _ (by omega) (by omega) BalL.zero

end Go.Proofs.Ytmpeekkbmfbjeaa

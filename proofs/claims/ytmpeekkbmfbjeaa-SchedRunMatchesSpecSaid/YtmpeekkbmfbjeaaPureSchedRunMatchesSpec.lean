/- The law SchedRunMatchesSpec, plainly. -/
import Derived.Test.YtmpeekkbmfbjeaaRxRun
import Derived.Test.YtmpeekkbmfbjeaaLawLib
namespace Go.Proofs.Ytmpeekkbmfbjeaa
open Go.RowKit Go.Proofs.Ytmpeekkbmfbjeaa.P Go.Proofs.YtmpeekkbmfbjeaaW.PrintWords Go.Proofs.YtmpeekkbmfbjeaaW.PrintMore

theorem leftOf_rep' (n : Nat) : leftOf n (List.replicate n false) = upto n := by
  unfold leftOf
  rw [List.filter_eq_self]
  intro x _
  have : rdOf false (List.replicate n false) x = false := by
    unfold rdOf
    rw [List.getD_eq_getElem?_getD, List.getElem?_replicate]
    split <;> rfl
  rw [this]; rfl
theorem leftOf_set (n : Nat) (gone : List Bool) (hg : gone.length = n) (k : Int) (h0 : 0 ≤ k) (h1 : k < (n : Int)) : leftOf n (gone.set k.toNat true) = (leftOf n gone).filter fun i => !(i == k) := by
  unfold leftOf
  rw [List.filter_filter]
  refine List.filter_congr fun x hx => ?_
  have hx2 := mem_upto hx
  unfold rdOf
  rw [List.getD_eq_getElem?_getD, List.getD_eq_getElem?_getD, List.getElem?_set]
  by_cases e : x = k
  · subst e
    rw [if_pos rfl, if_pos (by omega)]
    simp
  · rw [if_neg (by omega)]
    simp [e]
theorem run_ref (l : List S52) (hl : l.length ≤ 60) (b : Int) : ∀ (n : Nat) (cr left picks c P : List Int) (gone : List Bool), runO (l.map tOwn) b n cr left picks = some (c, P) → left = leftOf l.length gone → gone.length = l.length → RP (l.map tOwn) left picks → COk cr →
    solventref37_Run.l0 n l b cr picks gone = some (c, P, 0)
  | 0, cr, left, picks, c, P, gone, h, _, _, _, _ => by simp [runO] at h
  | n + 1, cr, left, picks, c, P, gone, h, hlf, hg, hp, hok => by
    unfold runO at h
    rw [solventref37_Run.l0]
    by_cases hb : (picks.length : Int) < b
    · rw [if_pos hb] at h ⊢
      unfold solventref37_step.f
      rw [if_pos ⟨hok, hl, hg⟩, Option.bind_some, ← hlf]
      have hm : (l.map tOwn).length = l.length := List.length_map ..
      by_cases hk : (nxt (l.map tOwn) left cr).2 < 0
      · rw [if_pos hk] at h ⊢
        simp only [Option.some.injEq, Prod.mk.injEq] at h
        obtain ⟨rfl, rfl⟩ := h
        rfl
      · rw [if_neg hk] at h ⊢
        have hmem := nxt_mem hk
        have hin := hp.hin _ hmem
        rw [hm] at hin
        have hlen := hp.len
        rw [hm] at hlen
        show (if 0 ≤ (nxt (l.map tOwn) left cr).2 then _ else _) = _
        rw [if_pos hin.1, if_pos (by rw [hg]; exact hin.2), if_pos (by omega)]
        have hin2 : ∀ x ∈ left, 0 ≤ x ∧ x < ((l.map tOwn).length : Int) := hp.hin
        exact run_ref l hl b n _ _ _ c P _ h ((congrArg _ hlf).trans (leftOf_set _ _ hg _ hin.1 hin.2).symm) (by simp [hg]) (hp.step hmem (nxt_can hok hin2 hk)) (nxt_COk hok)
    · rw [if_neg hb] at h ⊢
      simp only [Option.some.injEq, Prod.mk.injEq] at h
      obtain ⟨rfl, rfl⟩ := h
      rfl

theorem run_cok (l : List S58) (b : Int) : ∀ (n : Nat) (cr left picks c P : List Int), runO l b n cr left picks = some (c, P) → COk cr → COk c
  | 0, cr, left, picks, c, P, h, _ => by simp [runO] at h
  | n + 1, cr, left, picks, c, P, h, hok => by
    unfold runO at h
    split at h
    · split at h
      · simp only [Option.some.injEq, Prod.mk.injEq] at h
        exact h.1 ▸ nxt_COk hok
      · exact run_cok l b n _ _ _ c P h (nxt_COk hok)
    · simp only [Option.some.injEq, Prod.mk.injEq] at h
      exact h.1 ▸ hok
theorem run_more (l : List S58) (b : Int) (m : Nat) : ∀ (n : Nat) (cr left picks : List Int) (R : List Int × List Int), runO l b n cr left picks = some R → runO l b (n + m) cr left picks = some R
  | 0, cr, left, picks, R, h => by simp [runO] at h
  | n + 1, cr, left, picks, R, h => by
    rw [show n + 1 + m = (n + m) + 1 by omega]
    unfold runO at h ⊢
    by_cases hb : (picks.length : Int) < b
    · rw [if_pos hb] at h ⊢
      by_cases hk : (nxt l left cr).2 < 0
      · rw [if_pos hk] at h ⊢; exact h
      · rw [if_neg hk] at h ⊢
        exact run_more l b m n _ _ _ R h
    · rw [if_neg hb] at h ⊢; exact h

theorem Pure.SchedRunMatchesSpec (cr : List Int) (l : List S52) (a : Int) : ∃ k, solventlaw37_SchedRunMatchesSpec.f k cr l a = some true := by
  refine ⟨201, ?_⟩
  unfold solventlaw37_SchedRunMatchesSpec.f
  by_cases h60 : (l.length : Int) > 60
  · rw [if_pos h60]; rfl
  · have hl : l.length ≤ 60 := by omega
    have hm : (l.map tOwn).length = l.length := List.length_map ..
    have san : solventlaw37_sanity.f = some true := rfl
    rw [if_neg h60, own_f l (by omega) 201 (by omega), Option.bind_some]
    have fin : ∀ (R : List Int × List Int × Int), schedule_Run.f cr (l.map tOwn) a = some R → solventref37_Run.f 201 cr l a = some R → R.1.length ≤ 100 → R.2.1.length ≤ 100 →
      ((schedule_Run.f cr (l.map tOwn) a).bind fun bt270 => ((solventref37_Run.f 201 cr l a).bind fun bt278 => ((solventlaw37_sanity.f).bind fun t285 => (if t285 = true then ((solventref37_Same.f 201 bt270.1 bt278.1).bind fun t286 => (if t286 = true then ((solventref37_Same.f 201 bt270.2.1 bt278.2.1).bind fun t287 => (if t287 = true then (some (bt270.2.2 == bt278.2.2)) else (some false))) else (some false))) else (some false))))) = some true := fun R e1 e2 h1 h2 => by
      rw [e1, Option.bind_some, e2, Option.bind_some, san, Option.bind_some, if_pos rfl, same_self R.1 (by omega) 201 (by omega), Option.bind_some, if_pos rfl, same_self R.2.1 (by omega) 201 (by omega), Option.bind_some, if_pos rfl]
      simp
    by_cases hvk : vOk cr = true
    · have hok := vOk_COk hvk
      by_cases hb : a < 0
      · refine fin ([], [], 1) ?_ ?_ (by simp) (by simp)
        · unfold schedule_Run.f
          rw [if_neg (fun h => h.2 hb)]
        · unfold solventref37_Run.f
          rw [valid_f cr 201 (by decide), Option.bind_some, if_pos hvk, decide_eq_true hb, solventref37_Run.j0, if_pos rfl]
      · obtain ⟨c, P, left', h1, h2, h3, _⟩ := run_f cr (l.map tOwn) a hvk (by omega) (by omega)
        have hc : COk c := run_cok (l.map tOwn) a 61 cr _ [] c P h1 hok
        refine fin (c, P, 0) h2 ?_ (by have := hc.1; show c.length ≤ 100; omega) (by have := h3.len; show P.length ≤ 100; omega)
        unfold solventref37_Run.f
        rw [valid_f cr 201 (by decide), Option.bind_some, if_pos hvk, decide_eq_false hb, solventref37_Run.j0, if_neg (by decide), if_pos (by have := hok.1; simp; omega), if_pos (by omega), if_pos (by omega), Int.toNat_natCast, List.nil_append]
        have h1' : runO (l.map tOwn) a 200 cr (upto (l.map tOwn).length) [] = some (c, P) := run_more (l.map tOwn) a 139 61 cr _ [] _ h1
        rw [hm] at h1'
        have hrp := RP.start (l.map tOwn)
        rw [hm] at hrp
        exact run_ref l hl a 200 cr _ [] c P _ h1' (leftOf_rep' _).symm (by simp) hrp hok
    · refine fin ([], [], 1) ?_ ?_ (by simp) (by simp)
      · unfold schedule_Run.f
        rw [if_neg (fun h => hvk h.1)]
      · unfold solventref37_Run.f
        rw [valid_f cr 201 (by decide), Option.bind_some, if_neg hvk, solventref37_Run.j0, if_pos rfl]

end Go.Proofs.Ytmpeekkbmfbjeaa

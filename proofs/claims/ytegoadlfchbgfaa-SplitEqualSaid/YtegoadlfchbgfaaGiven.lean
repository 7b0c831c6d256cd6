/- The Lean functions and the contracts of slices.Repeat and split.Weighted, in the form in which the printed texts take them. -/
import Derived.Test.YtegoadlfchbgfaaPx0
import Derived.Test.YtegoadlfchbgfaaRepeat
import Derived.Test.YtegoadlfchbgfaaWgtWalk
namespace Go.Proofs.Ytegoadlfchbgfaa.P
open Go.RowKit Go.Proofs.YtegoadlfchbgfaaW.PrintWords Go.Proofs.YtegoadlfchbgfaaW.PrintLast Go.Proofs.YtegoadlfchbgfaaW.PrintMore

def slices_Repeat_int_int.f (l0 : List Int) (a1 : Int) : Option (List Int) :=
  match l0 with
  | [v] => if 1 ≤ a1 ∧ a1 ≤ 65536 then some (List.replicate a1.toNat v) else none
  | _ => none

theorem slices_Repeat_int_int.calls (A0 : Option Addr) (c0 : Nat) (l0 : List Int) (a1 : Int) (r : List Int) (w : World) (hr0 : Kd.C (Kd.int .i64) w A0 l0.length l0) (_hc0 : l0.length ≤ c0) (h : slices_Repeat_int_int.f l0 a1 = some r) :
    Calls Try.prog 14 #[.slice A0 l0.length c0, .int .i64 a1] w fun e w' => ∃ v0_ : Value, e = .returned v0_ ∧ Kd.R (Kd.int .i64) 3 w' w.heap.size (fun _ => True) v0_ r ∧ Below w.heap.size w w' := by
  match l0, h, hr0 with
  | [v], h, hr0 =>
    unfold slices_Repeat_int_int.f at h
    by_cases hb : 1 ≤ a1 ∧ a1 ≤ 65536
    · simp only [if_pos hb] at h
      obtain rfl := Option.some.inj h
      obtain ⟨N, rfl⟩ := Int.eq_ofNat_of_zero_le (show 0 ≤ a1 by omega)
      obtain ⟨ad, rfl, hcell⟩ := (Kd.reads_of_C (d := (0 : Int)) hr0).2.2 (by simp)
      have h0 := hcell 0 (by simp)
      have e0 : ad.add 0 = ad := by unfold Addr.add; simp
      rw [e0] at h0
      refine (repeat_any v N c0 ad w (by omega) (by omega) h0 (World.block_lt_of_cell? _ _ h0)).mono ?_
      rintro e w' ⟨rfl, hb', hbel⟩
      rw [Int.toNat_natCast]
      refine ⟨_, rfl, Kd.R_of_own ?_ (fun _ _ => trivial), hbel⟩
      rw [List.length_replicate]
      have e1 : encs (Value.int .i64) (List.replicate N v) = List.replicate N (Value.int .i64 v) := by unfold encs; rw [List.map_replicate]
      rw [e1]
      exact ⟨by simp, .inr ⟨_, N, _, rfl, Nat.le_refl _, hb', Nat.le_refl _, by unfold maxLen; omega, by simp, by simp⟩⟩
    · simp only [if_neg hb] at h
      cases h
  | [], h, _ => cases h
  | _ :: _ :: _, h, _ => cases h

def split_Weighted.f (a0 : Int) (l1 : List Int) : Option (List Int × Int) :=
  if wOk a0 l1 = true then some (wList a0 l1, 0) else some ([], 1)

theorem sum_le_of_all : ∀ (ws : List Int), (ws.all fun x => decide (0 ≤ x)) = true → 0 ≤ ws.sum ∧ ∀ j, j < ws.length → 0 ≤ wAt ws j ∧ wAt ws j ≤ ws.sum
  | [], _ => ⟨by simp, fun j hj => by simp at hj⟩
  | x :: r, h => by
    simp only [List.all_cons, Bool.and_eq_true, decide_eq_true_eq] at h
    obtain ⟨h1, h2⟩ := sum_le_of_all r h.2
    rw [List.sum_cons]
    refine ⟨by omega, fun j hj => ?_⟩
    cases j with
    | zero => simp only [wAt, List.getD_cons_zero]; omega
    | succ j =>
      have := h2 j (by simpa using hj)
      simp only [wAt, List.getD_cons_succ] at this ⊢
      omega

theorem split_Weighted.calls (a0 : Int) (A1 : Option Addr) (c1 : Nat) (l1 : List Int) (r1 : List Int) (r2 : Int) (w : World) (hr1 : Kd.C (Kd.int .i64) w A1 l1.length l1) (hc1 : l1.length ≤ c1) (h : split_Weighted.f a0 l1 = some (r1, r2)) :
    Calls Try.prog 11 #[.int .i64 a0, .slice A1 l1.length c1] w fun e w' => ∃ v0_ : Value, e = .returned (.tuple #[v0_, .int .i64 r2]) ∧ Kd.R (Kd.int .i64) 3 w' w.heap.size (fun _ => True) v0_ r1 ∧ Below w.heap.size w w' := by
  have hs := sum_f l1
  unfold split_Weighted.f at h
  by_cases hok : wOk a0 l1 = true
  · rw [if_pos hok] at h
    simp only [Option.some.injEq, Prod.mk.injEq] at h
    obtain ⟨rfl, rfl⟩ := h
    simp only [wOk, Bool.and_eq_true, decide_eq_true_eq] at hok
    obtain ⟨⟨⟨⟨⟨h1, h2⟩, h3⟩, h4⟩, h5⟩, h6⟩ := hok
    rw [if_pos ⟨h1, h2, h3⟩] at hs
    have hl : 0 < l1.length := by
      rcases Nat.eq_zero_or_pos l1.length with e | e
      · rw [List.eq_nil_of_length_eq_zero e] at h4; simp at h4
      · exact e
    exact weighted_ok a0 A1 c1 l1 w hr1 hc1 l1.sum l1.length rfl rfl hl h1 h4 h3 h5 h6 (sum_le_of_all l1 h2).2 hs
  · rw [if_neg hok] at h
    simp only [Option.some.injEq, Prod.mk.injEq] at h
    obtain ⟨rfl, rfl⟩ := h
    refine weighted_err a0 A1 c1 l1 w hr1 hc1 _ hs ?_
    by_cases hv : l1.length ≤ 65536 ∧ (l1.all fun x => decide (0 ≤ x)) = true ∧ l1.sum ≤ 2147483647
    · rw [if_pos hv]
      have h0 := (sum_le_of_all l1 hv.2.1).1
      by_cases z : l1.sum = 0
      · exact .inl z
      · right
        refine Classical.byContradiction fun hh => hok ?_
        simp only [wOk, Bool.and_eq_true, decide_eq_true_eq]
        exact ⟨⟨⟨⟨⟨hv.1, hv.2.1⟩, hv.2.2⟩, by omega⟩, by omega⟩, by omega⟩
    · rw [if_neg hv]; exact .inl rfl

end Go.Proofs.Ytegoadlfchbgfaa.P

/- The Lean functions and the contracts of schedule.Urgent, Next and Run, in the form in which the printed texts take them. -/
import Derived.Test.YtmpeekkbmfbjeaaRunWalk
namespace Go.Proofs.Ytmpeekkbmfbjeaa.P
open Go.RowKit Go.Proofs.YtmpeekkbmfbjeaaW.PrintWords Go.Proofs.YtmpeekkbmfbjeaaW.PrintLast Go.Proofs.YtmpeekkbmfbjeaaW.PrintMore

def schedule_Urgent.f (l0 : List S58) : Option Int := if l0.length ≤ 60 then some (bestU l0 (upto l0.length)) else none
theorem schedule_Urgent.calls (A0 : Option Addr) (c0 : Nat) (l0 : List S58) (r : Int) (w : World) (hr0 : Kd.C k58 w A0 l0.length l0) (hc0 : l0.length ≤ c0) (h : schedule_Urgent.f l0 = some r) :
    Calls Try.prog 19 #[.slice A0 l0.length c0] w fun e w' => e = .returned (.int .i64 r) ∧ Below w.heap.size w w' := by
  unfold schedule_Urgent.f at h
  by_cases h60 : l0.length ≤ 60
  · rw [if_pos h60] at h
    obtain rfl := Option.some.inj h
    exact urgent_any A0 c0 l0 w hr0 hc0 h60
  · rw [if_neg h60] at h
    cases h

def schedule_Next.f (l0 : List Int) (l1 : List S58) : Option (List Int × Int × Int) :=
  if vOk l0 = true then (if l1.length ≤ 60 then some ((nxt l1 (upto l1.length) l0).1, (nxt l1 (upto l1.length) l0).2, 0) else none) else some ([], 0, 1)
theorem schedule_Next.calls (A0 : Option Addr) (c0 : Nat) (l0 : List Int) (A1 : Option Addr) (c1 : Nat) (l1 : List S58) (r0 : List Int) (r1 r2 : Int) (w : World) (hr0 : Kd.C (Kd.int .i64) w A0 l0.length l0) (_hc0 : l0.length ≤ c0) (hr1 : Kd.C k58 w A1 l1.length l1) (hc1 : l1.length ≤ c1)
    (h : schedule_Next.f l0 l1 = some (r0, r1, r2)) :
    Calls Try.prog 12 #[.agg #[.slice A0 l0.length c0], .slice A1 l1.length c1] w fun e w' => ∃ v0_ : Value, e = .returned (.tuple #[.agg #[v0_], .int .i64 r1, .int .i64 r2]) ∧ Kd.R (Kd.int .i64) 3 w' w.heap.size (fun _ => True) v0_ r0 ∧ Below w.heap.size w w' := by
  unfold schedule_Next.f at h
  by_cases hv : vOk l0 = true
  · rw [if_pos hv] at h
    by_cases h60 : l1.length ≤ 60
    · rw [if_pos h60] at h
      simp only [Option.some.injEq, Prod.mk.injEq] at h
      obtain ⟨rfl, rfl, rfl⟩ := h
      exact next_full A0 c0 l0 A1 c1 l1 w hr0 hr1 hc1 hv h60
    · rw [if_neg h60] at h
      cases h
  · rw [if_neg hv] at h
    simp only [Option.some.injEq, Prod.mk.injEq] at h
    obtain ⟨rfl, rfl, rfl⟩ := h
    refine (next_err A0 c0 l0 A1 c1 l1.length w hr0 (by simpa using hv)).mono ?_
    rintro e w' ⟨rfl, hb⟩
    exact ⟨_, rfl, Kd.R_nil _ _ _ _ _, hb⟩

def schedule_Run.f (l0 : List Int) (l1 : List S58) (a2 : Int) : Option (List Int × List Int × Int) :=
  if vOk l0 = true ∧ ¬ a2 < 0 then (if l1.length ≤ 60 then (runO l1 a2 61 l0 (upto l1.length) []).bind fun r => some (r.1, r.2, 0) else none) else some ([], [], 1)
theorem schedule_Run.calls (A0 : Option Addr) (c0 : Nat) (l0 : List Int) (A1 : Option Addr) (c1 : Nat) (l1 : List S58) (a2 : Int) (r0 r1 : List Int) (r2 : Int) (w : World) (hr0 : Kd.C (Kd.int .i64) w A0 l0.length l0) (_hc0 : l0.length ≤ c0) (hr1 : Kd.C k58 w A1 l1.length l1) (hc1 : l1.length ≤ c1)
    (h : schedule_Run.f l0 l1 a2 = some (r0, r1, r2)) :
    Calls Try.prog 22 #[.agg #[.slice A0 l0.length c0], .slice A1 l1.length c1, .int .i64 a2] w fun e w' => ∃ v0_ v1_ : Value, e = .returned (.tuple #[.agg #[v0_], v1_, .int .i64 r2]) ∧ Kd.R (Kd.int .i64) 3 w' w.heap.size (fun k_ => some k_ ≠ (v1_ : Value).ownBlock) v0_ r0 ∧ Kd.R (Kd.int .i64) 3 w' w.heap.size (fun k_ => some k_ ≠ (v0_ : Value).ownBlock) v1_ r1 ∧ Below w.heap.size w w' := by
  unfold schedule_Run.f at h
  by_cases hv : vOk l0 = true ∧ ¬ a2 < 0
  · rw [if_pos hv] at h
    by_cases h60 : l1.length ≤ 60
    · rw [if_pos h60] at h
      obtain ⟨R, hR, h⟩ := Option.bind_eq_some_iff.1 h
      simp only [Option.some.injEq, Prod.mk.injEq] at h
      obtain ⟨rfl, rfl, rfl⟩ := h
      exact run_full A0 c0 l0 A1 c1 l1 a2 R w hr0 hr1 hc1 hv.1 hv.2 h60 hR
    · rw [if_neg h60] at h
      cases h
  · rw [if_neg hv] at h
    simp only [Option.some.injEq, Prod.mk.injEq] at h
    obtain ⟨rfl, rfl, rfl⟩ := h
    refine (run_err A0 c0 l0 A1 c1 l1.length a2 w hr0 ?_).mono ?_
    · by_cases hx : vOk l0 = true
      · right
        by_cases hy : a2 < 0
        · exact hy
        · exact absurd ⟨hx, hy⟩ hv
      · left; simpa using hx
    · rintro e w' ⟨rfl, hb⟩
      exact ⟨_, _, rfl, Kd.R_nil _ _ _ _ _, Kd.R_nil _ _ _ _ _, hb⟩

end Go.Proofs.Ytmpeekkbmfbjeaa.P

/- The walk of design.Check: it returns 0 just where every number of a configuration is within its bounds, else 1. -/
import Derived.Test.YtlodlblkmnhaeaaPx0
import Derived.Lib.Hide
import Derived.BigQuiet
import Derived.Shelf.Abstract
namespace Go.Proofs.Ytlodlblkmnhaeaa
set_option linter.unusedVariables false
open Go.RowKit Go.Lib Go.Proofs.Ytlodlblkmnhaeaa.P Go.Proofs.YtlodlblkmnhaeaaW.PrintWords Go.Proofs.YtlodlblkmnhaeaaW.PrintLast Go.Proofs.YtlodlblkmnhaeaaW.PrintMore

def wi (n lo hi : Int) : Bool := decide (lo ≤ n) && decide (n ≤ hi)

theorem within_any (n lo hi : Int) (w : World) : Calls Try.prog 41 #[.int .i64 n, .int .i64 lo, .int .i64 hi] w fun e w' => e = .returned (.bool (wi n lo hi)) ∧ w' = w := by
  unfold wi
  by_cases h : lo ≤ n
  · have hd : decide (lo ≤ n) = true := decide_eq_true h
    go_enter Try.func41, Try.ntmps41
    go_wp2
    go_ret
    simp [h]
  · have hd : decide (lo ≤ n) = false := decide_eq_false h
    go_enter Try.func41, Try.ntmps41
    go_wp2
    go_ret
    simp

theorem enters41 : ∀ args w, (callFunc 41 args).run Try.prog w = .ok (.enter 41 args) w := fun args w => enters_ Try.func41 (by kernel_rfl) rfl args w

def chk (a0 a1 a2 a3 a4 a5 : Int) : Int :=
  if wi a0 1 64 = true ∧ wi a1 1 8 = true ∧ wi a2 1 4096 = true ∧ wi a3 0 (a0 - 1) = true ∧ wi a4 1 65536 = true ∧ wi a5 1 65536 = true ∧ a0 % a1 = 0 then 0 else 1

set_option maxHeartbeats 4000000 in
theorem check_b0 (a0 a1 a2 a3 a4 a5 : Int) (w : World) (h0 : wi a0 1 64 = false) :
    Calls Try.prog 28 #[.agg #[.int .i64 a0, .int .i64 a1, .int .i64 a2, .int .i64 a3, .int .i64 a4, .int .i64 a5]] w fun e w' => e = .returned (.int .i64 1) ∧ Below w.heap.size w w' := by
  have hu := Try.underlying23
  have E := enters41
  go_enter Try.func28, Try.ntmps28
  go_upto_region 3 with (first | (go_at_fn 41; refine (within_any _ _ _ _).mono ?_; rintro e w' ⟨rfl, rfl⟩))
  go_wp2_with (first | (go_at_fn 41; refine (within_any _ _ _ _).mono ?_; rintro e w' ⟨rfl, rfl⟩))
  go_ret
  exact ⟨rfl, below_alloc (Below.refl _ _) _⟩
set_option maxHeartbeats 4000000 in
theorem check_b1 (a0 a1 a2 a3 a4 a5 : Int) (w : World) (h0 : wi a0 1 64 = true) (h1 : wi a1 1 8 = false) (l0 : 1 ≤ a0) (u0 : a0 ≤ 64) :
    Calls Try.prog 28 #[.agg #[.int .i64 a0, .int .i64 a1, .int .i64 a2, .int .i64 a3, .int .i64 a4, .int .i64 a5]] w fun e w' => e = .returned (.int .i64 1) ∧ Below w.heap.size w w' := by
  have hu := Try.underlying23
  have E := enters41
  go_enter Try.func28, Try.ntmps28
  go_upto_region 3 with (first | (go_at_fn 41; refine (within_any _ _ _ _).mono ?_; rintro e w' ⟨rfl, rfl⟩))
  go_wp2_with (first | (go_at_fn 41; refine (within_any _ _ _ _).mono ?_; rintro e w' ⟨rfl, rfl⟩))
  go_ret
  exact ⟨rfl, below_alloc (Below.refl _ _) _⟩
set_option maxHeartbeats 4000000 in
theorem check_b2 (a0 a1 a2 a3 a4 a5 : Int) (w : World) (h0 : wi a0 1 64 = true) (h1 : wi a1 1 8 = true) (h2 : wi a2 1 4096 = false) (l0 : 1 ≤ a0) (u0 : a0 ≤ 64) (l1 : 1 ≤ a1) (u1 : a1 ≤ 8) :
    Calls Try.prog 28 #[.agg #[.int .i64 a0, .int .i64 a1, .int .i64 a2, .int .i64 a3, .int .i64 a4, .int .i64 a5]] w fun e w' => e = .returned (.int .i64 1) ∧ Below w.heap.size w w' := by
  have hu := Try.underlying23
  have E := enters41
  go_enter Try.func28, Try.ntmps28
  go_upto_region 3 with (first | (go_at_fn 41; refine (within_any _ _ _ _).mono ?_; rintro e w' ⟨rfl, rfl⟩))
  go_wp2_with (first | (go_at_fn 41; refine (within_any _ _ _ _).mono ?_; rintro e w' ⟨rfl, rfl⟩))
  go_ret
  exact ⟨rfl, below_alloc (Below.refl _ _) _⟩
set_option maxHeartbeats 4000000 in
theorem check_b3 (a0 a1 a2 a3 a4 a5 : Int) (w : World) (h0 : wi a0 1 64 = true) (h1 : wi a1 1 8 = true) (h2 : wi a2 1 4096 = true) (h3 : wi a3 0 (a0 - 1) = false) (l0 : 1 ≤ a0) (u0 : a0 ≤ 64) (l1 : 1 ≤ a1) (u1 : a1 ≤ 8) :
    Calls Try.prog 28 #[.agg #[.int .i64 a0, .int .i64 a1, .int .i64 a2, .int .i64 a3, .int .i64 a4, .int .i64 a5]] w fun e w' => e = .returned (.int .i64 1) ∧ Below w.heap.size w w' := by
  have hu := Try.underlying23
  have E := enters41
  go_enter Try.func28, Try.ntmps28
  go_upto_region 3 with (first | (go_at_fn 41; refine (within_any _ _ _ _).mono ?_; rintro e w' ⟨rfl, rfl⟩))
  go_wp2_with (first | (go_at_fn 41; refine (within_any _ _ _ _).mono ?_; rintro e w' ⟨rfl, rfl⟩))
  go_ret
  exact ⟨rfl, below_alloc (Below.refl _ _) _⟩
set_option maxHeartbeats 4000000 in
theorem check_b4 (a0 a1 a2 a3 a4 a5 : Int) (w : World) (h0 : wi a0 1 64 = true) (h1 : wi a1 1 8 = true) (h2 : wi a2 1 4096 = true) (h3 : wi a3 0 (a0 - 1) = true) (h4 : wi a4 1 65536 = false) (l0 : 1 ≤ a0) (u0 : a0 ≤ 64) (l1 : 1 ≤ a1) (u1 : a1 ≤ 8) :
    Calls Try.prog 28 #[.agg #[.int .i64 a0, .int .i64 a1, .int .i64 a2, .int .i64 a3, .int .i64 a4, .int .i64 a5]] w fun e w' => e = .returned (.int .i64 1) ∧ Below w.heap.size w w' := by
  have hu := Try.underlying23
  have E := enters41
  go_enter Try.func28, Try.ntmps28
  go_upto_region 3 with (first | (go_at_fn 41; refine (within_any _ _ _ _).mono ?_; rintro e w' ⟨rfl, rfl⟩))
  go_wp2_with (first | (go_at_fn 41; refine (within_any _ _ _ _).mono ?_; rintro e w' ⟨rfl, rfl⟩))
  go_ret
  exact ⟨rfl, below_alloc (Below.refl _ _) _⟩
set_option maxHeartbeats 4000000 in
theorem check_b5 (a0 a1 a2 a3 a4 a5 : Int) (w : World) (h0 : wi a0 1 64 = true) (h1 : wi a1 1 8 = true) (h2 : wi a2 1 4096 = true) (h3 : wi a3 0 (a0 - 1) = true) (h4 : wi a4 1 65536 = true) (h5 : wi a5 1 65536 = false) (l0 : 1 ≤ a0) (u0 : a0 ≤ 64) (l1 : 1 ≤ a1) (u1 : a1 ≤ 8) :
    Calls Try.prog 28 #[.agg #[.int .i64 a0, .int .i64 a1, .int .i64 a2, .int .i64 a3, .int .i64 a4, .int .i64 a5]] w fun e w' => e = .returned (.int .i64 1) ∧ Below w.heap.size w w' := by
  have hu := Try.underlying23
  have E := enters41
  go_enter Try.func28, Try.ntmps28
  go_upto_region 3 with (first | (go_at_fn 41; refine (within_any _ _ _ _).mono ?_; rintro e w' ⟨rfl, rfl⟩))
  go_wp2_with (first | (go_at_fn 41; refine (within_any _ _ _ _).mono ?_; rintro e w' ⟨rfl, rfl⟩))
  go_ret
  exact ⟨rfl, below_alloc (Below.refl _ _) _⟩
set_option maxHeartbeats 4000000 in
theorem check_rem (a0 a1 a2 a3 a4 a5 : Int) (w : World) (h0 : wi a0 1 64 = true) (h1 : wi a1 1 8 = true) (h2 : wi a2 1 4096 = true) (h3 : wi a3 0 (a0 - 1) = true) (h4 : wi a4 1 65536 = true) (h5 : wi a5 1 65536 = true) (l0 : 1 ≤ a0) (u0 : a0 ≤ 64) (l1 : 1 ≤ a1) (u1 : a1 ≤ 8) (hr : decide (a0 % a1 = 0) = false) (hr' : ¬ a0 % a1 = 0) :
    Calls Try.prog 28 #[.agg #[.int .i64 a0, .int .i64 a1, .int .i64 a2, .int .i64 a3, .int .i64 a4, .int .i64 a5]] w fun e w' => e = .returned (.int .i64 1) ∧ Below w.heap.size w w' := by
  have hu := Try.underlying23
  have E := enters41
  go_enter Try.func28, Try.ntmps28
  go_upto_region 3 with (first | (go_at_fn 41; refine (within_any _ _ _ _).mono ?_; rintro e w' ⟨rfl, rfl⟩))
  go_wp2_with (first | (go_at_fn 41; refine (within_any _ _ _ _).mono ?_; rintro e w' ⟨rfl, rfl⟩))
  go_ret
  exact ⟨rfl, below_alloc (Below.refl _ _) _⟩
set_option maxHeartbeats 4000000 in
theorem check_ok (a0 a1 a2 a3 a4 a5 : Int) (w : World) (h0 : wi a0 1 64 = true) (h1 : wi a1 1 8 = true) (h2 : wi a2 1 4096 = true) (h3 : wi a3 0 (a0 - 1) = true) (h4 : wi a4 1 65536 = true) (h5 : wi a5 1 65536 = true) (l0 : 1 ≤ a0) (u0 : a0 ≤ 64) (l1 : 1 ≤ a1) (u1 : a1 ≤ 8) (hr : decide (a0 % a1 = 0) = true) (hr' : a0 % a1 = 0) :
    Calls Try.prog 28 #[.agg #[.int .i64 a0, .int .i64 a1, .int .i64 a2, .int .i64 a3, .int .i64 a4, .int .i64 a5]] w fun e w' => e = .returned (.int .i64 0) ∧ Below w.heap.size w w' := by
  have hu := Try.underlying23
  have E := enters41
  go_enter Try.func28, Try.ntmps28
  go_upto_region 3 with (first | (go_at_fn 41; refine (within_any _ _ _ _).mono ?_; rintro e w' ⟨rfl, rfl⟩))
  go_wp2_with (first | (go_at_fn 41; refine (within_any _ _ _ _).mono ?_; rintro e w' ⟨rfl, rfl⟩))
  go_ret
  exact ⟨rfl, below_alloc (Below.refl _ _) _⟩

theorem wi_bounds {n lo hi : Int} (h : wi n lo hi = true) : lo ≤ n ∧ n ≤ hi := by
  unfold wi at h
  simpa using h

theorem check_any (a0 a1 a2 a3 a4 a5 : Int) (w : World) :
    Calls Try.prog 28 #[.agg #[.int .i64 a0, .int .i64 a1, .int .i64 a2, .int .i64 a3, .int .i64 a4, .int .i64 a5]] w fun e w' => e = .returned (.int .i64 (chk a0 a1 a2 a3 a4 a5)) ∧ Below w.heap.size w w' := by
  by_cases n0 : ¬ wi a0 1 64 = true
  · have e : chk a0 a1 a2 a3 a4 a5 = 1 := by unfold chk; rw [if_neg (fun h => n0 h.1)]
    rw [e]; exact check_b0 a0 a1 a2 a3 a4 a5 w (by simpa using n0)
  have h0 : wi a0 1 64 = true := Decidable.not_not.1 n0
  obtain ⟨l0, u0⟩ := wi_bounds h0
  by_cases n1 : ¬ wi a1 1 8 = true
  · have e : chk a0 a1 a2 a3 a4 a5 = 1 := by unfold chk; rw [if_neg (fun h => n1 h.2.1)]
    rw [e]; exact check_b1 a0 a1 a2 a3 a4 a5 w h0 (by simpa using n1) l0 u0
  have h1 : wi a1 1 8 = true := Decidable.not_not.1 n1
  obtain ⟨l1, u1⟩ := wi_bounds h1
  by_cases n2 : ¬ wi a2 1 4096 = true
  · have e : chk a0 a1 a2 a3 a4 a5 = 1 := by unfold chk; rw [if_neg (fun h => n2 h.2.2.1)]
    rw [e]; exact check_b2 a0 a1 a2 a3 a4 a5 w h0 h1 (by simpa using n2) l0 u0 l1 u1
  have h2 : wi a2 1 4096 = true := Decidable.not_not.1 n2
  by_cases n3 : ¬ wi a3 0 (a0 - 1) = true
  · have e : chk a0 a1 a2 a3 a4 a5 = 1 := by unfold chk; rw [if_neg (fun h => n3 h.2.2.2.1)]
    rw [e]; exact check_b3 a0 a1 a2 a3 a4 a5 w h0 h1 h2 (by simpa using n3) l0 u0 l1 u1
  have h3 : wi a3 0 (a0 - 1) = true := Decidable.not_not.1 n3
  by_cases n4 : ¬ wi a4 1 65536 = true
  · have e : chk a0 a1 a2 a3 a4 a5 = 1 := by unfold chk; rw [if_neg (fun h => n4 h.2.2.2.2.1)]
    rw [e]; exact check_b4 a0 a1 a2 a3 a4 a5 w h0 h1 h2 h3 (by simpa using n4) l0 u0 l1 u1
  have h4 : wi a4 1 65536 = true := Decidable.not_not.1 n4
  by_cases n5 : ¬ wi a5 1 65536 = true
  · have e : chk a0 a1 a2 a3 a4 a5 = 1 := by unfold chk; rw [if_neg (fun h => n5 h.2.2.2.2.2.1)]
    rw [e]; exact check_b5 a0 a1 a2 a3 a4 a5 w h0 h1 h2 h3 h4 (by simpa using n5) l0 u0 l1 u1
  have h5 : wi a5 1 65536 = true := Decidable.not_not.1 n5
  by_cases hr : a0 % a1 = 0
  · have e : chk a0 a1 a2 a3 a4 a5 = 0 := by unfold chk; rw [if_pos ⟨h0, h1, h2, h3, h4, h5, hr⟩]
    rw [e]; exact check_ok a0 a1 a2 a3 a4 a5 w h0 h1 h2 h3 h4 h5 l0 u0 l1 u1 (decide_eq_true hr) hr
  · have e : chk a0 a1 a2 a3 a4 a5 = 1 := by unfold chk; rw [if_neg (fun h => hr h.2.2.2.2.2.2)]
    rw [e]; exact check_rem a0 a1 a2 a3 a4 a5 w h0 h1 h2 h3 h4 h5 l0 u0 l1 u1 (decide_eq_false hr) hr
end Go.Proofs.Ytlodlblkmnhaeaa
namespace Go.Proofs.Ytlodlblkmnhaeaa.P
open Go.RowKit Go.Proofs.YtlodlblkmnhaeaaW.PrintWords

def design_Check.f (a0 a1 a2 a3 a4 a5 : Int) : Option Int := some (chk a0 a1 a2 a3 a4 a5)
theorem design_Check.calls (a0 a1 a2 a3 a4 a5 : Int) (r : Int) (w : World) (h : design_Check.f a0 a1 a2 a3 a4 a5 = some r) :
    Calls Try.prog 28 #[.agg #[.int .i64 a0, .int .i64 a1, .int .i64 a2, .int .i64 a3, .int .i64 a4, .int .i64 a5]] w fun e w' => e = .returned (.int .i64 r) ∧ Below w.heap.size w w' := by
  obtain rfl := Option.some.inj h
  exact check_any a0 a1 a2 a3 a4 a5 w
end Go.Proofs.Ytlodlblkmnhaeaa.P

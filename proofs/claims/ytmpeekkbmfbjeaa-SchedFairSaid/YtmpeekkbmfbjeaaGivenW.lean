/- The Lean functions and the contracts of schedule.Weight and schedule.Valid, in the form in which the printed texts take them. -/
import Derived.Test.YtmpeekkbmfbjeaaPx0
import Derived.Test.YtmpeekkbmfbjeaaValidWalk
namespace Go.Proofs.Ytmpeekkbmfbjeaa.P
open Go.RowKit Go.Proofs.YtmpeekkbmfbjeaaW.PrintWords Go.Proofs.YtmpeekkbmfbjeaaW.PrintLast Go.Proofs.YtmpeekkbmfbjeaaW.PrintMore

def schedule_Weight.f (a0 : Int) : Option Int := some (wgt a0)
theorem schedule_Weight.calls (a0 : Int) (r : Int) (w : World) (h : schedule_Weight.f a0 = some r) :
    Calls Try.prog 17 #[.int .i64 a0] w fun e w' => e = .returned (.int .i64 r) ∧ Below w.heap.size w w' := by
  obtain rfl := Option.some.inj h
  exact weight_any a0 w

def schedule_Valid.f (l0 : List Int) : Option Bool := some (vOk l0)
theorem schedule_Valid.calls (A0 : Option Addr) (c0 : Nat) (l0 : List Int) (r : Bool) (w : World) (hr0 : Kd.C (Kd.int .i64) w A0 l0.length l0) (_hc0 : l0.length ≤ c0) (h : schedule_Valid.f l0 = some r) :
    Calls Try.prog 15 #[.agg #[.slice A0 l0.length c0]] w fun e w' => e = .returned (.bool r) ∧ Below w.heap.size w w' := by
  obtain rfl := Option.some.inj h
  exact valid_any A0 c0 l0 w hr0

end Go.Proofs.Ytmpeekkbmfbjeaa.P

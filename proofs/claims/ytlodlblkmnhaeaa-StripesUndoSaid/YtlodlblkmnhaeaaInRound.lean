/- A region that draws its order, walked by the plain words, within a round of a loop over an iterator: no operation of it is a defer statement. -/
import Derived.RangeFuncNested
import Derived.OrdersIn
import Derived.Test.YtlodlblkmnhaeaaPx0
namespace Go.Proofs.Ytlodlblkmnhaeaa
open Go.RowKit Go.Proofs.YtlodlblkmnhaeaaW.PrintWords Go.Proofs.YtlodlblkmnhaeaaW.PrintLast
variable {P : Program} {ops : Array Oper} {Q : Exit → Act → World → Prop} {md : Region.Mode} {l n : Nat}
set_option linter.unusedVariables false

def noDefer (o : Oper) : Bool := match o.op with
  | .defer _ => false
  | _ => true
theorem noDefer_ne {o : Oper} (h : noDefer o = true) : ∀ c, o.op ≠ .defer c := fun c e => by
  unfold noDefer at h
  rw [e] at h
  cases h

theorem rows_in {row : String} {args : Array Value} {w : World} {R : Value → World → Prop} (h : Rows P row args w R) : RowsIn (Fence.wide.inRound l) n P row args w R := fun c cs _ => by
  obtain ⟨v, w', r, s⟩ := h c cs
  exact ⟨v, w', r, stepsIn_wide.2 s⟩

theorem oper_in {o : Oper} {a : Act} {w : World} {K : Act → World → Prop} (hd : noDefer o = true) (h : o.wp P a w K Q) : o.wpIn (Fence.wide.inRound l) n P a w K Q := by
  refine ⟨fun _ _ => trivial, ?_⟩
  rw [Oper.semAt_eq _ _ _ (noDefer_ne hd)]
  unfold Oper.wp at h
  generalize (execOp a.eval o).run P w = r at h ⊢
  cases r with
  | ok x w' =>
    cases x with
    | value v => exact h
    | skip => exact h
    | «defer» d => exact h
    | enter f args => exact ⟨fun h => by simp [Fence.wide] at h, CallsIn.inRound l (callsIn_wide.2 h)⟩
    | row r args => exact ⟨fun h => by simp [Fence.wide] at h, rows_in h⟩
    | round l f t a b => exact h.elim
    | _ => exact h.elim
  | halt x w' => cases x <;> exact h

theorem op_in {i : Nat} {a : Act} {w : World} {K : Act → World → Prop} (hd : ∀ (i : Nat) o, ops[i]? = some o → noDefer o = true) (hlo : ¬ LetsOut Q) (h : wpOp P ops Q i K a w) : wpOpIn (Fence.wide.inRound l) n P ops Q i K a w := by
  unfold wpOpIn
  unfold wpOp at h
  cases ho : ops[i]? with
  | none =>
    simp only [ho] at h
    exact h
  | some o =>
    simp only [ho] at h
    dsimp only
    split
    · rename_i hw
      rw [if_pos hw] at h
      exact oper_in (hd i o ho) (h.resolve_right (fun e => hlo e.2))
    · rename_i hw
      rw [if_neg hw] at h
      exact ⟨fun _ _ => trivial, h⟩

theorem any_in (hd : ∀ (i : Nat) o, ops[i]? = some o → noDefer o = true) (hlo : ¬ LetsOut Q) : ∀ (fuel : Nat) (listed : Array Bool) (a : Act) (w : World), wpAny P md ops Q fuel listed a w → wpAnyIn (Fence.wide.inRound l) n P md ops Q fuel listed a w
  | 0, _, _, _, h => h
  | fuel + 1, listed, a, w, h => ⟨h.1, fun i hi => op_in hd hlo (wpOp_mono (fun a' w' h' => any_in hd hlo fuel _ a' w' h') (h.2 i hi))⟩

/-- start_ within a round. -/
theorem start_in {S : World → Prop} {ds : List Nat} {id m : Nat} {a : Act} {w : World} (lb : Array Bool) (hm : P.follows .mixedOrders = true) (hn : ops.size = m) (hl : Array.replicate m false = lb) (hd : ops.toList.all noDefer = true) (hlo : ¬ LetsOut Q) (hS : S w.drew)
    (h : S w.drew → wpAnyLast P .any ops Q S ds m lb a w.drew) : (Code.region id ops true).wpIn (Fence.wide.inRound l) n P Q a w := by
  subst hn
  subst hl
  refine wpIn_region_any hm (any_in (fun i o ho => ?_) hlo _ _ _ _ (wpAny_of_last _ _ _ _ (h hS)))
  exact List.all_eq_true.1 hd o (by rw [← Array.getElem?_toList] at ho; exact List.mem_of_getElem? ho)

end Go.Proofs.Ytlodlblkmnhaeaa

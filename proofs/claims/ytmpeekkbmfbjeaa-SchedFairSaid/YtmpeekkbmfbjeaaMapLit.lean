/- Two laws for a map with integer keys that the call has just made: a store at a new key, and a look-up, each on the block's entries as they lie. -/
import Derived.Maps.Own
import Derived.WalkKit
namespace Go.Proofs.Ytmpeekkbmfbjeaa
open Go.Maps Go.RowKit Go.ChangeMaps

theorem run_check {P : Program} {k : TypeId} (hk : P.underlying k = some (.int .i64)) (w : World) (em : Bool) (a : Int) : (Instr.checkKey em 10000 k (.int .i64 a)).run P w = .ok () w :=
  MapKept.run_checkKey hk (by simp [MapKept.IsKey]) em 9999

theorem lit_put (w : World) {P : Program} (t k e : TypeId) (hk : P.underlying k = some (.int .i64)) (ht : P.underlying t = some (.map k e)) (b : Nat) (es : Array MapEntry) (clock : Nat) (key : Int) (val : Value)
    (hb : w.heap[b]? = some (.map es clock)) (hf : Instr.findNow (.int .i64) (.int .i64 key) es.toList 0 = some none) :
    ∃ w', (Instr.mapUpdate t (.map (some b)) (.int .i64 key) val).run P w = .ok () w' ∧ w'.heap[b]? = some (.map (es.push ⟨.int .i64 key, val, clock⟩) (clock + 1)) ∧ w.grownBy w' (some b) := by
  have hrun : (Instr.mapUpdate t (.map (some b)) (.int .i64 key) val).run P w = .ok () (setBlock w b (.map (es.push ⟨.int .i64 key, val, clock⟩) (clock + 1))) := by
    simp [Instr.mapUpdate, run_underlying ht, MapKept.run_getObj_map hb, run_check hk, MapKept.run_findKey hk hf, MapKept.run_setObj_map _ hb, Result.andThen, setBlock]
  exact ⟨_, hrun, heap_setBlock_same hb _, ⟨rfl, rfl, rfl, by simp [setBlock], fun i _ hi => heap_setBlock_other hb _ (fun e => hi (by rw [e]))⟩⟩

theorem lit_look (w : World) {P : Program} (t : TypeId) (c : Bool) (k e : TypeId) (hk : P.underlying k = some (.int .i64)) (ht : P.underlying t = some (.map k e)) (z : Value) (hz : (zeroValue e).run P w = .ok z w) (b : Nat) (es : Array MapEntry) (clock : Nat) (key : Int)
    (hb : w.heap[b]? = some (.map es clock)) (r : Option (Nat × Value)) (hf : Instr.findNow (.int .i64) (.int .i64 key) es.toList 0 = some r) :
    (Instr.lookup t (.map (some b)) (.int .i64 key) c).run P w = .ok (if c then .tuple #[(r.map Prod.snd).getD z, .bool r.isSome] else (r.map Prod.snd).getD z) w := by
  have hfk := MapKept.run_findKey (w := w) hk hf
  cases r <;> cases c <;> simp [Instr.lookup, run_underlying ht, MapKept.run_getObj_map hb, run_check hk, hfk, hz, Result.andThen]

end Go.Proofs.Ytmpeekkbmfbjeaa
namespace Go.Proofs.Ytmpeekkbmfbjeaa
/-- Which operations of a region have come up, as a number's bits. -/
def bL (n m : Nat) : Array Bool := ((List.range n).map fun i => m.testBit i).toArray
theorem act1 {α : Type} (l : List α) (i : Nat) (a : α) : l.toArray.setIfInBounds i a = (l.set i a).toArray := List.setIfInBounds_toArray ..
theorem act2 {α : Type} (a b : α) (l : List α) : (a :: l).set 0 b = b :: l := rfl
theorem act3 {α : Type} (a b : α) (l : List α) (n : Nat) : (a :: l).set (n + 1) b = a :: l.set n b := rfl
end Go.Proofs.Ytmpeekkbmfbjeaa

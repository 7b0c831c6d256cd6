/- The walks of schedule.Weight and of schedule.comparison: a map literal that the call makes, and one look-up. -/
import Derived.Test.YtmpeekkbmfbjeaaMapLit
import Derived.Test.YtmpeekkbmfbjeaaProg
import Derived.Shelf.Lay
namespace Go.Proofs.Ytmpeekkbmfbjeaa
open Go.Maps Go.RowKit Go.ChangeMaps

def wgt (a : Int) : Int := if a = 1 then 4 else if a = 2 then 2 else if a = 3 then 2 else if a = 4 then 1 else if a = 5 then 1 else 0

def wgtEs : Array MapEntry := #[⟨.int .i64 1, .int .i64 4, 0⟩, ⟨.int .i64 2, .int .i64 2, 1⟩, ⟨.int .i64 3, .int .i64 2, 2⟩, ⟨.int .i64 4, .int .i64 1, 3⟩, ⟨.int .i64 5, .int .i64 1, 4⟩]

theorem wgt_look (a : Int) : ∃ r, Instr.findNow (.int .i64) (.int .i64 a) wgtEs.toList 0 = some r ∧ (r.map Prod.snd).getD (.int .i64 0) = .int .i64 (wgt a) := by
  unfold wgtEs wgt
  by_cases h1 : a = 1
  · subst h1; exact ⟨_, rfl, rfl⟩
  by_cases h2 : a = 2
  · subst h2; exact ⟨_, rfl, rfl⟩
  by_cases h3 : a = 3
  · subst h3; exact ⟨_, rfl, rfl⟩
  by_cases h4 : a = 4
  · subst h4; exact ⟨_, rfl, rfl⟩
  by_cases h5 : a = 5
  · subst h5; exact ⟨_, rfl, rfl⟩
  refine ⟨none, ?_, by simp [h1, h2, h3, h4, h5]⟩
  have e1 : (a == 1) = false := by simp [h1]
  have e2 : (a == 2) = false := by simp [h2]
  have e3 : (a == 3) = false := by simp [h3]
  have e4 : (a == 4) = false := by simp [h4]
  have e5 : (a == 5) = false := by simp [h5]
  simp [Instr.findNow, Instr.sameNow, e1, e2, e3, e4, e5]

theorem wgt_ops (a : Int) (w : World) : ∃ w1 w2 w3 w4 w5,
    (Instr.mapUpdate 65 (.map (some w.heap.size)) (.int .i64 1) (.int .i64 4)).run Try.prog (w.alloc (.map #[] 0)) = .ok () w1 ∧
    (Instr.mapUpdate 65 (.map (some w.heap.size)) (.int .i64 2) (.int .i64 2)).run Try.prog w1 = .ok () w2 ∧
    (Instr.mapUpdate 65 (.map (some w.heap.size)) (.int .i64 3) (.int .i64 2)).run Try.prog w2 = .ok () w3 ∧
    (Instr.mapUpdate 65 (.map (some w.heap.size)) (.int .i64 4) (.int .i64 1)).run Try.prog w3 = .ok () w4 ∧
    (Instr.mapUpdate 65 (.map (some w.heap.size)) (.int .i64 5) (.int .i64 1)).run Try.prog w4 = .ok () w5 ∧
    (Instr.lookup 65 (.map (some w.heap.size)) (.int .i64 a) false).run Try.prog w5 = .ok (.int .i64 (wgt a)) w5 ∧ Below w.heap.size w w5 := by
  obtain ⟨r, hr1, hr2⟩ := wgt_look a
  obtain ⟨w1, e1, h1, g1⟩ := lit_put (w.alloc (.map #[] 0)) 65 3 3 Try.underlying3 Try.underlying65 w.heap.size #[] 0 1 (.int .i64 4) (MapKept.heap_alloc w _).1 rfl
  obtain ⟨w2, e2, h2, g2⟩ := lit_put w1 65 3 3 Try.underlying3 Try.underlying65 w.heap.size _ _ 2 (.int .i64 2) h1 rfl
  obtain ⟨w3, e3, h3, g3⟩ := lit_put w2 65 3 3 Try.underlying3 Try.underlying65 w.heap.size _ _ 3 (.int .i64 2) h2 rfl
  obtain ⟨w4, e4, h4, g4⟩ := lit_put w3 65 3 3 Try.underlying3 Try.underlying65 w.heap.size _ _ 4 (.int .i64 1) h3 rfl
  obtain ⟨w5, e5, h5, g5⟩ := lit_put w4 65 3 3 Try.underlying3 Try.underlying65 w.heap.size _ _ 5 (.int .i64 1) h4 rfl
  have e6 := lit_look w5 65 false 3 3 Try.underlying3 Try.underlying65 (.int .i64 0) (by simp [Try.zeroValue3]) w.heap.size _ _ a h5 r hr1
  rw [if_neg (by decide), hr2] at e6
  have n0 : Below w.heap.size w (w.alloc (.map #[] 0)) := (Below.refl _ _).alloc (Nat.le_refl _) _
  have n1 := n0.grown g1 n0.size (fun j hj => by cases hj; exact Nat.le_refl _)
  have n2 := n1.grown g2 n1.size (fun j hj => by cases hj; exact Nat.le_refl _)
  have n3 := n2.grown g3 n2.size (fun j hj => by cases hj; exact Nat.le_refl _)
  have n4 := n3.grown g4 n3.size (fun j hj => by cases hj; exact Nat.le_refl _)
  have n5 := n4.grown g5 n4.size (fun j hj => by cases hj; exact Nat.le_refl _)
  exact ⟨w1, w2, w3, w4, w5, e1, e2, e3, e4, e5, e6, n5⟩

set_option maxRecDepth 100000 in
theorem weight_any (a : Int) (w : World) : Calls Try.prog 17 #[.int .i64 a] w fun e w' => e = .returned (.int .i64 (wgt a)) ∧ Below w.heap.size w w' := by
  have hmm := @run_makeMap Try.prog
  obtain ⟨w1, w2, w3, w4, w5, e1, e2, e3, e4, e5, e6, n5⟩ := wgt_ops a w
  go_enter Try.func17, Try.ntmps17
  go_wp2
  go_ret
  exact ⟨rfl, n5⟩

/-- the number of the function that compares two tasks of a kind. -/
def cmpN (a : Int) : Nat := if a = 1 then 40 else 41

theorem cmp_ops (a : Int) (w : World) : ∃ w1,
    (Instr.mapUpdate 76 (.map (some w.heap.size)) (.int .i64 1) (.func (.func 40) #[] #[])).run Try.prog (w.alloc (.map #[] 0)) = .ok () w1 ∧
    (Instr.lookup 76 (.map (some w.heap.size)) (.int .i64 a) true).run Try.prog w1 = .ok (if a = 1 then .tuple #[.func (.func 40) #[] #[], .bool true] else .tuple #[.nilFunc, .bool false]) w1 ∧ Below w.heap.size w w1 := by
  obtain ⟨w1, e1, h1, g1⟩ := lit_put (w.alloc (.map #[] 0)) 76 3 71 Try.underlying3 Try.underlying76 w.heap.size #[] 0 1 (.func (.func 40) #[] #[]) (MapKept.heap_alloc w _).1 rfl
  have n0 : Below w.heap.size w (w.alloc (.map #[] 0)) := (Below.refl _ _).alloc (Nat.le_refl _) _
  have n1 := n0.grown g1 n0.size (fun j hj => by cases hj; exact Nat.le_refl _)
  refine ⟨w1, e1, ?_, n1⟩
  by_cases h : a = 1
  · subst h
    have e6 := lit_look w1 76 true 3 71 Try.underlying3 Try.underlying76 .nilFunc (by simp [Try.zeroValue71]) w.heap.size _ _ 1 h1 (some (0, .func (.func 40) #[] #[])) rfl
    simpa using e6
  · have e : (a == 1) = false := by simp [h]
    have e6 := lit_look w1 76 true 3 71 Try.underlying3 Try.underlying76 .nilFunc (by simp [Try.zeroValue71]) w.heap.size _ _ a h1 none (by simp [Instr.findNow, Instr.sameNow, e])
    rw [if_neg h]
    simpa using e6

set_option maxRecDepth 100000 in
theorem comparison_any (a : Int) (w : World) : Calls Try.prog 37 #[.int .i64 a] w fun e w' => e = .returned (.func (.func (cmpN a)) #[] #[]) ∧ Below w.heap.size w w' := by
  have hmm := @run_makeMap Try.prog
  obtain ⟨w1, e1, e2, n1⟩ := cmp_ops a w
  by_cases h : a = 1
  · subst h
    rw [if_pos rfl] at e2
    go_enter Try.func37, Try.ntmps37
    go_wp2
    go_ret
    exact ⟨rfl, n1⟩
  · rw [if_neg h] at e2
    have e : cmpN a = 41 := by unfold cmpN; rw [if_neg h]
    rw [e]
    go_enter Try.func37, Try.ntmps37
    go_wp2
    go_ret
    exact ⟨rfl, n1⟩

end Go.Proofs.Ytmpeekkbmfbjeaa

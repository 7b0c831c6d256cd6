/- What Allocate's loops keep, and what its stores leave. -/
import Derived.Test.YtlodlblkmnhaeaaAlcBad
import Derived.Test.YtlodlblkmnhaeaaRelWalk
namespace Go.Proofs.Ytlodlblkmnhaeaa
set_option linter.unusedVariables false
open Go.RowKit Go.Lib Go.Shelf Go.Proofs.Ytlodlblkmnhaeaa.P Go.Proofs.YtlodlblkmnhaeaaW.PrintWords Go.Proofs.YtlodlblkmnhaeaaW.PrintLast Go.Proofs.YtlodlblkmnhaeaaW.PrintMore

/-- A block of cells abides the turn of what is no cells. -/
theorem cells_kept {A B : World} {row : Option Nat} {k t : Nat} {cs : Array Value} (h : A.heap[k]? = some (.cells cs t (0, 0))) (hg : A.grownBy B row) (hr : ∀ r, row = some r → ∃ o : Obj, A.heap[r]? = some o ∧ o.isCells = false) : B.heap[k]? = some (.cells cs t (0, 0)) := by
  refine (hg.block k (blk_lt h) (fun e => ?_)).trans h
  obtain ⟨o, ho, hc⟩ := hr k e.symm
  rw [h] at ho
  cases ho
  cases hc
theorem fr_own {β : Type} (s : Nat) (a0 a1 a2 a3 a4 a5 code wd ge gc : Int) (v : Value) (rj rg er : Int) : Own (fun (_ : β) W => Fr W s a0 a1 a2 a3 a4 a5 code wd ge gc v rj rg er) :=
  fun _ A B row h hg hr => ⟨cells_kept h.b0 hg hr, cells_kept h.b1 hg hr, cells_kept h.b2 hg hr, cells_kept h.b3 hg hr, cells_kept h.b4 hg hr, cells_kept h.b5 hg hr, cells_kept h.b6 hg hr⟩
theorem ax_own {B : Nat} (lo : Nat) (cs : Array Value) (t : Nat) (φ : Nat → Act) (a' : Act) : OwnFrom B (fun (_ : Unit) W => ∃ Bx, lo ≤ Bx ∧ W.heap[Bx]? = some (.cells cs t (0, 0)) ∧ a' = φ Bx) := fun _ X Y row hs hg hr => by
  obtain ⟨Bx, h1, h2, h3⟩ := hs
  exact ⟨Bx, h1, cells_kept h2 hg (fun r e => (hr r e).2), h3⟩

theorem Fr.put {W : World} {s D : Nat} {a0 a1 a2 a3 a4 a5 code wd ge gc rj rg er : Int} {v : Value} (h : Fr W s a0 a1 a2 a3 a4 a5 code wd ge gc v rj rg er) (hD : s + 7 ≤ D) {o o' : Obj} (hK : W.heap[D]? = some o) (_ : o.isCells = false) : Fr (W.putObj D o') s a0 a1 a2 a3 a4 a5 code wd ge gc v rj rg er :=
  h.keep (fun k _ hk => World.putObj_heap_other (by omega))

/-- What Allocate returns where its arguments are valid, g being the groups. -/
def allocG (l : List S59) (code wd g ge gc : Int) : List S59 × Int × Int × Int :=
  if widthsOk l code wd = false then ([], 0, 0, 1)
  else match roomAt l code g with
    | some j => (putRow l j ge gc, (j : Int), (gap0 (rd_T59 l (j : Int)).f2 : Int), 0)
    | none => match freeAt l with
      | some j => (l.set j ⟨code, wd, [⟨0, ⟨ge, gc⟩⟩]⟩, (j : Int), 0, 0)
      | none => ([], 0, 0, 16)
theorem allocG_wd {l : List S59} {code wd g ge gc : Int} (h : ∃ j ∈ rowsOf code l, ¬ (rd_T59 l (j : Int)).f1 = wd) : allocG l code wd g ge gc = ([], 0, 0, 1) := by
  unfold allocG
  rw [if_pos]
  obtain ⟨j, hj, h⟩ := h
  unfold widthsOk
  rw [List.all_eq_false]
  exact ⟨j, hj, by simpa using h⟩
theorem mem_rowsOf {code : Int} {l : List S59} {j : Nat} : j ∈ rowsOf code l ↔ j < l.length ∧ (rd_T59 l (j : Int)).f0 = code := by
  unfold rowsOf
  rw [List.mem_filter, List.mem_range, decide_eq_true_eq]
theorem ofJ_any {code wd : Int} {R : List RowA} {l : List S59} {len : Nat} (hm : R.map RowA.x = l) (hl : len = l.length) (y : Jx code R len) (h : ¬ (rA R y.1).x.f1 = wd) : ∃ j ∈ rowsOf code l, ¬ (rd_T59 l (j : Int)).f1 = wd := by
  refine ⟨y.1, mem_rowsOf.2 ⟨by have := y.2.1; omega, ?_⟩, ?_⟩
  · rw [← rA_x hm]; exact y.2.2
  · rw [← rA_x hm]; exact h

end Go.Proofs.Ytlodlblkmnhaeaa
namespace Go.Proofs.Ytlodlblkmnhaeaa
open Go.RowKit Go.Lib Go.Shelf Go.Proofs.Ytlodlblkmnhaeaa.P Go.Proofs.YtlodlblkmnhaeaaW.PrintWords
/-- Behind the copy: the boxes of the copy and of the groups, the copy itself; all of it new. -/
structure AlcMid (W w' : World) (Bn Bg bs : Nat) (v : Value) (g : Int) (l : List S59) : Prop where
  bn : Boxed w' Bn 25 v
  bg : Boxed w' Bg 3 (.int .i64 g)
  cp : Kd.S k59 59 w' bs (fun k => bs ≤ k) v l
  bl : Below W.heap.size W w'
  ns : W.heap.size ≤ bs
  nn : W.heap.size ≤ Bn
  ng : W.heap.size ≤ Bg
end Go.Proofs.Ytlodlblkmnhaeaa

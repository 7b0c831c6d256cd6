/- What stripes.Allocate returns, in plain Lean; layout.Groups by a contract; what the loops' invariants speak of. -/
import Derived.Test.YtlodlblkmnhaeaaPx5
import Derived.Test.YtlodlblkmnhaeaaStrWalk
import Derived.Test.YtlodlblkmnhaeaaInsert
import Derived.Test.YtlodlblkmnhaeaaCopied
namespace Go.Proofs.Ytlodlblkmnhaeaa
set_option linter.unusedVariables false
open Go.RowKit Go.Lib Go.Proofs.Ytlodlblkmnhaeaa.P Go.Proofs.YtlodlblkmnhaeaaW.PrintWords Go.Proofs.YtlodlblkmnhaeaaW.PrintLast Go.Proofs.YtlodlblkmnhaeaaW.PrintMore

/-- The groups of a row. -/
def grpO (a0 a1 a2 a3 a4 a5 wd : Int) : Int := if chk a0 a1 a2 a3 a4 a5 = 0 ∧ 1 ≤ wd ∧ wd ≤ 32 then (a0 - a3) / wd else 0

theorem chk_ok {a0 a1 a2 a3 a4 a5 : Int} (h : chk a0 a1 a2 a3 a4 a5 = 0) : (1 ≤ a0 ∧ a0 ≤ 64) ∧ (1 ≤ a2 ∧ a2 ≤ 4096) ∧ (0 ≤ a3 ∧ a3 ≤ a0 - 1) := by
  unfold chk at h
  split at h
  · next h2 => exact ⟨wi_bounds h2.1, wi_bounds h2.2.2.1, wi_bounds h2.2.2.2.1⟩
  · cases h
theorem chk_01 (a0 a1 a2 a3 a4 a5 : Int) : chk a0 a1 a2 a3 a4 a5 = 0 ∨ chk a0 a1 a2 a3 a4 a5 = 1 := by
  unfold chk
  split
  · exact .inl rfl
  · exact .inr rfl

theorem groups_f (a0 a1 a2 a3 a4 a5 wd : Int) : layout_Groups.f a0 a1 a2 a3 a4 a5 wd = some (grpO a0 a1 a2 a3 a4 a5 wd) := by
  unfold layout_Groups.f layout_valid.f design_Check.f grpO
  simp only [Option.bind_some]
  by_cases h : chk a0 a1 a2 a3 a4 a5 = 0
  · obtain ⟨⟨h1, h2⟩, _, h5, h6⟩ := chk_ok h
    rw [if_pos h]
    by_cases hw : wd ≥ 1
    · rw [if_pos hw]
      by_cases hw2 : wd ≤ 32
      · rw [Option.bind_some, decide_eq_true hw2, if_pos rfl, if_neg (by omega), if_pos ⟨h, hw, hw2⟩]
        congr 1
        have e1 : wrap64 (a0 - a3) = a0 - a3 := by unfold wrap64; omega
        rw [e1, Int.tdiv_eq_ediv_of_nonneg (by omega)]
        have h7 : 0 ≤ (a0 - a3) / wd := Int.ediv_nonneg (by omega) (by omega)
        have h8 : (a0 - a3) / wd ≤ a0 - a3 := Int.ediv_le_self _ (by omega)
        unfold wrap64
        omega
      · rw [Option.bind_some, decide_eq_false hw2, if_neg (by decide), if_neg (fun e => hw2 e.2.2)]
    · rw [if_neg hw, Option.bind_some, if_neg (by decide), if_neg (fun e => hw e.2.1)]
  · rw [if_neg h, Option.bind_some, if_neg (by decide), if_neg (fun e => h e.1)]

theorem groups_any (a0 a1 a2 a3 a4 a5 wd : Int) (w : World) :
    Calls Try.prog 15 #[.agg #[.int .i64 a0, .int .i64 a1, .int .i64 a2, .int .i64 a3, .int .i64 a4, .int .i64 a5], .int .i64 wd] w fun e w' => e = .returned (.int .i64 (grpO a0 a1 a2 a3 a4 a5 wd)) ∧ Below w.heap.size w w' :=
  layout_Groups.calls a0 a1 a2 a3 a4 a5 wd _ w (groups_f a0 a1 a2 a3 a4 a5 wd)

theorem grp_bounds (a0 a1 a2 a3 a4 a5 wd : Int) : 0 ≤ grpO a0 a1 a2 a3 a4 a5 wd ∧ grpO a0 a1 a2 a3 a4 a5 wd ≤ 64 := by
  unfold grpO
  split
  · next h =>
    obtain ⟨⟨h1, h2⟩, _, h5, h6⟩ := chk_ok h.1
    have h7 : 0 ≤ (a0 - a3) / wd := Int.ediv_nonneg (by omega) (by omega)
    have h8 : (a0 - a3) / wd ≤ a0 - a3 := Int.ediv_le_self _ (by omega)
    omega
  · omega

/-- The first group from i on that a list does not use in its place. -/
def gapL : List S37 → Nat → Nat
  | [], i => i
  | x :: r, i => if x.f0 = (i : Int) then gapL r (i + 1) else i
def gap0 (u : List S37) : Nat := gapL u 0
theorem gapL_le : ∀ (u : List S37) (i : Nat), i ≤ gapL u i ∧ gapL u i ≤ i + u.length
  | [], i => ⟨Nat.le_refl _, Nat.le_refl _⟩
  | x :: r, i => by
    rw [gapL]
    split
    · have := gapL_le r (i + 1); simp; omega
    · exact ⟨Nat.le_refl _, by simp⟩
theorem gap0_le (u : List S37) : gap0 u ≤ u.length := by have := (gapL_le u 0).2; unfold gap0; omega
theorem gapL_drop (u : List S37) (i : Nat) (h : i < u.length) : gapL (u.drop i) i = if (rd_T37 u (i : Int)).f0 = (i : Int) then gapL (u.drop (i + 1)) (i + 1) else i := by
  rw [List.drop_eq_getElem_cons h, gapL]
  simp [rd_T37, List.getD_eq_getElem?_getD, h]

/-- What Allocate returns. -/
def badO (a0 a1 a2 a3 a4 a5 code wd : Int) : Bool := decide (code < 0) || decide (code ≥ 8) || decide (wd < 1) || decide (wd > 32) || (grpO a0 a1 a2 a3 a4 a5 wd == 0)
def widthsOk (l : List S59) (code wd : Int) : Bool := (rowsOf code l).all fun j => (rd_T59 l (j : Int)).f1 == wd
def roomAt (l : List S59) (code g : Int) : Option Nat := (rowsOf code l).find? fun j => !(((rd_T59 l (j : Int)).f2.length : Int) == g)
def freeAt (l : List S59) : Option Nat := (rowsOf (-1) l).head?
def putRow (l : List S59) (j : Nat) (ge gc : Int) : List S59 := l.set j ⟨(rd_T59 l (j : Int)).f0, (rd_T59 l (j : Int)).f1, insAt (rd_T59 l (j : Int)).f2 (gap0 (rd_T59 l (j : Int)).f2) ⟨(gap0 (rd_T59 l (j : Int)).f2 : Int), ⟨ge, gc⟩⟩⟩
def allocO (a0 a1 a2 a3 a4 a5 : Int) (l : List S59) (code wd ge gc : Int) : List S59 × Int × Int × Int :=
  if badO a0 a1 a2 a3 a4 a5 code wd = true then ([], 0, 0, 1)
  else if widthsOk l code wd = false then ([], 0, 0, 1)
  else match roomAt l code (grpO a0 a1 a2 a3 a4 a5 wd) with
    | some j => (putRow l j ge gc, (j : Int), (gap0 (rd_T59 l (j : Int)).f2 : Int), 0)
    | none => match freeAt l with
      | some j => (l.set j ⟨code, wd, [⟨0, ⟨ge, gc⟩⟩]⟩, (j : Int), 0, 0)
      | none => ([], 0, 0, 16)

/-- What Allocate leaves, and returns. -/
def AlcPost (w : World) (p : List S59 × Int × Int × Int) (e : Ending) (w' : World) : Prop :=
  ∃ v, e = .returned (.tuple #[v, .agg #[.int .i64 p.2.1, .int .i64 p.2.2.1], .int .i64 p.2.2.2]) ∧ Kd.S k59 59 w' w.heap.size (fun k => w.heap.size ≤ k) v p.1 ∧ Below w.heap.size w w'

end Go.Proofs.Ytlodlblkmnhaeaa

/-
  No cell of these rows narrows 'for every input' (looked for: loops, veiled, ifaces, maps, wideKeys, modest, calm, conditions, laid).
  DERIVED. THE GIVEN ROWS OF THIS SEAT. 3 by the template 'for every input the law returns true; each argument reads behind the call as it read before'; 0 by the template 'total and deterministic' (their statements: YtlodlblkmnhaeaaTotals.lean).
  GIVEN WITH THE SEED: the statements are not yours to turn. If you find one false, say at which input.
  Laid BY PROGRAM, IN A SANDBOX (cutbox-rows.mjs): the forced cells as the released guide's own fill.sh prints them over the translation cbe8f5c20618ec45… (all of the seat's roots in one cut). By AI agents, Wed Nov 11 2026. No macro, syntax, notation, axiom, sorry.
-/
import Derived.Test.YtlodlblkmnhaeaaChecked
import GoSem.Claim
import GoSem.ClaimJoined
import GoSem.ClaimMapViews
import Derived.JoinedTies
import Derived.KernelRfl
namespace Go.Proofs.Ytlodlblkmnhaeaa
/- THE CELL 'sum', in the pinned program and in every row, IS THE sha256 OF THE DUMP (.gsa) THAT YtlodlblkmnhaeaaProg.lean LOADS. Nothing in Lean hashes anything: it is a label: what it is worth is what the hold of that sum in a sandbox is worth. -/
noncomputable def Try.pinned : Pinned := { name := "ytlodlblkmnhaeaa", sum := "cbe8f5c20618ec45a4a44d0e7bbeec7a41b8b32bbffd2fb1c6fc96adea8a9bc9", checked := Try.checked }
namespace Rows
def none {H : Type} : Left H := { results := [], args := [] }

/-- 'solventlaw24.StripesUndo': WHATEVER THE INPUT: true; the input reads as it did. -/
def stripesUndoSpec : ChangeSpec := { name := "stripesUndo", fn := fun _ => fun
  | [d1, d2, d3, d4, d5, d6] => { results := [.lit (.bool true)], args := [d1, d2, d3, d4, d5, d6] }
  | _ => none }
def stripesUndoRow : OpenClaim := { program := "ytlodlblkmnhaeaa", sum := "cbe8f5c20618ec45a4a44d0e7bbeec7a41b8b32bbffd2fb1c6fc96adea8a9bc9", func := "solvent/solventlaw24.StripesUndo", spec := "stripesUndo", inPlace := ["slices.overlaps[solvent/api.Used]"], unfollowed := true, recurses := true, apart := false }
def StripesUndoSaid : Prop := stripesUndoRow.holds Try.pinned (OpenSpec.ofChange stripesUndoSpec)

/-- ITS FALSE NEIGHBOUR: 'it returns false'. Refute it at one input. -/
def stripesUndoWrong : ChangeSpec := { name := "stripesUndo", fn := fun _ => fun
  | [d1, d2, d3, d4, d5, d6] => { results := [.lit (.bool false)], args := [d1, d2, d3, d4, d5, d6] }
  | _ => none }
def StripesUndoWrongFalsely : Prop := stripesUndoRow.holds Try.pinned (OpenSpec.ofChange stripesUndoWrong)

/-- 'solventlaw24.StripesStayValid': WHATEVER THE INPUT: true; the input reads as it did. -/
def stripesStayValidSpec : ChangeSpec := { name := "stripesStayValid", fn := fun _ => fun
  | [d1, d2] => { results := [.lit (.bool true)], args := [d1, d2] }
  | _ => none }
def stripesStayValidRow : OpenClaim := { program := "ytlodlblkmnhaeaa", sum := "cbe8f5c20618ec45a4a44d0e7bbeec7a41b8b32bbffd2fb1c6fc96adea8a9bc9", func := "solvent/solventlaw24.StripesStayValid", spec := "stripesStayValid", inPlace := ["slices.overlaps[solvent/api.Used]"], unfollowed := true, recurses := true, apart := false }
def StripesStayValidSaid : Prop := stripesStayValidRow.holds Try.pinned (OpenSpec.ofChange stripesStayValidSpec)

/-- ITS FALSE NEIGHBOUR: 'it returns false'. Refute it at one input. -/
def stripesStayValidWrong : ChangeSpec := { name := "stripesStayValid", fn := fun _ => fun
  | [d1, d2] => { results := [.lit (.bool false)], args := [d1, d2] }
  | _ => none }
def StripesStayValidWrongFalsely : Prop := stripesStayValidRow.holds Try.pinned (OpenSpec.ofChange stripesStayValidWrong)

/-- 'solventlaw24.StripesBounded': WHATEVER THE INPUT: true; the input reads as it did. -/
def stripesBoundedSpec : ChangeSpec := { name := "stripesBounded", fn := fun _ => fun
  | [d1, d2, d3, d4] => { results := [.lit (.bool true)], args := [d1, d2, d3, d4] }
  | _ => none }
def stripesBoundedRow : OpenClaim := { program := "ytlodlblkmnhaeaa", sum := "cbe8f5c20618ec45a4a44d0e7bbeec7a41b8b32bbffd2fb1c6fc96adea8a9bc9", func := "solvent/solventlaw24.StripesBounded", spec := "stripesBounded", inPlace := ["slices.overlaps[solvent/api.Used]"], unfollowed := true, recurses := true, apart := false }
def StripesBoundedSaid : Prop := stripesBoundedRow.holds Try.pinned (OpenSpec.ofChange stripesBoundedSpec)

/-- ITS FALSE NEIGHBOUR: 'it returns false'. Refute it at one input. -/
def stripesBoundedWrong : ChangeSpec := { name := "stripesBounded", fn := fun _ => fun
  | [d1, d2, d3, d4] => { results := [.lit (.bool false)], args := [d1, d2, d3, d4] }
  | _ => none }
def StripesBoundedWrongFalsely : Prop := stripesBoundedRow.holds Try.pinned (OpenSpec.ofChange stripesBoundedWrong)

/- THE SECOND FORM. 'bulk': how many values and letters a reading holds, each counted each time it is reached (what is shared counts as often as it is met; a slice's spare places count too). A statement '..UptoSaid' is the law's where the arguments, and the package variables that the reading takes, are together of bulk at most 1048576: NARROWER than '..Said'. Prove '..Said' where nothing that the law and all that it calls make is longer than what came in: it says more and counts as full. Else prove '..UptoSaid'. A law counts once. -/
mutual
def uptoBulk {H : Type} : DataW H → Nat
  | .lit (.string bytes) => bytes.length + 1
  | .lit _ => 1
  | .nil => 1
  | .ptr d => uptoBulk d + 1
  | .slice elems spare => uptoBulkAll elems + uptoBulkAll spare + 1
  | .agg parts => uptoBulkAll parts + 1
  | .iface _ d => uptoBulk d + 1
  | .map entries => uptoBulkEntries entries + 1
  | .held _ => 1
def uptoBulkAll {H : Type} : List (DataW H) → Nat
  | [] => 0
  | d :: r => uptoBulk d + uptoBulkAll r
def uptoBulkEntries {H : Type} : List (Lit × DataW H) → Nat
  | [] => 0
  | x :: r => uptoBulkEntry x + uptoBulkEntries r
def uptoBulkEntry {H : Type} : Lit × DataW H → Nat
  | (.string bytes, d) => bytes.length + uptoBulk d + 1
  | (_, d) => uptoBulk d + 1
 end
def uptoSmall : (H : Type) → List (DataW H) → Bool := fun _ ds => decide (uptoBulkAll ds ≤ 1048576)
def OpenSpec.upto (s : _root_.Go.ChangeSpec) : _root_.Go.OpenSpec := { _root_.Go.OpenSpec.ofChange s with cond := some uptoSmall }

/-- 'solventlaw24.StripesUndo', WHERE WHAT IT READS IS OF BULK AT MOST 1048576: true; the input reads as it did. -/
def stripesUndoUptoRow : OpenClaim := { program := "ytlodlblkmnhaeaa", sum := "cbe8f5c20618ec45a4a44d0e7bbeec7a41b8b32bbffd2fb1c6fc96adea8a9bc9", func := "solvent/solventlaw24.StripesUndo", spec := "stripesUndo", inPlace := ["slices.overlaps[solvent/api.Used]"], unfollowed := true, recurses := true, apart := false, narrowed := true }
def StripesUndoUptoSaid : Prop := stripesUndoUptoRow.holds Try.pinned (OpenSpec.upto stripesUndoSpec)

/-- 'solventlaw24.StripesStayValid', WHERE WHAT IT READS IS OF BULK AT MOST 1048576: true; the input reads as it did. -/
def stripesStayValidUptoRow : OpenClaim := { program := "ytlodlblkmnhaeaa", sum := "cbe8f5c20618ec45a4a44d0e7bbeec7a41b8b32bbffd2fb1c6fc96adea8a9bc9", func := "solvent/solventlaw24.StripesStayValid", spec := "stripesStayValid", inPlace := ["slices.overlaps[solvent/api.Used]"], unfollowed := true, recurses := true, apart := false, narrowed := true }
def StripesStayValidUptoSaid : Prop := stripesStayValidUptoRow.holds Try.pinned (OpenSpec.upto stripesStayValidSpec)

/-- 'solventlaw24.StripesBounded', WHERE WHAT IT READS IS OF BULK AT MOST 1048576: true; the input reads as it did. -/
def stripesBoundedUptoRow : OpenClaim := { program := "ytlodlblkmnhaeaa", sum := "cbe8f5c20618ec45a4a44d0e7bbeec7a41b8b32bbffd2fb1c6fc96adea8a9bc9", func := "solvent/solventlaw24.StripesBounded", spec := "stripesBounded", inPlace := ["slices.overlaps[solvent/api.Used]"], unfollowed := true, recurses := true, apart := false, narrowed := true }
def StripesBoundedUptoSaid : Prop := stripesBoundedUptoRow.holds Try.pinned (OpenSpec.upto stripesBoundedSpec)

end Rows
end Go.Proofs.Ytlodlblkmnhaeaa

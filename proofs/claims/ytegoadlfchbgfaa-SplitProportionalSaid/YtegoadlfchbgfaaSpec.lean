/- What split.Weighted answers, as a plain Lean function: the share rounded down, and one more for those whose remainder is among the greatest. No program in sight. -/
namespace Go.Proofs.Ytegoadlfchbgfaa

/-- the weights and the total are valid. -/
def wOk (total : Int) (ws : List Int) : Bool :=
  decide (ws.length ≤ 65536) && ws.all (fun x => decide (0 ≤ x)) && decide (ws.sum ≤ 2147483647) && decide (0 < ws.sum) && decide (0 ≤ total) && decide (total ≤ 2147483647)
def wAt (ws : List Int) (j : Nat) : Int := ws.getD j 0
def wShare (total : Int) (ws : List Int) (j : Nat) : Int := total * wAt ws j / ws.sum
def wRem (total : Int) (ws : List Int) (j : Nat) : Int := total * wAt ws j % ws.sum
/-- i stands ahead of j in the order of the remainders. -/
def wAhead (total : Int) (ws : List Int) (i j : Nat) : Bool :=
  decide (wRem total ws j < wRem total ws i) || (decide (wRem total ws i = wRem total ws j) && decide (i < j))
def wRank (total : Int) (ws : List Int) (j : Nat) : Nat := ((List.range ws.length).filter fun i => wAhead total ws i j).length
def wLeft (total : Int) (ws : List Int) : Int := total - ((List.range ws.length).map (wShare total ws)).sum
def wGive (total : Int) (ws : List Int) (j : Nat) : Int := wShare total ws j + (if (wRank total ws j : Int) < wLeft total ws then 1 else 0)
def wList (total : Int) (ws : List Int) : List Int := (List.range ws.length).map (wGive total ws)

end Go.Proofs.Ytegoadlfchbgfaa

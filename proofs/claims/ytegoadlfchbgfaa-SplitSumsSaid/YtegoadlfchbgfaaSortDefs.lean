/- Plain functions on arrays that say what the library's stable sort does (swapRange, rotate, symMerge, stable): no program in sight. -/
import Derived.Sort.Defs
namespace Go.Proofs.Ytegoadlfchbgfaa
open Go.Sort
variable {α : Type} [Inhabited α]

/-- n exchanges of the element a + i with the element b + i. -/
def swapRange (d : Array α) (a b : Nat) : Nat → Array α
  | 0 => d
  | n + 1 => swp (swapRange d a b n) (a + n) (b + n)

/-- the loop of the rotation, with i elements ahead of m and j behind it still to be exchanged. -/
def rotLoop (m : Nat) : Nat → Nat → Nat → Array α → Array α
  | 0, _, _, d => d
  | f + 1, i, j, d =>
    if i = j then swapRange d (m - i) m i
    else if j < i then rotLoop m f (i - j) j (swapRange d (m - i) m j)
    else rotLoop m f i (j - i) (swapRange d (m - i) (m + j - i) i)

def rotate (d : Array α) (a m b : Nat) : Array α := rotLoop m (b - a) (m - a) (b - m) d

/-- binary search: the first place from i on (below j) at which p is false. -/
def bsearch (p : Nat → Bool) : Nat → Nat → Nat → Nat
  | 0, i, _ => i
  | f + 1, i, j => if i < j then (if p ((i + j) / 2) then bsearch p f ((i + j) / 2 + 1) j else bsearch p f i ((i + j) / 2)) else i

/-- the exchanges k, k + 1 for k from a on, n times. -/
def shiftUp1 : Nat → Nat → Array α → Array α
  | 0, _, d => d
  | n + 1, k, d => shiftUp1 n (k + 1) (swp d k (k + 1))

/-- the exchanges k, k - 1 for k from k down, n times. -/
def shiftDown1 : Nat → Nat → Array α → Array α
  | 0, _, d => d
  | n + 1, k, d => shiftDown1 n (k - 1) (swp d k (k - 1))

def smMid (a b : Nat) : Nat := (a + b) / 2
def smStart0 (a m b : Nat) : Nat := if smMid a b < m then smMid a b + m - b else a
def smR0 (a m b : Nat) : Nat := if smMid a b < m then smMid a b else m
def smStart (lt : α → α → Bool) (d : Array α) (a m b : Nat) : Nat :=
  bsearch (fun c => !lt d[smMid a b + m - 1 - c]! d[c]!) (b - a) (smStart0 a m b) (smR0 a m b)

def symMerge (lt : α → α → Bool) : Nat → Array α → Nat → Nat → Nat → Array α
  | 0, d, _, _, _ => d
  | f + 1, d, a, m, b =>
    if m - a = 1 then shiftUp1 (bsearch (fun h => lt d[h]! d[a]!) (b - m) m b - 1 - a) a d
    else if b - m = 1 then shiftDown1 (m - bsearch (fun h => !lt d[m]! d[h]!) (m - a) a m) m d
    else
      let mid := smMid a b
      let start := smStart lt d a m b
      let fin := mid + m - start
      let d1 := if start < m ∧ m < fin then rotate d start m fin else d
      let d2 := if a < start ∧ start < mid then symMerge lt f d1 a start mid else d1
      if mid < fin ∧ fin < b then symMerge lt f d2 mid fin b else d2

end Go.Proofs.Ytegoadlfchbgfaa

/- What schedule.next computes, in plain Lean, and the contracts of best at the program's conditions. -/
import Derived.Test.YtmpeekkbmfbjeaaRebWalk
namespace Go.Proofs.Ytmpeekkbmfbjeaa
open Go.RowKit Go.Lib Go.Proofs.Ytmpeekkbmfbjeaa.P Go.Proofs.YtmpeekkbmfbjeaaW.PrintWords Go.Proofs.YtmpeekkbmfbjeaaW.PrintLast Go.Proofs.YtmpeekkbmfbjeaaW.PrintMore

def canP (t : S58) : Bool := decide (wgt t.f0 > 0) && (decide (t.f0 ≠ 1) || (decide (t.f2 ≥ 0) && decide (t.f3 > 0)))
def urgP (t : S58) : Bool := decide (t.f0 = 1) && canP t && decide (t.f2 = 0)
def plc (s t : S58) : Int := cmpOr [Lib.compareInt s.f1.f0 t.f1.f0, Lib.compareInt s.f1.f1 t.f1.f1]
def cfK (kind : Int) (s t : S58) : Int := if kind = 1 then reb s t else plc s t

theorem can_f (t : S58) : schedule_Task_can.f t.f0 t.f1.f0 t.f1.f1 t.f2 t.f3 = some (canP t) := by
  unfold schedule_Task_can.f schedule_Weight.f canP
  have w1 : wgt 1 = 4 := rfl
  simp only [Option.bind_some]
  by_cases h1 : wgt t.f0 > 0
  · rw [if_pos h1]
    by_cases h2 : t.f0 = 1
    · rw [if_pos h2]
      by_cases h3 : t.f2 ≥ 0
      · rw [if_pos h3]; simp [h2, h3, w1]
      · rw [if_neg h3]; simp [h2, h3]
    · rw [if_neg h2]; simp [h1, h2]
  · rw [if_neg h1]; simp [h1]
theorem can_any (t : S58) (W : World) : Calls Try.prog 35 #[tv t] W fun e w' => e = .returned (.bool (canP t)) ∧ Below W.heap.size W w' :=
  schedule_Task_can.calls t.f0 t.f1.f0 t.f1.f1 t.f2 t.f3 (canP t) W (can_f t)

theorem urg_any (t : S58) (W : World) : Calls Try.prog 31 #[tv t] W fun e w' => e = .returned (.bool (urgP t)) ∧ Below W.heap.size W w' := by
  refine schedule_Task_urgent.calls t.f0 t.f1.f0 t.f1.f1 t.f2 t.f3 (urgP t) W ?_
  unfold schedule_Task_urgent.f urgP
  rw [can_f]
  simp only [Option.bind_some]
  by_cases h1 : t.f0 = 1
  · rw [if_pos h1]
    by_cases h2 : canP t = true
    · rw [if_pos h2]
      simp only [h1, h2, decide_true, Bool.true_and]
      rfl
    · rw [if_neg h2]; simp [h2]
  · rw [if_neg h1]; simp [h1]

theorem compare_f (x y : Int) : cmp_Compare_int.f x y = some (Lib.compareInt x y) := by
  unfold cmp_Compare_int.f Lib.compareInt
  try simp only [cmp_isNaN_int.f, Option.bind_some]
  (repeat' split) <;> first | rfl | (exfalso; omega) | (exfalso; simp_all)

theorem places_any (s t : S58) (W : World) : Calls Try.prog 41 #[tv s, tv t] W fun e w' => e = .returned (.int .i64 (plc s t)) ∧ Below W.heap.size W w' := by
  refine schedule_places.calls 10 s.f0 s.f1.f0 s.f1.f1 s.f2 s.f3 t.f0 t.f1.f0 t.f1.f1 t.f2 t.f3 (plc s t) W ?_
  unfold schedule_places.f
  rw [compare_f, compare_f]
  simp only [Option.bind_some]
  have := or_l0 [Lib.compareInt s.f1.f0 t.f1.f0, Lib.compareInt s.f1.f1 t.f1.f1] (by simp) 2 10 0 rfl (by decide)
  rw [show cmp_Or_int.f 10 [Lib.compareInt s.f1.f0 t.f1.f0, Lib.compareInt s.f1.f1 t.f1.f1] = some (plc s t) from this]
  rfl

theorem enters31 : ∀ args w, (callFunc 31 args).run Try.prog w = .ok (.enter 31 args) w := fun args w => enters_ Try.func31 (by kernel_rfl) rfl args w
theorem enters35 : ∀ args w, (callFunc 35 args).run Try.prog w = .ok (.enter 35 args) w := fun args w => enters_ Try.func35 (by kernel_rfl) rfl args w
theorem enters40 : ∀ args w, (callFunc 40 args).run Try.prog w = .ok (.enter 40 args) w := fun args w => enters_ Try.func40 (by kernel_rfl) rfl args w
theorem enters41 : ∀ args w, (callFunc 41 args).run Try.prog w = .ok (.enter 41 args) w := fun args w => enters_ Try.func41 (by kernel_rfl) rfl args w
theorem entersC (kind : Int) : ∀ args w, (callFunc (cmpN kind) args).run Try.prog w = .ok (.enter (cmpN kind) args) w := by
  unfold cmpN
  split
  · exact enters40
  · exact enters41

theorem canP_bad {t : S58} (h : canP t = true) (k : t.f0 = 1) : 0 < t.f3 := by
  unfold canP at h
  simp [k] at h
  omega
theorem urgP_can {t : S58} (h : urgP t = true) : canP t = true := by
  unfold urgP at h
  simp only [Bool.and_eq_true] at h
  exact h.1.2

theorem cmp_any (kind : Int) (s t : S58) (W : World) (h1 : canP s = true) (h2 : canP t = true) (k1 : s.f0 = kind) (k2 : t.f0 = kind) :
    Calls Try.prog (cmpN kind) #[tv s, tv t] W fun e w' => e = .returned (.int .i64 (cfK kind s t)) ∧ Below W.heap.size W w' := by
  unfold cmpN cfK
  by_cases h : kind = 1
  · subst h
    rw [if_pos rfl, if_pos rfl]
    exact rebuilds_any s t W (canP_bad h1 k1) (canP_bad h2 k2)
  · rw [if_neg h, if_neg h]
    exact places_any s t W

def bestC (l : List S58) (left : List Int) (kind : Int) : Int := bst l kind canP (cfK kind) left
def bestU (l : List S58) (left : List Int) : Int := bst l 1 urgP (cfK 1) left

def InL (l : List S58) (left : List Int) : Prop := (∀ j, j < left.length → 0 ≤ rd left (j : Int) ∧ rd left (j : Int) < l.length) ∧ left.length < 2305843009213693952

theorem bestC_any (A : Option Addr) (c : Nat) (l : List S58) (B : Option Addr) (d : Nat) (left : List Int) (kind : Int) (w : World)
    (hl : Kd.C k58 w A l.length l) (hle : Kd.C (Kd.int .i64) w B left.length left) (hin : InL l left) :
    Calls Try.prog 30 #[.slice A l.length c, .slice B left.length d, .int .i64 kind, .func (.func 35) #[] #[]] w fun e w' =>
      e = .returned (.int .i64 (bestC l left kind)) ∧ Below w.heap.size w w' :=
  best_any A c l B d left kind 35 canP (cfK kind) w hl hle hin.1 hin.2 enters35 (entersC kind) can_any (fun s t W h1 h2 => cmp_any kind s t W h1 h2)

theorem bestU_any (A : Option Addr) (c : Nat) (l : List S58) (B : Option Addr) (d : Nat) (left : List Int) (w : World)
    (hl : Kd.C k58 w A l.length l) (hle : Kd.C (Kd.int .i64) w B left.length left) (hin : InL l left) :
    Calls Try.prog 30 #[.slice A l.length c, .slice B left.length d, .int .i64 1, .func (.func 31) #[] #[]] w fun e w' =>
      e = .returned (.int .i64 (bestU l left)) ∧ Below w.heap.size w w' :=
  best_any A c l B d left 1 31 urgP (cfK 1) w hl hle hin.1 hin.2 enters31 (entersC 1) urg_any (fun s t W h1 h2 => cmp_any 1 s t W (urgP_can h1) (urgP_can h2))

/-! ### next, plainly -/
def nRound (l : List S58) (left : List Int) (st : List Int × Int × Int) (i : Nat) : List Int × Int × Int :=
  if bestC l left ((i : Int) + 1) < 0 then st
  else (st.1.set i (rd st.1 (i : Int) + wgt ((i : Int) + 1)), st.2.1 + wgt ((i : Int) + 1),
    if st.2.2 = 0 ∨ rd st.1 (i : Int) + wgt ((i : Int) + 1) > rd st.1 (st.2.2 - 1) then (i : Int) + 1 else st.2.2)
def nFold (l : List S58) (left : List Int) (cr : List Int) : Nat → List Int × Int × Int
  | 0 => (cr, 0, 0)
  | n + 1 => nRound l left (nFold l left cr n) n
def clamp (n : Int) : Int := min (max n (-1000)) 1000
def nxt (l : List S58) (left : List Int) (cr : List Int) : List Int × Int :=
  if bestU l left ≥ 0 then (cr, bestU l left)
  else if (nFold l left cr 5).2.2 = 0 then ((nFold l left cr 5).1, -1)
  else (((nFold l left cr 5).1.set ((nFold l left cr 5).2.2 - 1).toNat (rd (nFold l left cr 5).1 ((nFold l left cr 5).2.2 - 1) - (nFold l left cr 5).2.1)).map clamp, bestC l left (nFold l left cr 5).2.2)

theorem wgt_bd (a : Int) : 0 ≤ wgt a ∧ wgt a ≤ 4 := by unfold wgt; (repeat' split) <;> decide
theorem rd_set (cr : List Int) (i j : Nat) (v : Int) (hi : i < cr.length) : rd (cr.set i v) (j : Int) = if j = i then v else rd cr (j : Int) := by
  by_cases h : j = i
  · subst h
    simp [rd, List.getD_eq_getElem?_getD, hi]
  · rw [if_neg h]
    have : i ≠ j := fun e => h e.symm
    simp [rd, List.getD_eq_getElem?_getD, List.getElem?_set_ne this]

structure NB (n : Nat) (st : List Int × Int × Int) : Prop where
  len : st.1.length = 5
  bd : ∀ j : Nat, j < 5 → -1000 ≤ rd st.1 (j : Int) ∧ rd st.1 (j : Int) ≤ 1000 + 4 * (n : Int)
  sum0 : 0 ≤ st.2.1
  sum1 : st.2.1 ≤ 4 * (n : Int)
  top0 : 0 ≤ st.2.2
  top1 : st.2.2 ≤ (n : Int)

def COk (cr : List Int) : Prop := cr.length = 5 ∧ ∀ j : Nat, j < 5 → -1000 ≤ rd cr (j : Int) ∧ rd cr (j : Int) ≤ 1000

theorem nFold_bd (l : List S58) (left cr : List Int) (h : COk cr) : ∀ n, n ≤ 5 → NB n (nFold l left cr n)
  | 0, _ => ⟨h.1, fun j hj => by have := h.2 j hj; simp only [nFold]; omega, Int.le_refl _, Int.le_refl _, Int.le_refl _, Int.le_refl _⟩
  | n + 1, hn => by
    have ih := nFold_bd l left cr h n (by omega)
    have hw := wgt_bd ((n : Int) + 1)
    have hb := ih.bd
    have s0 := ih.sum0
    have s1 := ih.sum1
    have t0 := ih.top0
    have t1 := ih.top1
    simp only [nFold, nRound]
    split
    · refine ⟨ih.len, fun j hj => ?_, s0, ?_, t0, ?_⟩
      · have := hb j hj; omega
      · omega
      · omega
    · refine ⟨by simp [ih.len], fun j hj => ?_, ?_, ?_, ?_, ?_⟩
      · rw [rd_set _ _ _ _ (by rw [ih.len]; omega)]
        split
        · have := hb n (by omega); omega
        · have := hb j hj; omega
      · show 0 ≤ _ + _; omega
      · show _ + _ ≤ _; omega
      · show 0 ≤ ite _ _ _; split <;> omega
      · show ite _ _ _ ≤ _; split <;> omega

/-! ### the credits in memory -/
def Crd (w : World) (g n : Nat) (cr : List Int) : Prop := ∃ cs : Array Value, w.heap[g]? = some (.cells cs 3 (0, 0)) ∧ cs.size = n ∧ cs.toList.take cr.length = cr.map (Value.int .i64) ∧ cr.length ≤ n
theorem Crd.lt {w : World} {g n : Nat} {cr : List Int} (h : Crd w g n cr) : g < w.heap.size := by
  obtain ⟨cs, h1, _⟩ := h
  exact blk_lt h1
theorem Crd.frozen {w : World} {g n : Nat} {cr : List Int} (h : Crd w g n cr) (i : Nat) : w.frozen? ⟨g, i, none⟩ = false := by
  obtain ⟨cs, h1, _⟩ := h
  exact blk_frozen h1 i
theorem Crd.cell {w : World} {g n : Nat} {cr : List Int} (h : Crd w g n cr) (i : Nat) (hi : i < cr.length) : w.cell? ⟨g, i, none⟩ = some (.int .i64 (rd cr (i : Int))) := by
  obtain ⟨cs, h1, h2, h3, h4⟩ := h
  rw [blk_cell h1 i, ← Array.getElem?_toList]
  have : cs.toList[i]? = (cr.map (Value.int .i64))[i]? := by rw [← h3, List.getElem?_take, if_pos hi]
  rw [this, List.getElem?_map, List.getElem?_eq_getElem hi]
  simp [rd, List.getD_eq_getElem?_getD, hi]
theorem Crd.set {w : World} {g n : Nat} {cr : List Int} (h : Crd w g n cr) (i : Nat) (v : Int) : Crd (w.setCell ⟨g, i, none⟩ (.int .i64 v)) g n (cr.set i v) := by
  obtain ⟨cs, h1, h2, h3, h4⟩ := h
  refine ⟨cs.setIfInBounds i (.int .i64 v), blk_set h1 i _, by simp [h2], ?_, by simpa using h4⟩
  rw [List.length_set, Array.toList_setIfInBounds, List.take_set, h3, List.map_set]
theorem Crd.below {w w1 : World} {g n : Nat} {cr : List Int} (h : Crd w g n cr) (hb : Below w.heap.size w w1) : Crd w1 g n cr := by
  have hlt := h.lt
  obtain ⟨cs, h1, h2⟩ := h
  exact ⟨cs, (hb.block g hlt).trans h1, h2⟩

structure Turn (g : Nat) (w w' : World) : Prop where
  os : w'.os = w.os
  tape : w'.tape = w.tape
  output : w'.output = w.output
  size : w.heap.size ≤ w'.heap.size
  block : ∀ k, k < w.heap.size → k ≠ g → w'.heap[k]? = w.heap[k]?
theorem Turn.of {g : Nat} {w w' : World} (h : Below w.heap.size w w') : Turn g w w' := ⟨h.os, h.tape, h.output, h.size, fun k hk _ => h.block k hk⟩
theorem Turn.below {g : Nat} {w a b : World} (h : Turn g w a) (k : Below a.heap.size a b) : Turn g w b :=
  ⟨k.os.trans h.os, k.tape.trans h.tape, k.output.trans h.output, Nat.le_trans h.size k.size, fun i hi hg => (k.block i (Nat.lt_of_lt_of_le hi h.size)).trans (h.block i hi hg)⟩
theorem Turn.set {g : Nat} {w a : World} (h : Turn g w a) (i : Nat) (v : Value) : Turn g w (a.setCell ⟨g, i, none⟩ v) :=
  ⟨h.os, h.tape, h.output, by simpa [World.setCell] using h.size, fun k hk hg => (Below.heap_setCell a ⟨g, i, none⟩ v k hg).trans (h.block k hk hg)⟩
theorem Turn.keep {g : Nat} {w a : World} (h : Turn g w a) : KeepBut w a g none := ⟨h.size, fun i hi hg _ => h.block i hi hg⟩
theorem Turn.grown {g : Nat} {w a : World} (h : Turn g w a) : w.grownBy a (some g) := ⟨h.os, h.tape, h.output, h.size, fun k hk hg => h.block k hk (fun e => hg (by rw [e]))⟩
theorem Turn.cell {g : Nat} {w a : World} (h : Turn g w a) {k i : Nat} {v : Value} (hk : k < w.heap.size) (hg : k ≠ g) (hc : w.cell? ⟨k, i, none⟩ = some v) : a.cell? ⟨k, i, none⟩ = some v := (cell_same (h.block k hk hg) i).trans hc

end Go.Proofs.Ytmpeekkbmfbjeaa

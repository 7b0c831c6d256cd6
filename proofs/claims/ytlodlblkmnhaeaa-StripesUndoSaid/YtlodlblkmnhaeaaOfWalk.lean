/- The walk of stripes.of: the iterator over the rows of a code, by its contract. -/
import Derived.RangeFuncNested
import Derived.RangeFuncBound
import Derived.RangeFuncCalls
import Derived.RangeFuncLeaves
import Derived.Shelf.Abstract
import Derived.Shelf.RegionOpen
import Derived.WalkKit
import Derived.OwnWalkIn
import Derived.TacticsInMore
import Derived.LoopNIn
import Derived.LoopIn
import Derived.Lib.Hide
import Derived.Lib.JoinLaws
import Derived.Lib.SliceRun
import Derived.Test.YtlodlblkmnhaeaaPx0
namespace Go.Proofs.Ytlodlblkmnhaeaa
set_option linter.unusedVariables false
open Go.RowKit Go.Shelf Go.Proofs.Ytlodlblkmnhaeaa.P Go.Proofs.YtlodlblkmnhaeaaW.PrintWords Go.Proofs.YtlodlblkmnhaeaaW.PrintLast Go.Proofs.YtlodlblkmnhaeaaW.PrintMore
attribute [local go_sem] Oper.semAt_some

/-- A row as it stands in memory: its value, where its list stands, and the list's capacity. -/
structure RowA where
  x : S59
  A : Option Addr
  c : Nat
def zA : RowA := ⟨z59, none, 0⟩
/-- Row j of rows. -/
def rA (R : List RowA) (j : Nat) : RowA := R.getD j zA
def RowA.val (r : RowA) : Value := .agg #[.int .i64 r.x.f0, .int .i64 r.x.f1, .slice r.A r.x.f2.length r.c]
/-- A row of a code, by its number. -/
abbrev Jx (code : Int) (R : List RowA) (len : Nat) := { j : Nat // j < len ∧ (rA R j).x.f0 = code }
def encO (code : Int) (R : List RowA) (len : Nat) (p : Jx code R len) : Array Value := #[.int .i64 (p.1 : Int), (rA R p.1).val]
/-- The numbers of the rows of a code among the first k. -/
def ofJ (code : Int) (R : List RowA) : Nat → List Nat
  | 0 => []
  | k + 1 => ofJ code R k ++ (if (rA R k).x.f0 = code then [k] else [])
theorem ofJ_hit {code : Int} {R : List RowA} {k : Nat} (h : (rA R k).x.f0 = code) : ofJ code R (k + 1) = ofJ code R k ++ [k] := by rw [ofJ, if_pos h]
theorem ofJ_miss {code : Int} {R : List RowA} {k : Nat} (h : ¬ (rA R k).x.f0 = code) : ofJ code R (k + 1) = ofJ code R k := by rw [ofJ, if_neg h, List.append_nil]
theorem ofJ_len (code : Int) (R : List RowA) : ∀ k, (ofJ code R k).length ≤ k
  | 0 => Nat.le_refl _
  | k + 1 => by
    have := ofJ_len code R k
    rw [ofJ, List.length_append]
    split <;> simp <;> omega

/-- The cells of the rows, as they stand in w, below n₀. -/
def RowsAt (n₀ : Nat) (w : World) (A : Option Addr) (n : Nat) (R : List RowA) : Prop :=
  R.length = n ∧ n ≤ 1000000 ∧ (0 < n → ∃ ad, A = some ad ∧ ∀ j, j < n → (ad.add (j * 3)).block < n₀ ∧ w.cell? (ad.add (j * 3)) = some (.int .i64 (rA R j).x.f0) ∧ w.cell? ⟨(ad.add (j * 3)).block, (ad.add (j * 3)).off + 1, none⟩ = some (.int .i64 (rA R j).x.f1) ∧
    w.cell? ⟨(ad.add (j * 3)).block, (ad.add (j * 3)).off + 2, none⟩ = some (.slice (rA R j).A (rA R j).x.f2.length (rA R j).c))

theorem RowsAt.below {n₀ : Nat} {w w1 : World} {A : Option Addr} {n : Nat} {R : List RowA} (h : RowsAt n₀ w A n R) (hb : Below n₀ w w1) : RowsAt n₀ w1 A n R := by
  obtain ⟨h1, h2, h3⟩ := h
  refine ⟨h1, h2, fun hp => ?_⟩
  obtain ⟨ad, e, h4⟩ := h3 hp
  refine ⟨ad, e, fun j hj => ?_⟩
  obtain ⟨a, b, c, d⟩ := h4 j hj
  exact ⟨a, (hb.cell a).trans b, (hb.cell (p := ⟨(ad.add (j * 3)).block, (ad.add (j * 3)).off + 1, none⟩) a).trans c, (hb.cell (p := ⟨(ad.add (j * 3)).block, (ad.add (j * 3)).off + 2, none⟩) a).trans d⟩

/-- Rows that are read, as they stand. -/
theorem rowsAt_of {w : World} {A : Option Addr} {l : List S59} (h : Kd.C k59 w A l.length l) (hn : l.length ≤ 1000000) :
    ∃ R : List RowA, R.map RowA.x = l ∧ RowsAt w.heap.size w A l.length R ∧ ∀ j, j < l.length → (rA R j).x.f2.length ≤ (rA R j).c ∧ Kd.C k37 w (rA R j).A (rA R j).x.f2.length (rA R j).x.f2 := by
  have ex : ∀ j : Nat, ∃ r : RowA, j < l.length → r.x = rd_T59 l (j : Int) ∧ r.x.f2.length ≤ r.c ∧ Kd.C k37 w r.A r.x.f2.length r.x.f2 ∧ ∃ ad, A = some ad ∧ w.cell? (ad.add (j * 3)) = some (.int .i64 r.x.f0) ∧ w.cell? ⟨(ad.add (j * 3)).block, (ad.add (j * 3)).off + 1, none⟩ = some (.int .i64 r.x.f1) ∧
      w.cell? ⟨(ad.add (j * 3)).block, (ad.add (j * 3)).off + 2, none⟩ = some (.slice r.A r.x.f2.length r.c) := fun j => by
    by_cases hj : j < l.length
    · obtain ⟨ad, A2, c2, e, h0, h1, h2, h3, h4⟩ := at_T59 h (j : Int) (by omega) (by omega)
      rw [Int.toNat_natCast] at h0 h1 h2
      exact ⟨⟨rd_T59 l (j : Int), A2, c2⟩, fun _ => ⟨rfl, h3, h4, ad, e, h0, h1, h2⟩⟩
    · exact ⟨zA, fun h => absurd h hj⟩
  obtain ⟨f, hf⟩ := Classical.axiomOfChoice ex
  have hr : ∀ j, j < l.length → rA ((List.range l.length).map f) j = f j := fun j hj => by
    unfold rA
    rw [List.getD_eq_getElem?_getD, List.getElem?_map, List.getElem?_range hj]
    rfl
  refine ⟨(List.range l.length).map f, ?_, ⟨by simp, hn, fun hp => ?_⟩, fun j hj => ?_⟩
  · apply List.ext_getElem
    · simp
    · intro j h1 h2
      simp only [List.getElem_map, List.getElem_range]
      rw [(hf j h2).1]
      simp [rd_T59, List.getD_eq_getElem?_getD, h2]
  · obtain ⟨_, _, _, ad, e, _⟩ := hf 0 hp
    refine ⟨ad, e, fun j hj => ?_⟩
    obtain ⟨_, _, _, ad', e', h0, h1, h2⟩ := hf j hj
    rw [e] at e'
    obtain rfl := Option.some.inj e'
    rw [hr j hj]
    exact ⟨block_lt_of_cell h0, h0, h1, h2⟩
  · rw [hr j hj]
    exact ⟨(hf j hj).2.1, (hf j hj).2.2.1⟩

/-- How the iterator ends. -/
def OfEnd (code : Int) (R : List RowA) (len : Nat) (J Jz : List (Jx code R len) → World → Prop) (e : Ending) (W' : World) : Prop :=
  (∃ v, e = .returned v) ∧ ((∃ ys, ys.map Subtype.val = ofJ code R len ∧ J ys W') ∨ (∃ pre, (∃ k, k ≤ len ∧ pre.map Subtype.val = ofJ code R k) ∧ Jz pre W'))

/-- What a round keeps: whatever lay below n₀, and the box with the code. -/
def Kq (n₀ Bc : Nat) (W W' : World) : Prop := Below n₀ W W' ∧ ∀ v, Boxed W Bc 3 v → Boxed W' Bc 3 v
theorem kq_t {n₀ Bc : Nat} {A B C : World} (h : Kq n₀ Bc A B) (k : Kq n₀ Bc B C) : Kq n₀ Bc A C := ⟨h.1.trans k.1, fun v hv => k.2 v (h.2 v hv)⟩
theorem kq_b {n₀ Bc : Nat} {w : World} (hn : n₀ ≤ w.heap.size) (hc : Bc < w.heap.size) (W : World) (l : Nat) (o o' : Obj) (hl : w.heap.size ≤ l) (h : W.heap[l]? = some o) (h1 : o.isCells = false) (h2 : o.isWalk = false) : Kq n₀ Bc W (W.putObj l o') :=
  ⟨belowK_b hn W l o o' hl h h1 h2, fun v hv => (World.putObj_heap_other (by omega)).trans hv⟩

set_option maxRecDepth 100000 in
set_option maxHeartbeats 4000000 in
theorem of1_in (F : Fence) (n : Nat) (h34 : F.fn 34) (hro : F.round = none) (hn : 1 ≤ n) (l Br Bc n₀ len cap : Nat) (A : Option Addr) (code : Int) (R : List RowA) (J Jz : List (Jx code R len) → World → Prop)
    (hJ : ∀ pre W W', J pre W → W.grownBy W' none → J pre W')
    (hY : ∀ pre x W, J pre W → pre.length < len → YieldAt F (n - 1) Try.prog l (encO code R len x) W fun e W' =>
      (e = .returned (.bool true) ∧ J (pre ++ [x]) W' ∧ Kq n₀ Bc W W') ∨ (e = .returned (.bool false) ∧ Jz (pre ++ [x]) W'))
    (W : World) (hW : n₀ ≤ W.heap.size) (hB1 : W.cell? ⟨Br, 0, none⟩ = some (.slice A len cap)) (hB2 : Boxed W Bc 3 (.int .i64 code)) (hR : RowsAt n₀ W A len R) (h0 : J [] W) :
    CallsIn F n Try.prog 34 #[.func (.yield l) #[] #[], .pointer (some ⟨Br, 0, none⟩), .pointer (some ⟨Bc, 0, none⟩)] W (OfEnd code R len J Jz) := by
  have hu59 := Try.underlying59
  refine callsIn_of_wp Try.func34 rfl h34 ?_ hro
  simp only [Try.ntmps34, List.size_toArray, List.length_cons, List.length_nil, Nat.reduceAdd, Nat.reduceSub, Array.replicate_succ, Array.replicate_zero, List.push_toArray, List.append_toArray, List.nil_append, List.cons_append]
  gi_wp2
  gi_loopw [8] (fun i wr => ∃ (k : Nat) (pre : List (Jx code R len)), k ≤ len ∧ i = .int .i64 k ∧ Hid (pre.map Subtype.val = ofJ code R k) ∧ J pre wr ∧ Below n₀ W wr ∧ Boxed wr Bc 3 (.int .i64 code)) (fun i _ => len - (intOf i).toNat)
  case atStart => exact ⟨0, [], Nat.zero_le _, rfl, rfl, h0, Below.refl _ _, hB2⟩
  case round =>
    obtain ⟨k, pre, hk, rfl, HP, hJs, hb, hbc⟩ := hrel
    by_cases hlt : k < len
    · have hlen : len ≤ 1000000 := hR.2.1
      obtain ⟨ad, rfl, h4⟩ := (hR.below hb).2.2 (by omega)
      obtain ⟨ha, hc0, hc1, hc2⟩ := h4 k hlt
      have hltz : (k : Int) < (len : Int) := by omega
      obtain ⟨r, hr⟩ : ∃ r, r = rA R k := ⟨_, rfl⟩
      rw [← hr] at hc0 hc1 hc2
      have HR := Lib.hid hr
      have HRR : Aside _ := hR
      have hcode2 : (wr.alloc (.cells #[.int .i64 r.x.f0, .int .i64 r.x.f1, .slice r.A r.x.f2.length r.c] 59)).cell? ⟨Bc, 0, none⟩ = some (.int .i64 code) := (hbc.alloc _).cell
      have hbc2 := hbc.alloc (.cells #[.int .i64 r.x.f0, .int .i64 r.x.f1, .slice r.A r.x.f2.length r.c] 59)
      have hJ2 : J pre (wr.alloc (.cells #[.int .i64 r.x.f0, .int .i64 r.x.f1, .slice r.A r.x.f2.length r.c] 59)) := hJ _ _ _ hJs (World.grownBy_alloc _ _ none)
      have hb2 : Below n₀ W (wr.alloc (.cells #[.int .i64 r.x.f0, .int .i64 r.x.f1, .slice r.A r.x.f2.length r.c] 59)) := hb.alloc (Nat.le_trans hW hb.size) _
      clear hr h4 hR
      by_cases heq : r.x.f0 = code
      · have heb : (r.x.f0 == code) = true := beq_iff_eq.2 heq
        have HEQ := Lib.hid heq
        clear heq
        obtain ⟨fn, tmps, assign, body, hy, hR⟩ := hY _ ⟨k, hlt, by rw [← HR.out]; exact HEQ.out⟩ _ hJ2 (by have := ofJ_len code R k; rw [← HP.out, List.length_map] at this; omega)
        simp only [encO, ← HR.out, RowA.val] at hy
        gi_wp2
        refine hR.mono ?_
        rintro e W3 (⟨rfl, hJ3, hk3⟩ | ⟨rfl, hJx3⟩)
        · gi_wp2
          go_roundw
          case rel => exact ⟨k + 1, _, by omega, by simp, by show _ = _; rw [ofJ_hit (by rw [← HR.out]; exact HEQ.out), List.map_append, HP.out]; rfl, hJ3, hb2.trans hk3.1, hk3.2 _ hbc2⟩
          case measure => simp [intOf]; omega
        · gi_wp2
          refine bodyPost_ret (results_none rfl _ _ _) rfl ?_
          exact ⟨⟨_, rfl⟩, .inr ⟨_, ⟨k + 1, by omega, by rw [ofJ_hit (by rw [← HR.out]; exact HEQ.out), List.map_append, HP.out]; rfl⟩, hJx3⟩⟩
      · have heb : (r.x.f0 == code) = false := beq_eq_false_iff_ne.2 heq
        have HEQ := Lib.hid heq
        clear heq
        gi_wp2
        refine ⟨fun _ h => (by cases h), ?_⟩
        gi_wp2
        go_roundw
        case rel => exact ⟨k + 1, pre, by omega, by simp, by show _ = _; rw [ofJ_miss (by rw [← HR.out]; exact HEQ.out)]; exact HP.out, hJ2, hb2, hbc2⟩
        case measure => simp [intOf]; omega
    · obtain rfl : k = len := by omega
      have hltz : ¬ (k : Int) < (k : Int) := by omega
      gi_wp2
      go_end0
      exact ⟨⟨_, rfl⟩, .inl ⟨_, HP.out, hJs⟩⟩


/-- stripes.of: the rows and the code are boxed; the function value captures the boxes. -/
theorem of_in (F : Fence) (n : Nat) (h23 : F.fn 23) (hro : F.round = none) (A : Option Addr) (len cap : Nat) (code : Int) (w : World) :
    CallsIn F n Try.prog 23 #[.slice A len cap, .int .i64 code] w fun e w' => e = .returned (.func (.func 34) #[] #[.pointer (some ⟨w.heap.size, 0, none⟩), .pointer (some ⟨w.heap.size + 1, 0, none⟩)]) ∧ w' = (w.alloc (.cells #[.slice A len cap] 25)).alloc (.cells #[.int .i64 code] 3) := by
  refine callsIn_of_wp Try.func23 rfl h23 ?_ hro
  simp only [Try.ntmps23, List.size_toArray, List.length_cons, List.length_nil, Nat.reduceAdd, Nat.reduceSub, Array.replicate_succ, Array.replicate_zero, List.push_toArray, List.append_toArray, List.nil_append, List.cons_append]
  gi_wp2
  go_ret
  exact ⟨rfl, rfl⟩

theorem of_stops (F : Fence) (n : Nat) (h34 : F.fn 34) (hro : F.round = none) (hn : 1 ≤ n) (Br Bc n₀ len cap : Nat) (A : Option Addr) (code : Int) (R : List RowA) (w : World) (hn₀ : n₀ ≤ w.heap.size)
    (hB1 : Boxed w Br 25 (.slice A len cap)) (hB2 : Boxed w Bc 3 (.int .i64 code)) (hR : RowsAt n₀ w A len R) :
    SeqStopsK F n Try.prog 34 #[.pointer (some ⟨Br, 0, none⟩), .pointer (some ⟨Bc, 0, none⟩)] (encO code R len) (Kq n₀ Bc) (fun ys => ys.map Subtype.val = ofJ code R len) (fun pre => ∃ k, k ≤ len ∧ pre.map Subtype.val = ofJ code R k) len w := fun l J Jz W hW hJ hJz hY h0 =>
  of1_in F n h34 hro hn l Br Bc n₀ len cap A code R J Jz (fun pre A B hs hg => hJ pre A B none hs hg (fun r e => by cases e)) hY W (Nat.le_trans hn₀ hW.size) ((hW.cell (p := ⟨Br, 0, none⟩) hB1.lt).trans hB1.cell) ((hW.block Bc hB2.lt).trans hB2) (hR.below (hW.mono hn₀)) h0

end Go.Proofs.Ytlodlblkmnhaeaa

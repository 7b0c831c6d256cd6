/- The walk of split.Weighted. -/
import Derived.Test.YtegoadlfchbgfaaCmpWalk
import Derived.Test.YtegoadlfchbgfaaSum
import Derived.Test.YtegoadlfchbgfaaRank
import Derived.Lib.Hide
import Derived.Test.YtegoadlfchbgfaaRepeat
import Derived.Deep.DeepCutAuto
import Derived.Deep.Draws
namespace Go.Proofs.Ytegoadlfchbgfaa.P
open Go.Shelf Go.Lib Go.Sort Go.RowKit Go.Deep Go.Proofs.YtegoadlfchbgfaaW.PrintWords Go.Proofs.YtegoadlfchbgfaaW.PrintLast Go.Proofs.YtegoadlfchbgfaaW.PrintMore

theorem wrap_in (x : Int) (h0 : -9223372036854775808 ≤ x) (h1 : x ≤ 9223372036854775807) : wrap64 x = x := by unfold wrap64; omega

theorem sumGo_ok : ∀ (ws : List Int) (k i : Nat) (w0 : Int) (l : List Int), l.drop i = ws → l.length ≤ 65536 → ws.length < k → 0 ≤ w0 → w0 ≤ 2147483647 →
    split_sum.l0 k w0 l (l.length : Int) (i : Int) = some (if (ws.all fun x => decide (0 ≤ x)) = true ∧ w0 + ws.sum ≤ 2147483647 then w0 + ws.sum else 0)
  | [], k, i, w0, l, hl, hlen, hk, h0, h1 => by
    obtain ⟨k, rfl⟩ : ∃ m, k = m + 1 := ⟨k - 1, by omega⟩
    have : l.length ≤ i := by
      rcases Nat.lt_or_ge i l.length with h | h
      · have := congrArg List.length hl; simp at this; omega
      · exact h
    rw [split_sum.l0, if_neg (by omega), if_pos ⟨by simp, by simpa using h1⟩]
    simp
  | x :: r, k, i, w0, l, hl, hlen, hk, h0, h1 => by
    obtain ⟨k, rfl⟩ : ∃ m, k = m + 1 := ⟨k - 1, by omega⟩
    have hi : i < l.length := by
      rcases Nat.lt_or_ge i l.length with h | h
      · exact h
      · rw [List.drop_eq_nil_of_le h] at hl; cases hl
    have hx : rd l (i : Int) = x := by
      have : l[i]? = some x := by
        have := congrArg (·[0]?) hl
        simpa [List.getElem?_drop] using this
      simp [rd, List.getD_eq_getElem?_getD, this]
    have hr : l.drop (i + 1) = r := by
      rw [← List.drop_drop, hl]; rfl
    have hsum : (x :: r).sum = x + r.sum := by simp
    rw [split_sum.l0, if_pos (by omega), if_pos (by omega), if_pos (by omega), hx, wrap_in (2147483647 - w0) (by omega) (by omega), show wrap64 ((i : Int) + 1) = ((i + 1 : Nat) : Int) from wrap_in _ (by omega) (by omega)]
    have nonneg : ∀ r : List Int, (r.all fun x => decide (0 ≤ x)) = true → 0 ≤ r.sum := fun r => by
      induction r with
      | nil => simp
      | cons y r ih =>
        intro h
        simp only [List.all_cons, Bool.and_eq_true, decide_eq_true_eq] at h
        have := ih h.2
        simp only [List.sum_cons]
        omega
    by_cases c1 : x < 0
    · rw [if_pos c1, if_neg]
      simp only [List.all_cons, Bool.and_eq_true, decide_eq_true_eq]
      omega
    · rw [if_neg c1]
      by_cases c2 : x > 2147483647 - w0
      · rw [if_pos c2, if_neg]
        intro h
        simp only [List.all_cons, Bool.and_eq_true, decide_eq_true_eq] at h
        have := nonneg r h.1.2
        rw [hsum] at h
        omega
      · rw [if_neg c2, wrap_in (w0 + x) (by omega) (by omega), sumGo_ok r k (i + 1) (w0 + x) l hr hlen (by simp at hk; omega) (by omega) (by omega), hsum]
        congr 1
        have e : ((x :: r).all fun x => decide (0 ≤ x)) = (r.all fun x => decide (0 ≤ x)) := by simp; intro _; omega
        rw [e, show w0 + x + r.sum = w0 + (x + r.sum) by omega]

theorem sum_f (ws : List Int) : split_sum.f (ws.length + 1) ws = some (if ws.length ≤ 65536 ∧ (ws.all fun x => decide (0 ≤ x)) = true ∧ ws.sum ≤ 2147483647 then ws.sum else 0) := by
  unfold split_sum.f
  by_cases h : ws.length ≤ 65536
  · rw [if_neg (by omega)]
    have := sumGo_ok ws (ws.length + 1) 0 0 ws rfl h (by omega) (by omega) (by omega)
    simp only [Int.zero_add, Int.natCast_zero] at this
    rw [this]
    simp [h]
  · rw [if_pos (by omega), if_neg (by omega)]

theorem below_drewN0 {B : Nat} {a w : World} (h : RowKit.Below B a w) (n : Nat) : RowKit.Below B a (w.drewN n) := ⟨h.os, h.tape, h.output, h.size, h.block⟩

/-- three boxes, draws between them. -/
theorem box3 (w : World) (v0 v1 v2 : Value) (t0 t1 t2 : TypeId) (nd : Nat) :
    ((((w.alloc (Obj.cells #[v0] t0)).alloc (Obj.cells #[v1] t1)).drewN nd).alloc (Obj.cells #[v2] t2)).cell? ⟨w.heap.size, 0, none⟩ = some v0 ∧
    ((((w.alloc (Obj.cells #[v0] t0)).alloc (Obj.cells #[v1] t1)).drewN nd).alloc (Obj.cells #[v2] t2)).cell? ⟨w.heap.size + 1, 0, none⟩ = some v1 ∧
    ((((w.alloc (Obj.cells #[v0] t0)).alloc (Obj.cells #[v1] t1)).drewN nd).alloc (Obj.cells #[v2] t2)).cell? ⟨w.heap.size + 1 + 1, 0, none⟩ = some v2 ∧
    ((((w.alloc (Obj.cells #[v0] t0)).alloc (Obj.cells #[v1] t1)).drewN nd).alloc (Obj.cells #[v2] t2)).heap.size = w.heap.size + 3 ∧
    RowKit.Below w.heap.size w ((((w.alloc (Obj.cells #[v0] t0)).alloc (Obj.cells #[v1] t1)).drewN nd).alloc (Obj.cells #[v2] t2)) := by
  have c0 : (w.alloc (Obj.cells #[v0] t0)).cell? ⟨w.heap.size, 0, none⟩ = some v0 := by simp [World.cell?_alloc_new]
  have c1 : ((w.alloc (Obj.cells #[v0] t0)).alloc (Obj.cells #[v1] t1)).cell? ⟨w.heap.size + 1, 0, none⟩ = some v1 := by
    have := World.cell?_alloc_new (w.alloc (Obj.cells #[v0] t0)) #[v1] t1 0
    simp
  have c0' : ((w.alloc (Obj.cells #[v0] t0)).alloc (Obj.cells #[v1] t1)).cell? ⟨w.heap.size, 0, none⟩ = some v0 := by rw [World.cell?_alloc_lt _ _ _ (by simp)]; exact c0
  refine ⟨?_, ?_, ?_, by simp, ?_⟩
  · rw [World.cell?_alloc_lt _ _ _ (by simp; omega)]; exact c0'
  · rw [World.cell?_alloc_lt _ _ _ (by simp)]; exact c1
  · have := World.cell?_alloc_new (((w.alloc (Obj.cells #[v0] t0)).alloc (Obj.cells #[v1] t1)).drewN nd) #[v2] t2 0
    simpa using this
  · exact (below_drewN0 (((Below.refl _ w).alloc (Nat.le_refl _) _).alloc (by simp) _) nd).alloc (by simp; omega) _

/-! a block that is known whole -/
def BlkI (w : World) (g : Nat) (cs : List Value) : Prop := w.heap[g]? = some (.cells cs.toArray 3 (0, 0))
theorem BlkI.lt {w : World} {g : Nat} {cs : List Value} (h : BlkI w g cs) : g < w.heap.size := by
  rcases Nat.lt_or_ge g w.heap.size with hlt | hge
  · exact hlt
  · unfold BlkI at h; rw [Array.getElem?_eq_none hge] at h; cases h
theorem BlkI.cell {w : World} {g : Nat} {cs : List Value} (h : BlkI w g cs) (i : Nat) (v : Value) (hv : cs[i]? = some v) : w.cell? ⟨g, i, none⟩ = some v := by
  rw [cell_of_row w g i cs.toArray 3 (0, 0) h, List.getElem?_toArray]; exact hv
theorem BlkI.frozen {w : World} {g : Nat} {cs : List Value} (h : BlkI w g cs) (i : Nat) : w.frozen? ⟨g, i, none⟩ = false := by
  unfold BlkI at h
  simp [World.frozen?, h]
theorem BlkI.set_ {w : World} {g : Nat} {cs : List Value} (h : BlkI w g cs) (i : Nat) (u : Value) : BlkI (w.setCell ⟨g, i, none⟩ u) g (cs.set i u) := by
  unfold BlkI at h ⊢
  simp [World.setCell, Array.getElem?_modify, h]
theorem BlkI.far {w : World} {g : Nat} {cs : List Value} (h : BlkI w g cs) {p : Addr} (hp : g ≠ p.block) (u : Value) : BlkI (w.setCell p u) g cs := (RowKit.Below.heap_setCell w p u g hp).trans h

def shCells (f : Nat → Int) (n k : Nat) : List Value := (List.range n).map fun j => .int .i64 (if j < k then f j else 0)
theorem shCells_at (f : Nat → Int) (n k j : Nat) (h : j < n) : (shCells f n k)[j]? = some (.int .i64 (if j < k then f j else 0)) := by
  simp [shCells, h]
theorem shCells_set (f : Nat → Int) (n k : Nat) (h : k < n) : (shCells f n k).set k (.int .i64 (f k)) = shCells f n (k + 1) := by
  apply List.ext_getElem?
  intro j
  unfold shCells
  rw [List.getElem?_set]
  by_cases e : k = j
  · subst e; simp [h]
  · rw [if_neg e]
    by_cases hj : j < n
    · have e2 : (j < k + 1) ↔ j < k := by omega
      simp [hj, e2]
    · simp [hj]
theorem shCells_zero (f : Nat → Int) (n : Nat) : List.replicate n (Value.int .i64 0) = shCells f n 0 := by
  apply List.ext_getElem?
  intro j
  by_cases hj : j < n <;> simp [shCells, hj]

theorem two_new (W : World) (o o' : Obj) : ((W.alloc o).alloc o').drew.heap[W.heap.size]? = some o ∧ ((W.alloc o).alloc o').drew.heap[W.heap.size + 1]? = some o' ∧ RowKit.Below W.heap.size W ((W.alloc o).alloc o').drew := by
  refine ⟨?_, ?_, (((Below.refl _ W).alloc (Nat.le_refl _) _).alloc (by simp) _).drew⟩
  · show ((W.alloc o).alloc o').heap[W.heap.size]? = some o
    rw [RowKit.Below.heap_alloc _ _ _ (by simp)]
    exact heap_alloc_new W o
  · have := heap_alloc_new (W.alloc o) o'
    rw [World.size_alloc] at this
    exact this

theorem share_bounds (total W x : Int) (h0 : 0 ≤ total) (hW : 0 < W) (hx0 : 0 ≤ x) (hx1 : x ≤ W) : 0 ≤ total * x / W ∧ total * x / W ≤ total := by
  have h1 : 0 ≤ total * x := Int.mul_nonneg h0 hx0
  refine ⟨Int.ediv_nonneg h1 (by omega), ?_⟩
  have h2 : total * x ≤ total * W := Int.mul_le_mul_of_nonneg_left hx1 h0
  exact Int.le_trans (Int.ediv_le_ediv hW h2) (by rw [Int.mul_ediv_cancel _ (by omega)]; exact Int.le_refl _)

/-! the order that is sorted: its elements are the numbers below n -/
def encF {n : Nat} (x : Fin n) : Value := .int .i64 (x.val : Int)
def cfF {n : Nat} (total : Int) (ws : List Int) (x y : Fin n) : Int := Lib.compareInt (wRem total ws y.val) (wRem total ws x.val)
theorem ltOf_cfF {n : Nat} (total : Int) (ws : List Int) : ltOf (cfF (n := n) total ws) = remLt total ws := by
  funext x y
  unfold ltOf cfF remLt Lib.compareInt
  by_cases h1 : wRem total ws y.val < wRem total ws x.val
  · simp [h1]
  · by_cases h2 : wRem total ws y.val > wRem total ws x.val
    · simp [h1, h2]
    · simp [h1, h2]

theorem cell?_sortWorld_o {α : Type} [Inhabited α] (enc : α → Value) (W : World) (blk off n : Nat) (dk : Array α) (os : Array Obj) (a : Addr) (h1 : a.block ≠ blk) (h2 : a.block < W.heap.size) : (sortWorld enc W blk off n dk os).cell? a = W.cell? a := by
  unfold sortWorld
  rw [cell?_grow _ _ _ (by rw [Go.Sort.size_putRow]; exact h2), cell?_putRow_other _ _ _ _ _ _ (.inl h1)]
  rfl
theorem heap_sortWorld_o {α : Type} [Inhabited α] (enc : α → Value) (W : World) (blk off n : Nat) (dk : Array α) (os : Array Obj) (g : Nat) (h1 : g ≠ blk) (h2 : g < W.heap.size) : (sortWorld enc W blk off n dk os).heap[g]? = W.heap[g]? := by
  unfold sortWorld
  rw [heap_grow_old _ _ (by rw [Go.Sort.size_putRow]; exact h2)]
  show (W.heap.modify blk _)[g]? = _
  rw [Array.getElem?_modify, if_neg (Ne.symm h1)]
theorem below_sortWorld {α : Type} [Inhabited α] (enc : α → Value) (W : World) (blk off n : Nat) (dk : Array α) (os : Array Obj) (B : Nat) (hB : B ≤ blk) (hW : B ≤ W.heap.size) : RowKit.Below B W (sortWorld enc W blk off n dk os) :=
  ⟨rfl, rfl, rfl, by unfold sortWorld; rw [size_grow, Go.Sort.size_putRow]; exact Nat.le_add_right _ _, fun k hk => heap_sortWorld_o enc W blk off n dk os k (by omega) (by omega)⟩

/-- is j among the first k of the order. -/
def tookB {n : Nat} [Inhabited (Fin n)] (d : Array (Fin n)) (k j : Nat) : Bool := (List.range k).any fun p => (d[p]!).val == j
theorem tookB_iff {n : Nat} [Inhabited (Fin n)] (d : Array (Fin n)) (k j : Nat) : tookB d k j = true ↔ ∃ p, p < k ∧ (d[p]!).val = j := by
  unfold tookB
  rw [List.any_eq_true]
  constructor
  · rintro ⟨p, hp, e⟩; exact ⟨p, List.mem_range.1 hp, by simpa using e⟩
  · rintro ⟨p, hp, e⟩; exact ⟨p, List.mem_range.2 hp, by simpa using e⟩
/-- the shares, one more at the first k of the order. -/
def giCells {n : Nat} [Inhabited (Fin n)] (f : Nat → Int) (d : Array (Fin n)) (k : Nat) : List Value := (List.range n).map fun j => .int .i64 (f j + if tookB d k j = true then 1 else 0)
theorem giCells_get {n : Nat} [Inhabited (Fin n)] (f : Nat → Int) (d : Array (Fin n)) (k j : Nat) (hj : j < n) : (giCells f d k)[j]? = some (.int .i64 (f j + if tookB d k j = true then 1 else 0)) := by
  unfold giCells
  rw [List.getElem?_map, List.getElem?_range hj]
  rfl
theorem giCells_len {n : Nat} [Inhabited (Fin n)] (f : Nat → Int) (d : Array (Fin n)) (k : Nat) : (giCells f d k).length = n := by simp [giCells]
theorem giCells_zero {n : Nat} [Inhabited (Fin n)] (f : Nat → Int) (d : Array (Fin n)) : shCells f n n = giCells f d 0 := by
  unfold shCells giCells
  apply List.map_congr_left
  intro j hj
  have e : ¬ tookB d 0 j = true := by rw [tookB_iff]; rintro ⟨p, hp, _⟩; omega
  rw [if_pos (List.mem_range.1 hj), if_neg e, Int.add_zero]
theorem giCells_at {n : Nat} [Inhabited (Fin n)] (f : Nat → Int) (d : Array (Fin n)) (k j : Nat) (hj : j < n) (hno : ∀ p, p < k → (d[p]!).val ≠ j) : (giCells f d k)[j]? = some (.int .i64 (f j)) := by
  have e : ¬ tookB d k j = true := by rw [tookB_iff]; rintro ⟨p, hp, h⟩; exact hno p hp h
  rw [giCells_get f d k j hj, if_neg e, Int.add_zero]
theorem giCells_set {n : Nat} [Inhabited (Fin n)] (f : Nat → Int) (d : Array (Fin n)) (k : Nat) : (giCells f d k).set (d[k]!).val (.int .i64 (f (d[k]!).val + 1)) = giCells f d (k + 1) := by
  apply List.ext_getElem?
  intro j
  rw [List.getElem?_set]
  by_cases hj : j < n
  · rw [giCells_get f d (k + 1) j hj]
    by_cases e : (d[k]!).val = j
    · have e2 : tookB d (k + 1) j = true := by rw [tookB_iff]; exact ⟨k, by omega, e⟩
      rw [if_pos e, giCells_len, if_pos (by omega), if_pos e2, e]
    · have e2 : (tookB d (k + 1) j = true) ↔ tookB d k j = true := by
        rw [tookB_iff, tookB_iff]
        constructor
        · rintro ⟨p, hp, h⟩
          refine ⟨p, ?_, h⟩
          by_cases z : p = k
          · subst z; exact absurd h e
          · omega
        · rintro ⟨p, hp, h⟩; exact ⟨p, by omega, h⟩
      rw [if_neg e, giCells_get f d k j hj]
      simp only [e2]
  · rw [List.getElem?_eq_none (l := giCells f d (k + 1)) (by rw [giCells_len]; omega)]
    have e : ¬ (d[k]!).val = j := by have := (d[k]!).isLt; omega
    rw [if_neg e, List.getElem?_eq_none (by rw [giCells_len]; omega)]

theorem giCells_list {n : Nat} [Inhabited (Fin n)] (total : Int) (ws : List Int) (hn : n = ws.length) (d : Array (Fin n)) (hd : d.size = n) (hp : d.toList.Perm (List.finRange n)) (h : Srt (remLt total ws) finBef d 0 n) (L : Nat) (hL : L ≤ n) (hL2 : (L : Int) = wLeft total ws) :
    giCells (wShare total ws) d L = encs (Value.int .i64) (wList total ws) := by
  unfold giCells encs wList
  rw [List.map_map, show List.range ws.length = List.range n from by rw [hn]]
  apply List.map_congr_left
  intro j hj
  have hjn : j < n := List.mem_range.1 hj
  have m := mem_take_iff total ws hn d hd hp h L hL j hjn
  rw [← tookB_iff] at m
  show Value.int .i64 _ = Value.int .i64 (wGive total ws j)
  congr 1
  unfold wGive
  congr 1
  by_cases e : tookB d L j = true
  · have := m.1 e
    rw [if_pos e, if_pos (by omega)]
  · have : ¬ wRank total ws j < L := fun hh => e (m.2 hh)
    rw [if_neg e, if_neg (by omega)]

set_option maxHeartbeats 4000000 in
set_option maxRecDepth 1000000 in
theorem weighted_ok (total : Int) (A : Option Addr) (c : Nat) (ws : List Int) (w : World) (hr : Kd.C (Kd.int .i64) w A ws.length ws) (hc : ws.length ≤ c) (W : Int) (n : Nat)
    (hn : n = ws.length) (hW : W = ws.sum) (hn0 : 0 < n) (hn1 : n ≤ 65536) (hW0 : 0 < W) (hW1 : W ≤ 2147483647) (ht0 : 0 ≤ total) (ht1 : total ≤ 2147483647) (hall : ∀ j, j < n → 0 ≤ wAt ws j ∧ wAt ws j ≤ W)
    (hsum : split_sum.f (ws.length + 1) ws = some W) :
    Calls Try.prog 11 #[.int .i64 total, .slice A ws.length c] w fun e w' => ∃ v0_ : Value, e = .returned (.tuple #[v0_, .int .i64 0]) ∧ Kd.R (Kd.int .i64) 3 w' w.heap.size (fun _ => True) v0_ (wList total ws) ∧ Below w.heap.size w w' := by
  have SUM : Aside (∀ W', Kd.C (Kd.int .i64) W' A n ws → Calls Try.prog 15 #[.slice A n c] W' fun e w' => e = .returned (.int .i64 W) ∧ Drawn0 W' w') := fun W' hC => by
    have := split_sum.calls (ws.length + 1) A c ws W W' (by rw [← hn]; exact hC) hc hsum
    rw [← hn] at this
    exact this
  have HN : Hid (n = ws.length) := hn
  have HW : Hid (W = ws.sum) := hW
  have HALL := Lib.hid hall
  rw [← hn] at hr hc ⊢
  have HR : Aside _ := hr
  have HCAP := Lib.hid hc
  clear hn hW hsum hall hr hc
  have t1 : (W == 0) = false := by rw [beq_eq_false_iff_ne]; omega
  have t2 : ¬ total < 0 := by omega
  have t3 : ¬ 2147483647 < total := by omega
  have C3 : Aside (Kd.C (Kd.int .i64) ((w.alloc (.cells #[.int .i64 total] 3)).alloc (.cells #[.slice A n c] 22)) A n ws) :=
    Kd.C_below HR.out (((Below.refl _ w).alloc (Nat.le_refl _) _).alloc (by simp) _)
  go_enter Try.func11, Try.ntmps11
  go_wp2_with fail
  refine (SUM.out _ C3.out).mono ?_
  rintro e w' ⟨rfl, ⟨nd, rfl⟩⟩
  have hmk := run_make_row' (P := Try.prog) 22 3 (.int .i64 0) 8 Try.underlying22 (by kernel_rfl) rfl .i64 .i64 n (by omega) (by omega)
  rw [madeCells_zero] at hmk
  go_wp2_with fail
  obtain ⟨hb0, hb1, hb2, hsz, hbel⟩ := box3 w (.int .i64 total) (.slice A n c) (.int .i64 W) 3 22 3 nd
  generalize ((((w.alloc (Obj.cells #[Value.int IntKind.i64 total] 3)).alloc (Obj.cells #[Value.slice A n c] 22)).drewN nd).alloc (Obj.cells #[Value.int IntKind.i64 W] 3)) = W1 at hb0 hb1 hb2 hsz hbel ⊢
  have HSZ := Lib.hid hsz
  have HBL := Lib.hid hbel
  have ha1 : ∀ o, (W1.alloc o).cell? ⟨w.heap.size + 1, 0, none⟩ = some (.slice A n c) := fun o => by rw [World.cell?_alloc_lt _ _ _ (by rw [hsz]; dsimp only; omega)]; exact hb1
  have ha2 : ∀ o, (W1.alloc o).cell? ⟨w.heap.size, 0, none⟩ = some (.int .i64 total) := fun o => by rw [World.cell?_alloc_lt _ _ _ (by rw [hsz]; dsimp only; omega)]; exact hb0
  have ha3 : ∀ o o', ((W1.alloc o).alloc o').cell? ⟨w.heap.size, 0, none⟩ = some (.int .i64 total) := fun o o' => by rw [World.cell?_alloc_lt _ _ _ (by rw [World.size_alloc, hsz]; dsimp only; omega)]; exact ha2 o
  have hsz2 : ∀ o, (W1.alloc o).heap.size = W1.heap.size + 1 := fun o => by simp
  clear hsz C3 SUM hbel
  go_cut [7, 8, 9] (fun v7 v8 v9 wc => ∃ bs bo : Nat, v7 = .slice (some ⟨bs, 0, none⟩) n n ∧ v8 = .slice (some ⟨bo, 0, none⟩) n n ∧ v9 = .int .i64 total ∧ bs ≠ bo ∧ w.heap.size + 3 ≤ bs ∧ w.heap.size + 3 ≤ bo ∧
    Hid (wc.heap[bs]? = some (.cells (List.replicate n (Value.int .i64 0)).toArray 3 (0, 0))) ∧ Hid (wc.heap[bo]? = some (.cells (List.replicate n (Value.int .i64 0)).toArray 3 (0, 0))) ∧ Aside (RowKit.Below (w.heap.size + 3) W1 wc))
  case first =>
    go_region
    all_goals go_wp2_with fail
    all_goals go_meet
    all_goals (
      obtain ⟨n1, n2, n3⟩ := two_new W1 (Obj.cells (Array.replicate n (Value.int IntKind.i64 0)) 3) (Obj.cells (Array.replicate n (Value.int IntKind.i64 0)) 3)
      rw [HSZ.out] at n3
      have hz := HSZ.out
      first
        | exact ⟨W1.heap.size, W1.heap.size + 1, rfl, rfl, rfl, by omega, by omega, by omega, by show _ = _; rw [List.toArray_replicate]; exact n1, by show _ = _; rw [List.toArray_replicate]; exact n2, n3⟩
        | exact ⟨W1.heap.size + 1, W1.heap.size, rfl, rfl, rfl, by omega, by omega, by omega, by show _ = _; rw [List.toArray_replicate]; exact n2, by show _ = _; rw [List.toArray_replicate]; exact n1, n3⟩)
  case rest =>
    clear ha1 ha2 ha3 hsz2 hmk
    obtain ⟨bs, bo, rfl, rfl, rfl, hne, hbs, hbo, HBS, HBO, HBE⟩ := hcut
    have B := HBE.out
    rw [show w.heap.size + 3 = W1.heap.size from HSZ.out.symm] at B
    have hc0 := pw_cell_below B hb0
    have hc1 := pw_cell_below B hb1
    have hc2 := pw_cell_below B hb2
    have HBB : Aside (RowKit.Below w.heap.size w wc) := HBL.out.trans (B.mono (by rw [HSZ.out]; omega))
    clear B hb0 hb1 hb2 HBE HBL HSZ
    have B1 : Aside (BlkI wc bs (shCells (wShare total ws) n 0)) := by rw [← shCells_zero]; exact HBS.out
    have B2 : Aside (BlkI wc bo (shCells (fun j => (j : Int)) n 0)) := by rw [← shCells_zero]; exact HBO.out
    have HC0 := Lib.hid hc0
    have HC1 := Lib.hid hc1
    have HC2 := Lib.hid hc2
    clear HBS HBO hc0 hc2
    go_wp2_with fail
    clear hc1
    go_loopg [9, 10, 11, 36] n (fun g1 vl vi vx vk wr => ∃ (k : Nat) (lk : Int), vk = .int .i64 k ∧ vl = .int .i64 lk ∧ k ≤ n ∧ n - k ≤ g1 ∧ -2147483647 * (k : Int) ≤ lk ∧ lk ≤ 2147483647 ∧ Hid (lk = total - ((List.range k).map (wShare total ws)).sum) ∧
      Aside (BlkI wr bs (shCells (wShare total ws) n k)) ∧ Aside (BlkI wr bo (shCells (fun j => (j : Int)) n k)) ∧ Aside (RowKit.Below w.heap.size w wr) ∧
      Hid (wr.cell? ⟨w.heap.size, 0, none⟩ = some (.int .i64 total)) ∧ Hid (wr.cell? ⟨w.heap.size + 1, 0, none⟩ = some (.slice A n c)) ∧ Hid (wr.cell? ⟨w.heap.size + 1 + 1, 0, none⟩ = some (.int .i64 W)))
    case atStart => exact ⟨0, total, rfl, rfl, by omega, by omega, by omega, by omega, by show _ = _; simp, B1, B2, HBB, HC0, HC1, HC2⟩
    case round =>
      clear B1 B2 HBB HC0 HC1 HC2
      obtain ⟨k, lk, rfl, rfl, hkn, hg1, hlk1, hlk2, HL, B1, B2, HBB, HC0, HC1, HC2⟩ := hrel
      by_cases hlt : k < n
      · as_aux_lemma =>
        have hltz : (k : Int) < (n : Int) := by omega
        obtain ⟨ad, rfl, hcell⟩ := (Kd.reads_of_C (d := (0 : Int)) (Kd.C_below HR.out HBB.out)).at_ (k : Int) (by omega) (by omega)
        have hx0 := (HALL.out k hlt).1
        have hx1 := (HALL.out k hlt).2
        have hxe : rdOf (0 : Int) ws (k : Int) = wAt ws k := by simp [rdOf, wAt]
        rw [hxe] at hcell
        simp only [Int.toNat_natCast] at hcell
        obtain ⟨x, hx⟩ : ∃ x, x = wAt ws k := ⟨_, rfl⟩
        rw [← hx] at hcell hx0 hx1
        have HX := Lib.hid hx
        obtain ⟨q0, q1⟩ := share_bounds total W x ht0 hW0 hx0 hx1
        have p0 : 0 ≤ total * x := Int.mul_nonneg ht0 hx0
        have p1 : total * x ≤ 4611686014132420609 := Int.le_trans (Int.mul_le_mul_of_nonneg_right ht1 hx0) (by omega)
        have HY : Hid (total * x / W = wShare total ws k) := by show _ = _; unfold wShare; rw [← HW.out, ← hx]
        have hc0 := HC0.out
        have hc2 := HC2.out
        have cs0 := B1.out.cell k _ (shCells_at _ n k k hlt)
        have fs0 := B1.out.frozen k
        have fo0 := B2.out.frozen k
        have co0 := ((B2.out.far (p := ⟨bs, k, none⟩) (Ne.symm hne) (.int .i64 (total * x / W))).cell k _ (shCells_at _ n k k hlt))
        have N1 : Aside (BlkI ((wr.setCell ⟨bs, k, none⟩ (.int .i64 (total * x / W))).setCell ⟨bo, k, none⟩ (.int .i64 k)) bs (shCells (wShare total ws) n (k + 1))) := by
          have := (B1.out.set_ k (.int .i64 (total * x / W))).far (p := ⟨bo, k, none⟩) hne (.int .i64 k)
          rw [HY.out, shCells_set _ n k hlt, ← HY.out] at this
          exact this
        have N2 : Aside (BlkI ((wr.setCell ⟨bs, k, none⟩ (.int .i64 (total * x / W))).setCell ⟨bo, k, none⟩ (.int .i64 k)) bo (shCells (fun j => (j : Int)) n (k + 1))) := by
          have := (B2.out.far (p := ⟨bs, k, none⟩) (Ne.symm hne) (.int .i64 (total * x / W))).set_ k (.int .i64 (k : Int))
          rw [shCells_set (fun j => (j : Int)) n k hlt] at this
          exact this
        have N3 : Aside (RowKit.Below w.heap.size w ((wr.setCell ⟨bs, k, none⟩ (.int .i64 (total * x / W))).setCell ⟨bo, k, none⟩ (.int .i64 k))) := (HBB.out.setCell (p := ⟨bs, k, none⟩) (by dsimp only; omega) _).setCell (p := ⟨bo, k, none⟩) (by dsimp only; omega) _
        have keep : ∀ b, b < w.heap.size + 3 → ((wr.setCell ⟨bs, k, none⟩ (.int .i64 (total * x / W))).setCell ⟨bo, k, none⟩ (.int .i64 k)).cell? ⟨b, 0, none⟩ = wr.cell? ⟨b, 0, none⟩ := fun b hb => by
          rw [World.cell?_setCell_other _ _ _ _ (by intro e; simp only [Addr.mk.injEq] at e; omega), World.cell?_setCell_other _ _ _ _ (by intro e; simp only [Addr.mk.injEq] at e; omega)]
        have N4 : Hid (((wr.setCell ⟨bs, k, none⟩ (.int .i64 (total * x / W))).setCell ⟨bo, k, none⟩ (.int .i64 k)).cell? ⟨w.heap.size, 0, none⟩ = some (.int .i64 total)) := (keep _ (by omega)).trans HC0.out
        have N5 : Hid (((wr.setCell ⟨bs, k, none⟩ (.int .i64 (total * x / W))).setCell ⟨bo, k, none⟩ (.int .i64 k)).cell? ⟨w.heap.size + 1, 0, none⟩ = some (.slice (some ad) n c)) := (keep _ (by omega)).trans HC1.out
        have N6 : Hid (((wr.setCell ⟨bs, k, none⟩ (.int .i64 (total * x / W))).setCell ⟨bo, k, none⟩ (.int .i64 k)).cell? ⟨w.heap.size + 1 + 1, 0, none⟩ = some (.int .i64 W)) := (keep _ (by omega)).trans HC2.out
        have cs1 := N1.out.cell k _ (shCells_at _ n (k + 1) k hlt)
        rw [if_pos (by omega), ← HY.out] at cs1
        clear keep B1 B2 HBB HC0 HC1 HC2 hx hxe
        go_wp2_with fail
        generalize ((wr.setCell ⟨bs, k, none⟩ (.int .i64 (total * x / W))).setCell ⟨bo, k, none⟩ (.int .i64 k)) = w3 at N1 N2 N3 N4 N5 N6 ⊢
        clear cs0 fs0 co0 fo0 cs1 hc0 hc2 hcell
        go_roundg (n - (k + 1))
        case measure => omega
        case rel => exact ⟨k + 1, lk - total * x / W, by go_num, by go_num, by omega, by omega, by omega, by omega, by show _ = _; rw [HL.out, HY.out, List.range_succ, List.map_append, List.sum_append, List.map_singleton, List.sum_singleton]; omega, N1, N2, N3, N4, N5, N6⟩
      · have hkn' : k = n := by omega
        have hltz : ¬ (k : Int) < (n : Int) := by omega
        haveI : Inhabited (Fin n) := ⟨⟨0, hn0⟩⟩
        -- the row that is sorted
        obtain ⟨d0, hd0⟩ : ∃ d0 : Array (Fin n), d0 = (List.finRange n).toArray := ⟨_, rfl⟩
        have hd0s : d0.size = n := by rw [hd0]; simp
        have hd0l : d0.toList = List.finRange n := by rw [hd0]
        have hd0v : ∀ p, p < n → (d0[p]!).val = p := fun p hp => by
          rw [getElem!_pos d0 p (by omega)]
          simp [hd0]
        have hcells : ∀ p, p < n → wr.cell? ⟨bo, p, none⟩ = some (.int .i64 (p : Int)) := fun p hp => by
          have := B2.out.cell p _ (shCells_at _ n k p hp)
          rw [if_pos (by omega)] at this
          exact this
        have hRow : Row1 (encF (n := n)) wr bo 0 d0 := ⟨fun _ => rfl, fun p hp => ⟨by rw [Nat.zero_add, hcells p (by omega)]; unfold encF; rw [hd0v p (by omega)], B2.out.frozen _⟩, B2.out.lt⟩
        have hA : ∃ ad, A = some ad ∧ ad.block < w.heap.size ∧ ∀ p, p < n → wr.cell? (ad.add p) = some (.int .i64 (wAt ws p)) := by
          obtain ⟨ad, hA, hcell⟩ := (Kd.reads_of_C (d := (0 : Int)) HR.out).2.2 hn0
          refine ⟨ad, hA, ?_, fun p hp => ?_⟩
          · have h0 := World.block_lt_of_cell? _ _ (hcell 0 hn0)
            rwa [show (ad.add 0).block = ad.block from by unfold Addr.add; split <;> rfl] at h0
          · have := pw_cell_below HBB.out (hcell p hp)
            exact this
        obtain ⟨ad, hAd, hadb, hwt⟩ := hA
        have hblk : ∀ p, (ad.add p).block = ad.block := fun p => by unfold Addr.add; split <;> rfl
        have hsz := HBB.out.size
        have hbo2 := B2.out.lt
        have hcmp : CmpReads Try.prog 16 #[.pointer (some ⟨w.heap.size, 0, none⟩), .pointer (some ⟨w.heap.size + 1, 0, none⟩), .pointer (some ⟨w.heap.size + 1 + 1, 0, none⟩)] (encF (n := n)) (cfF (n := n) total ws) bo 0 d0.size wr := by
          intro m os dk hdk x y
          have bx : ∀ b v, b < w.heap.size + 3 → wr.cell? ⟨b, 0, none⟩ = some v → (sortWorld encF wr bo 0 m dk os).cell? ⟨b, 0, none⟩ = some v := fun b v hb hv => by
            rw [cell?_sortWorld_o _ _ _ _ _ _ _ _ (by dsimp only; omega) (World.block_lt_of_cell? _ _ hv)]; exact hv
          have wx : ∀ p, p < n → (sortWorld encF wr bo 0 m dk os).cell? (ad.add p) = some (.int .i64 (wAt ws p)) := fun p hp => by
            rw [cell?_sortWorld_o _ _ _ _ _ _ _ _ (by rw [hblk]; omega) (by rw [hblk]; omega)]; exact hwt p hp
          have hx := HALL.out x.val x.isLt
          have hy := HALL.out y.val y.isLt
          have pp : ∀ z : Int, 0 ≤ z → z ≤ W → 0 ≤ total * z ∧ total * z ≤ 4611686018427387904 := fun z h0 h1 =>
            ⟨Int.mul_nonneg ht0 h0, Int.le_trans (Int.mul_le_mul_of_nonneg_right ht1 h0) (by omega)⟩
          have := remCmp_any total W w.heap.size (w.heap.size + 1) (w.heap.size + 1 + 1) A n c x.val y.val (wAt ws x.val) (wAt ws y.val) (sortWorld encF wr bo 0 m dk os)
            (bx _ _ (by omega) HC0.out) (bx _ _ (by omega) HC1.out) (bx _ _ (by omega) HC2.out) (by omega) (by have := x.isLt; omega) (by omega) (by have := y.isLt; omega) hW0 hW1 ad hAd
            (by rw [Int.toNat_natCast]; exact wx _ x.isLt) (by rw [Int.toNat_natCast]; exact wx _ y.isLt) (pp _ hx.1 hx.2).1 (pp _ hx.1 hx.2).2 (pp _ hy.1 hy.2).1 (pp _ hy.1 hy.2).2
          rw [HW.out] at this
          exact this
        have hsort := sortStable_any (α := Fin n) (encF (n := n)) (cfF (n := n) total ws) (finBef (n := n)) 16 #[.pointer (some ⟨w.heap.size, 0, none⟩), .pointer (some ⟨w.heap.size + 1, 0, none⟩), .pointer (some ⟨w.heap.size + 1 + 1, 0, none⟩)] bo 0 n d0 wr
          (enters_of Try.func16 (by kernel_rfl) rfl) hcmp hRow (by omega) (by rw [ltOf_cfF]; exact remLt_swo total ws) (finBef_trans (n := n)) (fun p q hpq hq => by
            show (d0[p]!).val < (d0[q]!).val
            rw [hd0v p (by omega), hd0v q (by omega)]; exact hpq)
        rw [hd0s, ltOf_cfF, hd0l] at hsort
        have HSORT := Lib.hid hsort
        have HLL : Hid (lk = wLeft total ws) := by show _ = _; rw [HL.out, hkn', HN.out]; rfl
        have hlb := left_bounds total ws (by rw [← HW.out]; exact hW0)
        rw [← HLL.out, ← HN.out] at hlb
        obtain ⟨L, hL⟩ : ∃ L : Nat, lk = (L : Int) := ⟨lk.toNat, by omega⟩
        subst hL
        have hLn : L ≤ n := by omega
        have B1' : Aside (BlkI wr bs (shCells (wShare total ws) n n)) := by have := B1.out; rw [hkn'] at this; exact this
        have HROW := Lib.hid hRow
        have HD0S := Lib.hid hd0s
        have HBS := Lib.hid B1.out.lt
        clear hcmp hRow hsort hcells hd0 hd0s hd0l hd0v hwt hblk hAd hadb B1 B2 HC0 HC1 HC2 HL hkn' hlb hlk1 hlk2 hsz hbo2
        go_wp2_with fail
        refine HSORT.out.mono ?_
        rintro e w1 ⟨rfl, d', hsw, hd', hp', hs'⟩
        have B3 : Aside (BlkI w1 bs (giCells (wShare total ws) d' 0)) := by
          obtain ⟨m, os, rfl⟩ := hsw
          rw [← giCells_zero]
          exact (heap_sortWorld_o _ _ _ _ _ _ _ _ hne HBS.out).trans B1'.out
        have CO : Aside (∀ p, p < n → w1.cell? ⟨bo, p, none⟩ = some (.int .i64 ((d'[p]!).val : Int))) := fun p hp => by
          have := (hsw.holds HROW.out.hblk HROW.out.hH (hd'.trans HD0S.out.symm) p (by omega)).1
          rw [Nat.zero_add] at this
          exact this
        have BB2 : Aside (RowKit.Below w.heap.size w w1) := by
          obtain ⟨m, os, rfl⟩ := hsw
          exact HBB.out.trans (below_sortWorld _ _ _ _ _ _ _ _ (by omega) HBB.out.size)
        have FB : Aside (∀ p, w1.frozen? ⟨bs, p, none⟩ = false) := fun p => B3.out.frozen p
        have HS' := Lib.hid hs'
        have HP' := Lib.hid hp'
        have HD' := Lib.hid hd'
        clear hsw hd' hp' hs' HSORT B1' HBB HROW HBS FB
        have hLz : (L : Int) ≤ (n : Int) := by omega
        have hL0 : (0 : Int) ≤ (L : Int) := by omega
        go_wp2_with fail
        go_loopg [14, 68] L (fun g1 vi vk wr => ∃ k : Nat, vk = .int .i64 k ∧ k ≤ L ∧ L - k ≤ g1 ∧ Aside (BlkI wr bs (giCells (wShare total ws) d' k)) ∧ Aside (∀ p, p < n → wr.cell? ⟨bo, p, none⟩ = some (.int .i64 ((d'[p]!).val : Int))) ∧ Aside (RowKit.Below w.heap.size w wr))
        case atStart => exact ⟨0, rfl, by omega, by omega, B3, CO, BB2⟩
        case round =>
          clear B3 CO BB2
          obtain ⟨k2, rfl, hk2, hg2, B3, CO, BB2⟩ := hrel
          by_cases hlt2 : k2 < L
          · as_aux_lemma =>
            have hltz2 : (k2 : Int) < (L : Int) := by omega
            have co := CO.out k2 (by omega)
            have hdn := (d'[k2]!).isLt
            obtain ⟨iN, hiN⟩ : ∃ i, i = (d'[k2]!).val := ⟨_, rfl⟩
            rw [← hiN] at co hdn
            have hin : (iN : Int) < (n : Int) := by omega
            have cs := B3.out.cell iN _ (giCells_at (wShare total ws) d' k2 iN hdn (fun p hp e => by
              have := inj_of_perm total ws HN.out d' HD'.out HP'.out HS'.out p k2 (by omega) (by omega) (by rw [e, hiN])
              omega))
            have fs := B3.out.frozen iN
            obtain ⟨y, hy⟩ : ∃ y, y = wShare total ws iN := ⟨_, rfl⟩
            have hyb := HALL.out iN hdn
            obtain ⟨q0, q1⟩ := share_bounds total W (wAt ws iN) ht0 hW0 hyb.1 hyb.2
            have ey : total * wAt ws iN / W = y := by rw [hy]; unfold wShare; rw [← HW.out]
            rw [ey] at q0 q1
            rw [← hy] at cs
            have N1 : Aside (BlkI (wr.setCell ⟨bs, iN, none⟩ (.int .i64 (y + 1))) bs (giCells (wShare total ws) d' (k2 + 1))) := by
              have := B3.out.set_ iN (.int .i64 (y + 1))
              rw [hy, hiN, giCells_set] at this
              rw [hy, hiN]
              exact this
            have N2 : Aside (∀ p, p < n → (wr.setCell ⟨bs, iN, none⟩ (.int .i64 (y + 1))).cell? ⟨bo, p, none⟩ = some (.int .i64 ((d'[p]!).val : Int))) := fun p hp => by
              rw [World.cell?_setCell_other _ _ _ _ (by intro e; simp only [Addr.mk.injEq] at e; omega)]; exact CO.out p hp
            have N3 : Aside (RowKit.Below w.heap.size w (wr.setCell ⟨bs, iN, none⟩ (.int .i64 (y + 1)))) := BB2.out.setCell (p := ⟨bs, iN, none⟩) (by dsimp only; omega) _
            clear B3 CO BB2 hiN hy ey hyb
            go_wp2_with fail
            generalize (wr.setCell ⟨bs, iN, none⟩ (.int .i64 (y + 1))) = w3 at N1 N2 N3 ⊢
            clear cs fs co
            go_roundg (L - (k2 + 1))
            case measure => omega
            case rel => exact ⟨k2 + 1, by go_num, by omega, by omega, N1, N2, N3⟩
          · obtain rfl : k2 = L := by omega
            have hltz2 : ¬ (k2 : Int) < (k2 : Int) := by omega
            go_wp2_with fail
            go_ret2
            refine ⟨_, rfl, ?_, BB2.out⟩
            have hblk3 := B3.out
            rw [giCells_list total ws HN.out d' HD'.out HP'.out HS'.out k2 hLn HLL.out] at hblk3
            have hlen : (wList total ws).length = n := by unfold wList; rw [List.length_map, List.length_range]; exact HN.out.symm
            refine Kd.R_of_own ?_ (fun _ _ => trivial)
            rw [hlen]
            exact ⟨by rw [encs_length, hlen, Nat.mul_one], .inr ⟨bs, n, _, rfl, by omega, hblk3, Nat.le_refl _, by unfold maxLen; omega, by rw [List.size_toArray, encs_length, hlen, Nat.mul_one], by rw [Nat.mul_one, List.take_of_length_le (by rw [encs_length, hlen]; exact Nat.le_refl _)]⟩⟩

set_option maxHeartbeats 4000000 in
set_option maxRecDepth 1000000 in
theorem weighted_err (total : Int) (A : Option Addr) (c : Nat) (ws : List Int) (w : World) (hr : Kd.C (Kd.int .i64) w A ws.length ws) (hc : ws.length ≤ c) (W : Int)
    (hsum : split_sum.f (ws.length + 1) ws = some W) (hbad : W = 0 ∨ total < 0 ∨ 2147483647 < total) :
    Calls Try.prog 11 #[.int .i64 total, .slice A ws.length c] w fun e w' => ∃ v0_ : Value, e = .returned (.tuple #[v0_, .int .i64 1]) ∧ Kd.R (Kd.int .i64) 3 w' w.heap.size (fun _ => True) v0_ [] ∧ Below w.heap.size w w' := by
  obtain ⟨n, hn⟩ : ∃ n, n = ws.length := ⟨_, rfl⟩
  have SUM : Aside (∀ W', Kd.C (Kd.int .i64) W' A n ws → Calls Try.prog 15 #[.slice A n c] W' fun e w' => e = .returned (.int .i64 W) ∧ Drawn0 W' w') := fun W' hC => by
    have := split_sum.calls (ws.length + 1) A c ws W W' (by rw [← hn]; exact hC) hc hsum
    rw [← hn] at this
    exact this
  rw [← hn] at hr hc ⊢
  have C3 : Aside (Kd.C (Kd.int .i64) ((w.alloc (.cells #[.int .i64 total] 3)).alloc (.cells #[.slice A n c] 22)) A n ws) :=
    Kd.C_below hr (((Below.refl _ w).alloc (Nat.le_refl _) _).alloc (by simp) _)
  clear hn hsum hr hc
  have fin : Aside (∀ nd, RowKit.Below w.heap.size w ((((w.alloc (Obj.cells #[Value.int IntKind.i64 total] 3)).alloc (Obj.cells #[Value.slice A n c] 22)).drewN nd).alloc (Obj.cells #[Value.int IntKind.i64 W] 3))) :=
    fun nd => (box3 w (.int .i64 total) (.slice A n c) (.int .i64 W) 3 22 3 nd).2.2.2.2
  by_cases h1 : W = 0
  · have t1 : (W == 0) = true := by rw [beq_iff_eq]; exact h1
    have H1 := Lib.hid h1
    clear h1 hbad
    go_enter Try.func11, Try.ntmps11
    go_wp2_with fail
    refine (SUM.out _ C3.out).mono ?_
    rintro e w' ⟨rfl, ⟨nd, rfl⟩⟩
    go_wp2_with fail
    go_ret2
    exact ⟨_, rfl, Kd.R_nil _ _ _ _ _, fin.out nd⟩
  · have t1 : (W == 0) = false := by rw [beq_eq_false_iff_ne]; exact h1
    by_cases h2 : total < 0
    · clear h1 hbad
      go_enter Try.func11, Try.ntmps11
      go_wp2_with fail
      refine (SUM.out _ C3.out).mono ?_
      rintro e w' ⟨rfl, ⟨nd, rfl⟩⟩
      go_wp2_with fail
      go_ret2
      exact ⟨_, rfl, Kd.R_nil _ _ _ _ _, fin.out nd⟩
    · have h3 : 2147483647 < total := by omega
      clear h1 hbad
      go_enter Try.func11, Try.ntmps11
      go_wp2_with fail
      refine (SUM.out _ C3.out).mono ?_
      rintro e w' ⟨rfl, ⟨nd, rfl⟩⟩
      go_wp2_with fail
      go_ret2
      exact ⟨_, rfl, Kd.R_nil _ _ _ _ _, fin.out nd⟩

end Go.Proofs.Ytegoadlfchbgfaa.P

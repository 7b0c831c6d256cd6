/- The walk of stripes.index: the place of a used stripe in its row, or -1. -/
import Derived.Test.YtlodlblkmnhaeaaPx0
import Derived.Lib.Hide
import Derived.BigQuiet
import Derived.Lib.SliceRun
import Derived.Lib.JoinLaws
import Derived.Shelf.Abstract
namespace Go.Proofs.Ytlodlblkmnhaeaa
set_option linter.unusedVariables false
open Go.RowKit Go.Lib Go.Proofs.Ytlodlblkmnhaeaa.P Go.Proofs.YtlodlblkmnhaeaaW.PrintWords Go.Proofs.YtlodlblkmnhaeaaW.PrintLast Go.Proofs.YtlodlblkmnhaeaaW.PrintMore

theorem group_any (B : Nat) (g e c y : Int) (w : World) (hc : w.cell? ⟨B, 1, none⟩ = some (.int .i64 y)) :
    Calls Try.prog 40 #[.agg #[.int .i64 g, .int .i64 e, .int .i64 c], .pointer (some ⟨B, 0, none⟩)] w fun e w' => e = .returned (.bool (g == y)) ∧ Below w.heap.size w w' := by
  have hu := Try.underlying37
  have hu2 := Try.underlying29
  have hb : B < w.heap.size := block_lt_of_cell hc
  have hc2 := cell?_alloc_some (.cells #[.int .i64 g, .int .i64 e, .int .i64 c] 37) hc
  clear hc
  go_enter Try.func40, Try.ntmps40
  go_wp2
  go_ret
  exact ⟨rfl, below_alloc (Below.refl _ _) _⟩

theorem enters40 : ∀ args w, (callFunc 40 args).run Try.prog w = .ok (.enter 40 args) w := fun args w => enters_ Try.func40 (by kernel_rfl) rfl args w

def idxU (y : Int) : List S37 → Nat → Int
  | [], _ => -1
  | x :: r, i => if x.f0 = y then (i : Int) else idxU y r (i + 1)

theorem idxU_drop (y : Int) (l : List S37) (i : Nat) (h : i < l.length) : idxU y (l.drop i) i = if (rd_T37 l (i : Int)).f0 = y then (i : Int) else idxU y (l.drop (i + 1)) (i + 1) := by
  rw [List.drop_eq_getElem_cons h, idxU]
  simp [rd_T37, List.getD_eq_getElem?_getD, h]

set_option maxHeartbeats 4000000 in
theorem indexU_any (A : Option Addr) (c : Nat) (l : List S37) (B : Nat) (y : Int) (w : World) (hl : Kd.C k37 w A l.length l) (hlen : l.length ≤ 1000000) (hcB : w.cell? ⟨B, 1, none⟩ = some (.int .i64 y)) :
    Calls Try.prog 39 #[.slice A l.length c, .func (.func 40) #[] #[.pointer (some ⟨B, 0, none⟩)]] w fun e w' => e = .returned (.int .i64 (idxU y l 0)) ∧ Below w.heap.size w w' := by
  have HL : Aside _ := hl
  clear hl
  obtain ⟨n, hn⟩ : ∃ n, n = l.length := ⟨_, rfl⟩
  rw [← hn] at hlen ⊢
  have HN := Lib.hid hn
  have HB : Aside _ := hcB
  have E := enters40
  clear hn hcB
  go_enter Try.func39, Try.ntmps39
  go_wp2_with fail
  go_loopg [5, 8] n (fun g1 vx vi wr => ∃ i : Nat, vi = .int .i64 i ∧ i ≤ n ∧ n - i ≤ g1 ∧ Hid (idxU y l 0 = idxU y (l.drop i) i) ∧ Aside (Below w.heap.size w wr))
  case atStart => exact ⟨0, rfl, by omega, by omega, rfl, Below.refl _ _⟩
  case round =>
    obtain ⟨i, rfl, hin, hg1, HE, HW⟩ := hrel
    by_cases hlt : i < n
    · have hltz : (i : Int) < (n : Int) := by omega
      have hil : i < l.length := by have := HN.out; omega
      obtain ⟨ad, rfl, hc0, hc1, hc2⟩ := at_T37 (Kd.C_below HL.out HW.out) (i : Int) (by omega) (by omega)
      obtain ⟨x, hx⟩ : ∃ x, x = rd_T37 l (i : Int) := ⟨_, rfl⟩
      have st := idxU_drop y l i hil
      rw [← hx] at st hc0 hc1 hc2
      rw [Int.toNat_natCast] at hc0 hc1 hc2
      have hcB : wr.cell? ⟨B, 1, none⟩ = some (.int .i64 y) := pw_cell_below HW.out HB.out
      have GC : Aside (Calls Try.prog 40 #[.agg #[.int .i64 x.f0, .int .i64 x.f1.f0, .int .i64 x.f1.f1], .pointer (some ⟨B, 0, none⟩)] wr fun e w' => e = .returned (.bool (x.f0 == y)) ∧ Below wr.heap.size wr w') := group_any B _ _ _ y wr hcB
      have ST := Lib.hid st
      have HX := Lib.hid hx
      clear st hx hil hcB
      by_cases k : x.f0 = y
      · have kb : (x.f0 == y) = true := beq_iff_eq.2 k
        rw [kb] at GC
        clear kb
        have K := Lib.hid k
        clear k
        go_wp2_with (first | (go_at_fn 40; refine GC.out.mono ?_; rintro e w1 ⟨rfl, hb⟩; have HBB : Aside _ := hb; clear hb))
        go_ret
        exact ⟨by rw [HE.out, ST.out, if_pos K.out]; rfl, below_then HW.out HW.out.size HBB.out⟩
      · have kb : (x.f0 == y) = false := beq_eq_false_iff_ne.2 k
        rw [kb] at GC
        clear kb
        have K := Lib.hid k
        clear k
        go_wp2_with (first | (go_at_fn 40; refine GC.out.mono ?_; rintro e w1 ⟨rfl, hb⟩; have HBB : Aside _ := hb; clear hb))
        go_roundg (n - (i + 1))
        case measure => omega
        case rel => exact ⟨i + 1, by go_num, by omega, by omega, by show _ = _; rw [HE.out, ST.out, if_neg K.out], below_then HW.out HW.out.size HBB.out⟩
    · obtain rfl : i = n := by omega
      have hltz : ¬ (i : Int) < (i : Int) := by omega
      have e : idxU y l 0 = -1 := by rw [HE.out, HN.out, List.drop_length]; rfl
      go_wp2_with fail
      go_ret
      exact ⟨rfl, HW.out⟩

/-- What stripes.index returns. -/
def idxS (l : List S59) (r g : Int) : Int := if r < 0 then -1 else if r ≥ (l.length : Int) then -1 else idxU g (rd_T59 l r).f2 0

set_option maxHeartbeats 4000000 in
theorem index_any (A : Option Addr) (c : Nat) (l : List S59) (r g : Int) (w : World) (hl : Kd.C k59 w A l.length l) (hlen : (rd_T59 l r).f2.length ≤ 1000000) :
    Calls Try.prog 26 #[.slice A l.length c, .agg #[.int .i64 r, .int .i64 g]] w fun e w' => e = .returned (.int .i64 (idxS l r g)) ∧ Below w.heap.size w w' := by
  have hu := Try.underlying29
  have hu2 := Try.underlying59
  have hu3 := Try.underlying57
  unfold idxS
  by_cases h0 : r < 0
  · have hd : decide (r < 0) = true := decide_eq_true h0
    rw [if_pos h0]
    clear hl
    go_enter Try.func26, Try.ntmps26
    go_wp2
    go_ret
    exact ⟨rfl, below_alloc (Below.refl _ _) _⟩
  · rw [if_neg h0]
    by_cases h1 : r ≥ (l.length : Int)
    · have hd : decide (r < 0) = false := decide_eq_false h0
      have hd1 : decide ((l.length : Int) ≤ r) = true := decide_eq_true h1
      rw [if_pos h1]
      clear hl
      go_enter Try.func26, Try.ntmps26
      go_wp2
      go_ret
      exact ⟨rfl, below_alloc (Below.refl _ _) _⟩
    · rw [if_neg h1]
      obtain ⟨j, rfl⟩ : ∃ j : Nat, r = (j : Int) := ⟨r.toNat, by omega⟩
      have hj : j < l.length := by omega
      obtain ⟨ad, A2, c2, rfl, hc0, hc1, hc2, hl2, hC⟩ := at_T59 hl (j : Int) (by omega) (by omega)
      obtain ⟨x, hx⟩ : ∃ x, x = rd_T59 l (j : Int) := ⟨_, rfl⟩
      rw [← hx] at hc2 hl2 hC hlen ⊢
      rw [Int.toNat_natCast] at hc2
      obtain ⟨n, hn⟩ : ∃ n, n = l.length := ⟨_, rfl⟩
      rw [← hn] at hj ⊢
      have HC : Aside _ := hC
      have W1 : Aside (∀ W : World, W = w.alloc (.cells #[.int .i64 (j : Int), .int .i64 g] 29) → Calls Try.prog 39 #[.slice A2 x.f2.length c2, .func (.func 40) #[] #[.pointer (some ⟨w.heap.size, 0, none⟩)]] W fun e w' => e = .returned (.int .i64 (idxU g x.f2 0)) ∧ Below W.heap.size W w') := fun W hW => by
        subst hW
        exact indexU_any A2 c2 x.f2 w.heap.size g _ (Kd.C_alloc HC.out _) hlen (by rw [World.cell?_alloc_at (w := w) _ _ w.heap.size 1 rfl]; rfl)
      have hc2' := cell?_alloc_some (.cells #[.int .i64 (j : Int), .int .i64 g] 29) hc2
      have hjz : (j : Int) < (n : Int) := by omega
      have hd : decide ((j : Int) < 0) = false := decide_eq_false (by omega)
      clear hC hl hc0 hc1 hx hn h0 h1 hc2
      go_enter Try.func26, Try.ntmps26
      go_wp2_with (first | (go_at_call 39; refine (W1.out _ rfl).mono ?_; rintro e w1 ⟨rfl, hb⟩; have HBB : Aside _ := hb; clear hb))
      go_ret
      exact ⟨rfl, below_then (below_alloc (Below.refl _ _) _) (by simp) HBB.out⟩

end Go.Proofs.Ytlodlblkmnhaeaa

namespace Go.Proofs.Ytlodlblkmnhaeaa
open Go.Proofs.Ytlodlblkmnhaeaa.P
/-- The sizes that the contracts speak of. -/
def bnd (l : List S59) : Bool := decide (l.length ≤ 1000) && l.all (fun x => decide (x.f2.length ≤ 1000))
theorem bnd_len {l : List S59} (h : bnd l = true) : l.length ≤ 1000 := by
  unfold bnd at h
  simp only [Bool.and_eq_true, decide_eq_true_eq] at h
  exact h.1
theorem bnd_at {l : List S59} (h : bnd l = true) (j : Nat) (x : S59) (hx : l[j]? = some x) : x.f2.length ≤ 1000 := by
  unfold bnd at h
  simp only [Bool.and_eq_true, decide_eq_true_eq, List.all_eq_true] at h
  exact h.2 x (List.mem_of_getElem? hx)
theorem bnd_rd {l : List S59} (h : bnd l = true) (i : Int) : (rd_T59 l i).f2.length ≤ 1000 := by
  unfold rd_T59
  rw [List.getD_eq_getElem?_getD]
  cases e : l[i.toNat]? with
  | none => simp [z59]
  | some x => exact bnd_at h _ x e
end Go.Proofs.Ytlodlblkmnhaeaa
namespace Go.Proofs.Ytlodlblkmnhaeaa.P
open Go.RowKit Go.Proofs.YtlodlblkmnhaeaaW.PrintWords

def stripes_index.f (l0 : List S59) (a1_0 a1_1 : Int) : Option Int := if bnd l0 = true then some (idxS l0 a1_0 a1_1) else none
theorem stripes_index.calls (A0 : Option Addr) (c0 : Nat) (l0 : List S59) (a1_0 a1_1 : Int) (r : Int) (w : World) (hr0 : Kd.C k59 w A0 l0.length l0) (_hc0 : l0.length ≤ c0) (h : stripes_index.f l0 a1_0 a1_1 = some r) :
    Calls Try.prog 26 #[.slice A0 l0.length c0, .agg #[.int .i64 a1_0, .int .i64 a1_1]] w fun e w' => e = .returned (.int .i64 r) ∧ Below w.heap.size w w' := by
  unfold stripes_index.f at h
  by_cases hb : bnd l0 = true
  · rw [if_pos hb] at h
    obtain rfl := Option.some.inj h
    exact index_any A0 c0 l0 a1_0 a1_1 w hr0 (by have := bnd_rd hb a1_0; omega)
  · rw [if_neg hb] at h
    cases h
end Go.Proofs.Ytlodlblkmnhaeaa.P

/- The walk of slices.Repeat at []int, for a list of one element. -/
import Derived.Test.YtegoadlfchbgfaaProg
import Derived.Tactics
import Derived.WalkKit
import Derived.Deep.CutBlock
import Derived.Deep.DeepCutAuto
import Derived.OwnWalk
import Derived.Deep.OwnRows
import Derived.Below
import Derived.Lib.Hide
import Derived.KernelRfl
import Derived.Laws.CopyOwn
import Derived.Laws.MakeOwn
import Derived.Laws.BitsLemmas
import Derived.Deep.RegionLaw
import Derived.Deep.LoopGhost
import Derived.BigRegion
namespace Go.Proofs.Ytegoadlfchbgfaa
open Go.RowKit Go.Deep

theorem and_mask_u64 (n : Nat) (h : n < 4294967296) : bits .and .u64 (n : Int) 4294967295 = (n : Int) := by
  show IntKind.u64.wrap ((BitVec.ofInt 64 (n : Int) &&& BitVec.ofInt 64 (4294967295 : Int)).toNat : Int) = _
  have e : BitVec.ofInt 64 (n : Int) = BitVec.ofNat 64 n := by rw [BitVec.ofInt_natCast]
  have e2 : BitVec.ofInt 64 (4294967295 : Int) = BitVec.ofNat 64 4294967295 := rfl
  rw [e, e2, BitVec.toNat_and, BitVec.toNat_ofNat, BitVec.toNat_ofNat]
  have h1 : n % 2 ^ 64 = n := Nat.mod_eq_of_lt (by omega)
  have h2 : (4294967295 : Nat) % 2 ^ 64 = 2 ^ 32 - 1 := by decide
  rw [h1, h2, Nat.and_two_pow_sub_one_eq_mod, Nat.mod_eq_of_lt (by omega : n < 2 ^ 32)]
  unfold IntKind.wrap
  simp [IntKind.bits, IntKind.signed]
  omega

set_option maxHeartbeats 1000000 in
theorem mul_one_any (n : Nat) (h : n ≤ 65536) (w : World) : Calls Try.prog 20 #[.int .u64 1, .int .u64 n] w fun e w' => e = .returned (.tuple #[.int .u64 0, .int .u64 n]) ∧ w' = w := by
  have hb := and_mask_u64 n (by omega)
  have hb1 : bits .and .u64 1 4294967295 = 1 := and_mask_u64 1 (by omega)
  have hq : (n : Int) / 4294967296 = 0 := by omega
  go_enter Try.func20, Try.ntmps20
  go_wp2
  go_ret2
  exact ⟨rfl, rfl⟩

theorem madeCells_zero (n : Nat) : madeCells #[Value.int .i64 0] n = (List.replicate n (Value.int .i64 0)).toArray := by
  unfold madeCells
  apply Array.ext
  · simp
  · intro i h1 h2
    simp [Nat.mod_one]

/-- what the copies have made so far. -/
def repCells (v : Int) (N m : Nat) : List Value := List.replicate m (Value.int .i64 v) ++ List.replicate (N - m) (Value.int .i64 0)
theorem length_repCells (v : Int) {N m : Nat} (h : m ≤ N) : (repCells v N m).length = N := by simp [repCells]; omega
theorem splice_rep0 (v : Int) (N : Nat) (h : 1 ≤ N) : splice (List.replicate N (Value.int .i64 0)) 0 [Value.int .i64 v] = repCells v N 1 := by
  obtain ⟨k, rfl⟩ : ∃ k, N = k + 1 := ⟨N - 1, by omega⟩
  simp [splice, repCells, List.replicate_succ]
theorem splice_rep (v : Int) (N m k : Nat) : splice (repCells v N m) m (List.replicate k (Value.int .i64 v)) = repCells v N (m + k) := by
  unfold splice repCells
  have e1 : (List.replicate m (Value.int .i64 v) ++ List.replicate (N - m) (Value.int .i64 0)).take m = List.replicate m (Value.int .i64 v) := by
    rw [List.take_append_of_le_length (by simp)]; simp
  have e2 : (List.replicate m (Value.int .i64 v) ++ List.replicate (N - m) (Value.int .i64 0)).drop (m + k) = List.replicate (N - (m + k)) (Value.int .i64 0) := by
    rw [List.drop_append]
    simp
    omega
  rw [e1, List.length_replicate, e2, ← List.append_assoc, List.replicate_append_replicate]
theorem repCells_cell (v : Int) (N m j : Nat) (h : j < m) : (repCells v N m)[j]? = some (.int .i64 v) := by
  unfold repCells
  rw [List.getElem?_append_left (by simpa using h)]
  simp [h]

theorem add_zero_addr (b j : Nat) : (⟨b, 0, none⟩ : Addr).add j = ⟨b, j, none⟩ := by
  unfold Addr.add
  split
  · next h => rw [h]
  · simp

set_option maxHeartbeats 2000000 in
theorem repeat_any (v : Int) (N c : Nat) (ad : Addr) (w : World) (hN : 1 ≤ N) (hN2 : N ≤ 65536) (hc : w.cell? ad = some (.int .i64 v)) (had : ad.block < w.heap.size) :
    Calls Try.prog 14 #[.slice (some ad) 1 c, .int .i64 N] w fun e w' => e = .returned (.slice (some ⟨w.heap.size, 0, none⟩) N N) ∧
      w'.heap[w.heap.size]? = some (.cells (List.replicate N (Value.int .i64 v)).toArray 3 (0, 0)) ∧ Below w.heap.size w w' := by
  have hn0 : ¬ (N : Int) < 0 := by omega
  have hbig : ¬ (9223372036854775807 : Int) < (N : Int) := by omega
  have hmk := run_make_row' (P := Try.prog) 22 3 (.int .i64 0) 8 Try.underlying22 (by kernel_rfl) rfl .i64 .i64 N (by omega) (by omega)
  rw [madeCells_zero] at hmk
  go_enter Try.func14, Try.ntmps14
  have HC := Lib.hid hc
  clear hc
  go_wp2_with fail
  refine (mul_one_any N hN2 _).mono ?_
  rintro e w' ⟨rfl, hw⟩
  rw [hw]; clear hw
  go_upto_region 7 with (fail)
  refine wp_region_lit ?_
  iterate 6 go_step
  refine wpList_copy_splice rfl (.tmp 31) (.tmp 32) 22 22 rfl 3 Try.underlying22 (by kernel_rfl) (some ⟨w.heap.size, 0, none⟩) (some ad) N N 1 c (by rfl) (by rfl) w.heap.size 0 (List.replicate N (Value.int .i64 0)) 3 ?c1 [Value.int .i64 v] ?c2 ?c3 ?c4 ?c5 w.heap.size w ?c6 (Nat.le_refl _) ?_
  case c1 => rw [List.toArray_replicate]; exact heap_alloc_new w _
  case c2 => show 1 = min 1 N; omega
  case c3 => exact fun _ => ⟨rfl, ad, rfl, fun j u hu => by
    cases j with
    | zero =>
      simp at hu
      subst hu
      show (w.alloc _).cell? ad = _
      rw [World.cell?_alloc_lt _ _ _ had]; exact HC.out
    | succ j => simp at hu⟩
  case c4 => simp; omega
  case c5 => simp [Value.oneCell']
  case c6 => exact (Below.refl _ _).alloc (Nat.le_refl _) _
  intro w1 hg1 hb1
  have hb1' : Hid _ := Lib.hid hb1
  have hg1' : Hid (w1.heap[w.heap.size]? = some (.cells (repCells v N 1).toArray 3 (0, 0))) := by rw [splice_rep0 v N hN] at hg1; exact hg1
  clear hb1 hg1
  have bN : (N : Int) ≤ 65536 := by omega
  go_wp2_with fail
  go_loopg [8] N (fun g1 vm wr => ∃ m : Nat, vm = .int .i64 m ∧ 1 ≤ m ∧ m ≤ N ∧ N - m ≤ g1 ∧ Hid (wr.heap[w.heap.size]? = some (.cells (repCells v N m).toArray 3 (0, 0))) ∧ Aside (Below w.heap.size w wr))
  case atStart => exact ⟨1, rfl, by omega, by omega, by omega, hg1', hb1'.out⟩
  case round =>
    clear hg1' hb1'
    obtain ⟨m, rfl, hm1, hmN, hg1, HG, HBw⟩ := hrel
    by_cases hlt : m < N
    · have hltz : (m : Int) < (N : Int) := by omega
      have hm0 : (0 : Int) ≤ (m : Int) := by omega
      have hmle : (m : Int) ≤ (N : Int) := by omega
      have hne : ¬ N = m := by omega
      go_wp2_with fail
      have f1 : Hid ((List.replicate (min m (N - m)) (Value.int .i64 v)).length = Nat.min m (N - m)) := by show _ = _; rw [List.length_replicate]
      have f2 : Hid (0 < (List.replicate (min m (N - m)) (Value.int .i64 v)).length → (some ⟨w.heap.size, m, none⟩ : Option Addr) = some ⟨w.heap.size, m, none⟩ ∧ ∃ ad, (some ⟨w.heap.size, 0, none⟩ : Option Addr) = some ad ∧ ∀ j u, (List.replicate (min m (N - m)) (Value.int .i64 v))[j]? = some u → wr.drew.cell? (ad.add j) = some u) := fun _ => ⟨rfl, _, rfl, fun j u hu => by
        have hj : j < min m (N - m) := by
          rcases Nat.lt_or_ge j (min m (N - m)) with h | h
          · exact h
          · rw [List.getElem?_eq_none (by simpa using h)] at hu; cases hu
        rw [List.getElem?_eq_getElem (by simpa using hj)] at hu
        simp at hu
        subst hu
        have hcell : wr.cell? ⟨w.heap.size, j, none⟩ = some (.int .i64 v) := by
          rw [cell_of_row wr w.heap.size j _ _ _ HG.out, List.getElem?_toArray]
          exact repCells_cell v N m j (by omega)
        rw [add_zero_addr]
        exact hcell⟩
      have f3 : Hid (m + (List.replicate (min m (N - m)) (Value.int .i64 v)).length ≤ (repCells v N m).length) := by show _ ≤ _; rw [length_repCells v hmN, List.length_replicate]; omega
      have f4 : Hid (∀ u ∈ List.replicate (min m (N - m)) (Value.int .i64 v), u.oneCell' = true) := fun u hu => by rw [(List.mem_replicate.1 hu).2]; rfl
      have f5 : Hid (Below w.heap.size w wr.drew) := HBw.out.drew
      have f6 : Hid (wr.drew.heap[w.heap.size]? = some (.cells (repCells v N m).toArray 3 (0, 0))) := HG.out
      go_region_law ((refine step_copy_splice (by rfl) (.tmp 41) (.tmp 44) 22 22 (by rfl) 3 Try.underlying22 (by kernel_rfl) (some ⟨w.heap.size, m, none⟩) (some ⟨w.heap.size, 0, none⟩) (N - m) (N - m) m N (by simp [Act.eval, Act.put]) (by simp [Act.eval, Act.put]) w.heap.size m (repCells v N m) 3 f6.out (List.replicate (min m (N - m)) (Value.int .i64 v)) f1.out f2.out f3.out f4.out w.heap.size w f5.out (Nat.le_refl _) ?_; intro w2 hg2 hb2))
      have hg3 : Hid (w2.heap[w.heap.size]? = some (.cells (repCells v N (m + min m (N - m))).toArray 3 (0, 0))) := by
        have := hg2.out
        rw [splice_rep] at this
        exact this
      have hb3 : Aside _ := hb2
      clear f1 f2 f3 f4 f5 f6 hg2 hb2
      obtain ⟨k, hk⟩ : ∃ k, k = min m (N - m) := ⟨_, rfl⟩
      rw [← hk] at hg3
      have hk1 : 1 ≤ k := by omega
      have hk2 : m + k ≤ N := by omega
      rw [← hk]
      clear hk
      go_wp2_with fail
      go_roundg (N - (m + k))
      case measure => omega
      case rel => exact ⟨m + k, by congr 1; rw [IntKind.wrap_i64]; omega, by omega, by omega, by omega, hg3, hb3⟩
    · obtain rfl : m = N := by omega
      have hltz : ¬ (m : Int) < (m : Int) := by omega
      go_wp2_with fail
      go_ret
      refine ⟨rfl, ?_, HBw.out⟩
      have := HG.out
      unfold repCells at this
      simpa using this
end Go.Proofs.Ytegoadlfchbgfaa

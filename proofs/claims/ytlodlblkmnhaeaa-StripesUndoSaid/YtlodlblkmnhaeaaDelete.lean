/- The walk of slices.Delete at []api.Used for one place: the list without that value, in the row's own memory. -/
import Derived.Test.YtlodlblkmnhaeaaInsert
namespace Go.Proofs.Ytlodlblkmnhaeaa
set_option linter.unusedVariables false
open Go.RowKit Go.Lib Go.Proofs.Ytlodlblkmnhaeaa.P Go.Proofs.YtlodlblkmnhaeaaW.PrintWords Go.Proofs.YtlodlblkmnhaeaaW.PrintLast Go.Proofs.YtlodlblkmnhaeaaW.PrintMore

/-- What Delete leaves. -/
def Deld (base g n c : Nat) (W : World) (xs : List S37) (i : Nat) (e : Ending) (w' : World) : Prop :=
  e = .returned (.slice (some ⟨g, 0, none⟩) (n - 1) c) ∧ k37.R 37 w' base (fun k => some k = (Value.slice (some ⟨g, 0, none⟩) (n - 1) c).ownBlock) (.slice (some ⟨g, 0, none⟩) (n - 1) c) (xs.eraseIdx i) ∧ W.grownBy w' (some g)

def zr3 : List Value := [.int .i64 0, .int .i64 0, .int .i64 0]

theorem clear1 (w : World) (ty : TypeId) (g o c : Nat) (cur : Array Value) (hg : w.heap[g]? = some (.cells cur 37 (0, 0))) (hfit : o + 3 ≤ cur.size) :
    (Builtin.clear_ #[57] ty #[.slice (some ⟨g, o, none⟩) 1 c]).run Try.prog w = .ok (.tuple #[]) (w.setRow g (cur.toList.take o ++ zr3 ++ cur.toList.drop (o + 3)).toArray) := by
  have hst := run_storeCells_at Try.prog g o 37 zr3 0 cur w hg (by simpa [zr3] using hfit) (by intro v hv; simp [zr3] at hv; rw [hv]; rfl)
  have hz : (Builtin.zeroCells (Value.agg #[.int .i64 0, .int .i64 0, .int .i64 0]).cells 1).toList = zr3 := by
    apply List.ext_getElem
    · simp [Builtin.zeroCells, zr3, Value.cells]
    · intro t h1 h2
      have ht : t < 3 := by simpa [zr3] using h2
      obtain rfl | rfl | rfl : t = 0 ∨ t = 1 ∨ t = 2 := by omega
      all_goals simp [Builtin.zeroCells, zr3, Value.cells]
  have hl : zr3.length = 3 := rfl
  simp only [Nat.add_zero, hl] at hst
  simp [Builtin.clear_, run_underlying under57, Try.zeroValue37, hz, hst]

set_option maxHeartbeats 4000000 in
theorem delete_any (g c : Nat) (xs : List S37) (i : Nat) (base : Nat) (ok : Nat → Prop) (W : World) (HO : k37.R 37 W base ok (.slice (some ⟨g, 0, none⟩) xs.length c) xs) (hi : i < xs.length) (hn : xs.length ≤ 1000000) (hbase : base ≤ W.heap.size) :
    Calls Try.prog 27 #[.slice (some ⟨g, 0, none⟩) xs.length c, .int .i64 i, .int .i64 ((i : Int) + 1)] W (Deld base g xs.length c W xs i) := by
  obtain ⟨n, hnn⟩ : ∃ n, n = xs.length := ⟨_, rfl⟩
  have HT := Kd.R_tight rfl HO
  rw [← hnn] at HT hi hn ⊢
  obtain ⟨hnc, hcm⟩ : n ≤ c ∧ c ≤ maxLen := by
    rcases own37 HT with ⟨h, _⟩ | ⟨_, _, _, _, _, _, h1, h2, _⟩
    · cases h
    · exact ⟨h1, h2⟩
  have hc63 : c ≤ 9223372036854775807 := by unfold maxLen at hcm; omega
  obtain ⟨i0, hi0, hz0, hz1, hz2⟩ := info_parts info37
  have hcutA := cut_upto (some ⟨g, 0, none⟩) n c (i : Int) (by omega) (by omega)
  rw [show ((i : Int)).toNat = i by omega] at hcutA
  have hcutB := cut_from 57 37 .i64 under57 hi0 3 hz1 (some ⟨g, 0, none⟩) n c ((i : Int) + 1) (by omega) (by omega)
  rw [show ((i : Int) + 1).toNat = i + 1 by omega] at hcutB
  obtain ⟨A1, hA1⟩ : ∃ A1, A1 = (if c = i + 1 then some (⟨g, 0, none⟩ : Addr) else (some (⟨g, 0, none⟩ : Addr)).map (·.add ((i + 1) * 3))) := ⟨_, rfl⟩
  rw [← hA1] at hcutB
  have hsz : (Try.prog.info? 37).map (·.size) = some k37.sz := by rw [hi0]; simp [hz1]; rfl
  have HTA : Aside _ := HT
  have HA1 : Aside _ := hA1
  obtain ⟨Q, hQ⟩ : ∃ Q, Q = Deld base g n c W xs i := ⟨_, rfl⟩
  rw [← hQ]
  have HQ := Lib.hid hQ
  have HN := Lib.hid hnn
  have mixed : Try.prog.follows .mixedOrders = true := by kernel_rfl
  have hu := Try.underlying57
  have hbe : ¬ ((i : Int) = (i : Int) + 1) := by omega
  have hw1 : IntKind.i64.wrap ((i : Int) + 1) = (i : Int) + 1 := by rw [IntKind.wrap_i64]; omega
  have hx1 : (0 : Int) ≤ (i : Int) + 1 := by omega
  have hx2 : ((i : Int) + 1).toNat = i + 1 := by omega
  have hx3 : (i : Int) + 1 ≤ (n : Int) := by omega
  have hx4 : (i : Int) ≤ (c : Int) := by omega
  clear hA1 hQ hnn HT HO hcm hi0 hz0 hz1 hz2
  go_enter Try.func27, Try.ntmps27
  go_wp2_with fail
  go_region_law_o (refine Kd.R_delete_step k37 (w0 := W) (g := g) (n := n) (c := c) (k := i) (m := n - (i + 1)) (c2 := c - (i + 1)) (A := A1) (xs := xs) base (by simp [Region.wanted]) (.tmp 22) (.tmp 25) 57 37 rfl under57 hsz (by simp [Act.eval, Act.put]) (by simp [Act.eval, Act.put]) HA1.out rfl (Kd.R_drew HTA.out) hi (pw_below_drewN (Below.refl _ _) 1) hbase ?_; intro w1 hR1 hB1 hG1)
  rcases own37 hR1 with ⟨h, _⟩ | ⟨_, cur, h, hn1, hg, hh, hnc1, hcm1, hcs, ht⟩
  · cases h
  obtain rfl : g = _ := by injection h with h; injection h
  have hfit : (n - 1) * 3 + 3 ≤ cur.size := by omega
  obtain ⟨w2, hw2⟩ : ∃ w2, w2 = w1.setRow g (cur.toList.take ((n - 1) * 3) ++ zr3 ++ cur.toList.drop ((n - 1) * 3 + 3)).toArray := ⟨_, rfl⟩
  have hclr : ∀ ty c', (Builtin.clear_ #[57] ty #[.slice (some ⟨g, (n - 1) * 3, none⟩) (n - (n - 1)) c']).run Try.prog w1 = .ok (.tuple #[]) w2 := fun ty c' => by
    rw [hw2, show n - (n - 1) = 1 by omega]; exact clear1 w1 ty g ((n - 1) * 3) c' cur hh hfit
  have hend : Deld base g n c W xs i (.returned (.slice (some ⟨g, 0, none⟩) (n - 1) c)) w2 := by
    refine ⟨rfl, ?_, ?_⟩
    · rw [hn1]
      refine own37_mk hg (by rw [hw2]; exact setRow_heap _ g cur _ 37 _ hh) (by omega) hcm1 ?_ ?_
      · simp only [List.size_toArray, List.length_append, List.length_take, List.length_drop, Array.length_toList, zr3, List.length_cons, List.length_nil]; omega
      · rw [← hn1, List.toList_toArray, List.append_assoc, List.take_left' (by rw [List.length_take, Array.length_toList]; omega)]
        exact ht
    · have h1 : W.grownBy w1 (some g) := ⟨hG1.os, hG1.tape, hG1.output, hG1.size, hG1.block⟩
      rw [hw2]
      exact ⟨h1.os, h1.tape, h1.output, by rw [setRow_size]; exact h1.size, fun k hk hne => ((grown_row w1 g _).block k (Nat.lt_of_lt_of_le hk h1.size) hne).trans (h1.block k hk hne)⟩
  have HE : Aside _ := hend
  have hl1 : ((n - 1 : Nat) : Int) = (n : Int) - 1 := by omega
  clear hend hw2 ht hcs hh hg hn1 hR1 hB1 hG1 h hfit
  go_wp2_with fail
  rw [HQ.out]
  exact ⟨rfl, HE.out.2⟩

end Go.Proofs.Ytlodlblkmnhaeaa

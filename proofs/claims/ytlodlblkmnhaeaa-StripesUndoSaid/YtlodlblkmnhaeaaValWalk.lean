/- stripes.Valid at the two lists that sanity asks it about. -/
import Derived.Test.YtlodlblkmnhaeaaVrWalk
import Derived.Maps.Own
import Derived.Test.YtlodlblkmnhaeaaAlcBad
namespace Go.Proofs.Ytlodlblkmnhaeaa
set_option linter.unusedVariables false
open Go.RowKit Go.Lib Go.Maps Go.ChangeMaps Go.Proofs.Ytlodlblkmnhaeaa.P Go.Proofs.YtlodlblkmnhaeaaW.PrintWords

theorem run_check {P : Program} {k : TypeId} (hk : P.underlying k = some (.int .i64)) (w : World) (em : Bool) (a : Int) : (Instr.checkKey em 10000 k (.int .i64 a)).run P w = .ok () w :=
  MapKept.run_checkKey hk (by simp [MapKept.IsKey]) em 9999
theorem map_put (w : World) {P : Program} (t k e : TypeId) (hk : P.underlying k = some (.int .i64)) (ht : P.underlying t = some (.map k e)) (b : Nat) (es es' : Array MapEntry) (clock clock' : Nat) (key : Int) (val : Value)
    (hb : w.heap[b]? = some (.map es clock)) (hf : (Instr.findNow (.int .i64) (.int .i64 key) es.toList 0 = some none ∧ es' = es.push ⟨.int .i64 key, val, clock⟩ ∧ clock' = clock + 1) ∨ ∃ (j : Nat) (v : Value) (en : MapEntry), Instr.findNow (.int .i64) (.int .i64 key) es.toList 0 = some (some (j, v)) ∧ es[j]? = some en ∧ en.key = .int .i64 key ∧ es' = es.modify j (fun x => { x with key := .int .i64 key, val := val }) ∧ clock' = clock) :
    ∃ w', (Instr.mapUpdate t (.map (some b)) (.int .i64 key) val).run P w = .ok () w' ∧ w'.heap[b]? = some (.map es' clock') ∧ w.grownBy w' (some b) := by
  have hrun : (Instr.mapUpdate t (.map (some b)) (.int .i64 key) val).run P w = .ok () (setBlock w b (.map es' clock')) := by
    rcases hf with ⟨h1, rfl, rfl⟩ | ⟨j, v, en, h1, h2, h3, rfl, rfl⟩
    · simp [Instr.mapUpdate, run_underlying ht, MapKept.run_getObj_map hb, run_check hk, MapKept.run_findKey hk h1, MapKept.run_setObj_map _ hb, Result.andThen, setBlock]
    · have hst : (Instr.keyThatStays (Value.int .i64 key) (.int .i64 key)).run P w = .ok (.int .i64 key) w := MapKept.run_keyThatStays (d := .int .i64) (by simp [MapKept.IsKey])
      simp [Instr.mapUpdate, run_underlying ht, MapKept.run_getObj_map hb, run_check hk, MapKept.run_findKey hk h1, h2, h3, hst, MapKept.run_setObj_map _ hb, Result.andThen, setBlock]
  exact ⟨_, hrun, heap_setBlock_same hb _, ⟨rfl, rfl, rfl, by simp [setBlock], fun i _ hi => heap_setBlock_other hb _ (fun e => hi (by rw [e]))⟩⟩
theorem map_look (w : World) {P : Program} (t : TypeId) (c : Bool) (k e : TypeId) (hk : P.underlying k = some (.int .i64)) (ht : P.underlying t = some (.map k e)) (z : Value) (hz : (zeroValue e).run P w = .ok z w) (b : Nat) (es : Array MapEntry) (clock : Nat) (key : Int)
    (hb : w.heap[b]? = some (.map es clock)) (r : Option (Nat × Value)) (hf : Instr.findNow (.int .i64) (.int .i64 key) es.toList 0 = some r) :
    (Instr.lookup t (.map (some b)) (.int .i64 key) c).run P w = .ok (if c then .tuple #[(r.map Prod.snd).getD z, .bool r.isSome] else (r.map Prod.snd).getD z) w := by
  have hfk := MapKept.run_findKey (w := w) hk hf
  cases r <;> cases c <;> simp [Instr.lookup, run_underlying ht, MapKept.run_getObj_map hb, run_check hk, hfk, hz, Result.andThen]

/-- The list that sanity holds valid. -/
def mV : List S59 := [⟨0, 2, [⟨0, ⟨1, 0⟩⟩, ⟨1, ⟨1, 1⟩⟩]⟩, ⟨0, 2, [⟨0, ⟨1, 2⟩⟩]⟩, ⟨1, 4, [⟨0, ⟨1, 3⟩⟩]⟩]
def esV : Nat → Array MapEntry
  | 0 => #[]
  | 1 => #[⟨.int .i64 0, .int .i64 2, 0⟩]
  | 2 => #[⟨.int .i64 0, .int .i64 2, 0⟩]
  | _ => #[⟨.int .i64 0, .int .i64 2, 0⟩, ⟨.int .i64 1, .int .i64 4, 1⟩]
def ckV : Nat → Nat
  | 0 => 0
  | 1 => 1
  | 2 => 1
  | _ => 2

theorem val_look (X : World) (b k : Nat) (hk : k < 3) (hb : X.heap[b]? = some (.map (esV k) (ckV k))) :
    ∃ (v : Int) (ok : Bool), (Instr.lookup 73 (.map (some b)) (.int .i64 (rd_T59 mV (k : Int)).f0) true).run Try.prog X = .ok (.tuple #[.int .i64 v, .bool ok]) X ∧ (ok = true → v = (rd_T59 mV (k : Int)).f1) := by
  have hz : (zeroValue 3).run Try.prog X = .ok (.int .i64 0) X := by simp [Try.zeroValue3]
  obtain rfl | rfl | rfl : k = 0 ∨ k = 1 ∨ k = 2 := by omega
  · exact ⟨0, false, map_look X 73 true 3 3 Try.underlying3 Try.underlying73 _ hz b _ _ 0 hb none rfl, by decide⟩
  · exact ⟨2, true, map_look X 73 true 3 3 Try.underlying3 Try.underlying73 _ hz b _ _ 0 hb (some (0, .int .i64 2)) rfl, by decide⟩
  · exact ⟨0, false, map_look X 73 true 3 3 Try.underlying3 Try.underlying73 _ hz b _ _ 1 hb none rfl, by decide⟩
theorem val_put (X : World) (b k : Nat) (hk : k < 3) (hb : X.heap[b]? = some (.map (esV k) (ckV k))) :
    ∃ w', (Instr.mapUpdate 73 (.map (some b)) (.int .i64 (rd_T59 mV (k : Int)).f0) (.int .i64 (rd_T59 mV (k : Int)).f1)).run Try.prog X = .ok () w' ∧ w'.heap[b]? = some (.map (esV (k + 1)) (ckV (k + 1))) ∧ X.grownBy w' (some b) := by
  obtain rfl | rfl | rfl : k = 0 ∨ k = 1 ∨ k = 2 := by omega
  · exact map_put X 73 3 3 Try.underlying3 Try.underlying73 b _ _ _ _ 0 (.int .i64 2) hb (.inl ⟨rfl, rfl, rfl⟩)
  · exact map_put X 73 3 3 Try.underlying3 Try.underlying73 b _ _ _ _ 0 (.int .i64 2) hb (.inr ⟨0, .int .i64 2, _, rfl, rfl, rfl, rfl, rfl⟩)
  · exact map_put X 73 3 3 Try.underlying3 Try.underlying73 b _ _ _ _ 1 (.int .i64 4) hb (.inl ⟨rfl, rfl, rfl⟩)
theorem val_row (k : Nat) (hk : k < 3) : stripes_validRow.f 20 6 2 3 1 8 8 (rd_T59 mV (k : Int)).f0 (rd_T59 mV (k : Int)).f1 (rd_T59 mV (k : Int)).f2 = some true := by
  obtain rfl | rfl | rfl : k = 0 ∨ k = 1 ∨ k = 2 := by omega
  · decide +kernel
  · decide +kernel
  · decide +kernel

abbrev six : Array Value := #[.int .i64 6, .int .i64 2, .int .i64 3, .int .i64 1, .int .i64 8, .int .i64 8]

set_option maxHeartbeats 4000000 in
theorem valid_short (A : Option Addr) (c : Nat) (w : World) :
    Calls Try.prog 22 #[.agg #[.int .i64 6, .int .i64 2, .int .i64 3, .int .i64 1, .int .i64 8, .int .i64 8], .slice A 2 c] w fun e w' => e = .returned (.bool false) ∧ Below w.heap.size w w' := by
  have CK : Aside (∀ W, Calls Try.prog 28 #[.agg #[.int .i64 6, .int .i64 2, .int .i64 3, .int .i64 1, .int .i64 8, .int .i64 8]] W fun e w' => e = .returned (.int .i64 0) ∧ Below W.heap.size W w') := fun W => design_Check.calls 6 2 3 1 8 8 0 W (by decide +kernel)
  have hu23 := Try.underlying23
  go_enter Try.func22, Try.ntmps22
  have hBx : Aside (Below w.heap.size w (w.alloc (.cells #[.int .i64 6, .int .i64 2, .int .i64 3, .int .i64 1, .int .i64 8, .int .i64 8] 23))) := below_alloc (Below.refl _ _) _
  go_wp2_with (go_at_call 28; refine (CK.out _).mono ?_; rintro e w1 ⟨rfl, hb⟩; have HB : Aside (Below w.heap.size w w1) := below_then hBx.out hBx.out.size hb; have c2 : w1.cell? ⟨w.heap.size, 2, none⟩ = some (.int .i64 3) := pw_cell_below hb (by rw [World.cell?_alloc_at (w := w) _ _ w.heap.size 2 rfl]; rfl); clear hb)
  go_ret
  exact ⟨rfl, HB.out⟩

set_option maxHeartbeats 4000000 in
theorem valid_full (A : Option Addr) (c : Nat) (w : World) (hl : Kd.C k59 w A 3 mV) :
    Calls Try.prog 22 #[.agg #[.int .i64 6, .int .i64 2, .int .i64 3, .int .i64 1, .int .i64 8, .int .i64 8], .slice A 3 c] w fun e w' => e = .returned (.bool true) ∧ Below w.heap.size w w' := by
  have CK : Aside (∀ W, Calls Try.prog 28 #[.agg #[.int .i64 6, .int .i64 2, .int .i64 3, .int .i64 1, .int .i64 8, .int .i64 8]] W fun e w' => e = .returned (.int .i64 0) ∧ Below W.heap.size W w') := fun W => design_Check.calls 6 2 3 1 8 8 0 W (by decide +kernel)
  have HL : Aside (Kd.C k59 w A 3 mV) := hl
  have hu23 := Try.underlying23
  have hu59 := Try.underlying59
  have hmm := @run_makeMap Try.prog
  clear hl
  go_enter Try.func22, Try.ntmps22
  have hBx : Aside (Below w.heap.size w (w.alloc (.cells #[.int .i64 6, .int .i64 2, .int .i64 3, .int .i64 1, .int .i64 8, .int .i64 8] 23))) := below_alloc (Below.refl _ _) _
  have hbx : Aside ((w.alloc (.cells #[.int .i64 6, .int .i64 2, .int .i64 3, .int .i64 1, .int .i64 8, .int .i64 8] 23)).heap[w.heap.size]? = some (.cells #[.int .i64 6, .int .i64 2, .int .i64 3, .int .i64 1, .int .i64 8, .int .i64 8] 23 (0, 0))) := World.alloc_heap_new _ _
  go_wp2_with (go_at_call 28; refine (CK.out _).mono ?_; rintro e w1 ⟨rfl, hb⟩; have HB : Aside (Below w.heap.size w w1) := below_then hBx.out hBx.out.size hb; have HC : Aside (w1.heap[w.heap.size]? = some (.cells #[.int .i64 6, .int .i64 2, .int .i64 3, .int .i64 1, .int .i64 8, .int .i64 8] 23 (0, 0))) := blk_below hbx.out hb; have c2 : w1.cell? ⟨w.heap.size, 2, none⟩ = some (.int .i64 3) := pw_cell_below hb (by rw [World.cell?_alloc_at (w := w) _ _ w.heap.size 2 rfl]; rfl); have hsz : Hid (w.heap.size + 1 ≤ w1.heap.size) := Lib.hid (by have h1 := hb.size; simp at h1; omega); clear hb)
  go_loopw [23] (fun i wr => ∃ k : Nat, k ≤ 3 ∧ i = .int .i64 k ∧ Aside (wr.heap[w1.heap.size]? = some (.map (esV k) (ckV k)) ∧ wr.heap[w.heap.size]? = some (.cells #[.int .i64 6, .int .i64 2, .int .i64 3, .int .i64 1, .int .i64 8, .int .i64 8] 23 (0, 0)) ∧ Below w.heap.size w wr)) (fun i _ => 3 - (RowKit.intOf i).toNat)
  case atStart => exact ⟨0, by omega, rfl, World.alloc_heap_new _ _, blk_alloc HC.out _, below_then HB.out HB.out.size (below_alloc (Below.refl _ _) _)⟩
  case round =>
    obtain ⟨k, hk, rfl, hI⟩ := hrel
    by_cases hk3 : k < 3
    · obtain ⟨hm, hcf, hBw⟩ := hI
      obtain ⟨ad, A2, c2', hA, hc0, hc1, hc2, hle, hC2⟩ := at_T59 HL.out (k : Int) (by omega) (by omega)
      rw [Int.toNat_natCast] at hc0 hc1 hc2
      replace hc0 := (hBw.cell (block_lt_of_cell hc0)).trans hc0
      replace hc1 := (hBw.cell (block_lt_of_cell hc1)).trans hc1
      replace hc2 := (hBw.cell (block_lt_of_cell hc2)).trans hc2
      have hkz : (k : Int) < 3 := by omega
      obtain ⟨wu, hwu⟩ : ∃ wu, wu = wr.alloc (.cells #[.int .i64 (rd_T59 mV (k : Int)).f0, .int .i64 (rd_T59 mV (k : Int)).f1, .slice A2 (rd_T59 mV (k : Int)).f2.length c2'] 59) := ⟨_, rfl⟩
      have hmu : wu.heap[w1.heap.size]? = some (.map (esV k) (ckV k)) := by rw [hwu]; exact blk_alloc hm _
      have hcu : wu.heap[w.heap.size]? = some (.cells #[.int .i64 6, .int .i64 2, .int .i64 3, .int .i64 1, .int .i64 8, .int .i64 8] 23 (0, 0)) := by rw [hwu]; exact blk_alloc hcf _
      have hru : wu.heap[wr.heap.size]? = some (.cells #[.int .i64 (rd_T59 mV (k : Int)).f0, .int .i64 (rd_T59 mV (k : Int)).f1, .slice A2 (rd_T59 mV (k : Int)).f2.length c2'] 59 (0, 0)) := by rw [hwu]; exact World.alloc_heap_new _ _
      have hBu : Below w.heap.size w wu := by rw [hwu]; exact hBw.alloc hBw.size _
      obtain ⟨v, ok, elook, hok⟩ := val_look wu w1.heap.size k hk3 hmu
      have hrow := val_row k hk3
      have hput := fun X => val_put X w1.heap.size k hk3
      have VR : Aside (∀ X, Below w.heap.size w X → Calls Try.prog 33 #[.agg #[.int .i64 6, .int .i64 2, .int .i64 3, .int .i64 1, .int .i64 8, .int .i64 8], .agg #[.int .i64 (rd_T59 mV (k : Int)).f0, .int .i64 (rd_T59 mV (k : Int)).f1, .slice A2 (rd_T59 mV (k : Int)).f2.length c2']] X fun e w' => e = .returned (.bool true) ∧ Below X.heap.size X w') :=
        fun X hX => stripes_validRow.calls 20 6 2 3 1 8 8 _ _ A2 c2' _ true X (Kd.C_below hC2 hX) hle hrow
      subst hA
      generalize rd_T59 mV (k : Int) = r at *
      obtain ⟨f0, f1, f2⟩ := r
      dsimp only at *
      generalize f2.length = m at *
      have HPUT : Aside (∀ (X : World), X.heap[w1.heap.size]? = some (.map (esV k) (ckV k)) → ∃ w', (Instr.mapUpdate 73 (.map (some w1.heap.size)) (.int .i64 f0) (.int .i64 f1)).run Try.prog X = .ok () w' ∧ w'.heap[w1.heap.size]? = some (.map (esV (k + 1)) (ckV (k + 1))) ∧ X.grownBy w' (some w1.heap.size)) := hput
      have HMU : Aside (wu.heap[w1.heap.size]? = some (.map (esV k) (ckV k))) := hmu
      have HCU : Aside (wu.heap[w.heap.size]? = some (.cells #[.int .i64 6, .int .i64 2, .int .i64 3, .int .i64 1, .int .i64 8, .int .i64 8] 23 (0, 0))) := hcu
      have HRU : Aside (wu.heap[wr.heap.size]? = some (.cells #[.int .i64 f0, .int .i64 f1, .slice A2 m c2'] 59 (0, 0))) := hru
      have HBU : Aside (Below w.heap.size w wu) := hBu
      have hd0 : wu.cell? ⟨w.heap.size, 0, none⟩ = some (.int .i64 6) := blk_cell hcu 0
      have hd1 : wu.cell? ⟨w.heap.size, 1, none⟩ = some (.int .i64 2) := blk_cell hcu 1
      have hd2 : wu.cell? ⟨w.heap.size, 2, none⟩ = some (.int .i64 3) := blk_cell hcu 2
      have hd3 : wu.cell? ⟨w.heap.size, 3, none⟩ = some (.int .i64 1) := blk_cell hcu 3
      have hd4 : wu.cell? ⟨w.heap.size, 4, none⟩ = some (.int .i64 8) := blk_cell hcu 4
      have hd5 : wu.cell? ⟨w.heap.size, 5, none⟩ = some (.int .i64 8) := blk_cell hcu 5
      clear hput hmu hcu hru hBu hrow hC2 hle hm hcf hBw
      subst hwu
      go_wp2_with (first
        | (go_at_call 33; refine (VR.out _ HBU.out).mono ?_; rintro e w2 ⟨rfl, hb⟩; have he0 : w2.cell? ⟨wr.heap.size, 0, none⟩ = some (.int .i64 f0) := pw_cell_below hb (blk_cell HRU.out 0); have he1 : w2.cell? ⟨wr.heap.size, 1, none⟩ = some (.int .i64 f1) := pw_cell_below hb (blk_cell HRU.out 1); obtain ⟨w3, eput, hm3, hg3⟩ := HPUT.out w2 (blk_below HMU.out hb); have HM3 : Aside (w3.heap[w1.heap.size]? = some (.map (esV (k + 1)) (ckV (k + 1)))) := hm3; have HG3 : Aside (w2.grownBy w3 (some w1.heap.size)) := hg3; have HB2 : Aside (Below _ _ w2) := hb; clear hb hm3 hg3))
      all_goals
        have hsz2 := hsz
        unfold Hid at hsz2
        have hs1 := HBU.out.size
        have hs2 := HB2.out.size
        have hcfg : w3.heap[w.heap.size]? = some (.cells #[.int .i64 6, .int .i64 2, .int .i64 3, .int .i64 1, .int .i64 8, .int .i64 8] 23 (0, 0)) :=
          (HG3.out.block w.heap.size (blk_lt (blk_below HCU.out HB2.out)) (fun e => by injection e with e; omega)).trans (blk_below HCU.out HB2.out)
        have hbl : Below w.heap.size w w3 := (below_then HBU.out HBU.out.size HB2.out).grown HG3.out (by omega) (fun q hq => by cases hq; omega)
        exact ⟨⟨k + 1, by omega, by simp, HM3.out, hcfg, hbl⟩, by simp [RowKit.intOf]; omega⟩
    · obtain rfl : k = 3 := by omega
      have HI : Aside (Below w.heap.size w wr) := hI.2.2
      clear hI
      go_wp2_with fail
      go_ret
      exact ⟨rfl, HI.out⟩
end Go.Proofs.Ytlodlblkmnhaeaa

/- The stripes laws' sanity: true. -/
import Derived.Test.YtlodlblkmnhaeaaValWalk
import Derived.Test.YtlodlblkmnhaeaaAlcCalls
import Derived.Test.YtlodlblkmnhaeaaRelWalk
import Derived.Test.YtlodlblkmnhaeaaNewWalk
namespace Go.Proofs.Ytlodlblkmnhaeaa
set_option linter.unusedVariables false
set_option linter.unusedSimpArgs false
open Go.RowKit Go.Lib Go.Proofs.Ytlodlblkmnhaeaa.P Go.Proofs.YtlodlblkmnhaeaaW.PrintWords Go.Proofs.YtlodlblkmnhaeaaW.PrintLast Go.Proofs.YtlodlblkmnhaeaaW.PrintMore

def sanR13.T : Bool × List (List Nat × List Nat) := (true, [([], []), ([0], [0]), ([1], [1]), ([2, 1], [1, 2]), ([1, 3], [1, 3]), ([4, 1], [4]), ([5], [5]), ([6, 5], [5, 6]), ([5, 7], [5, 7]), ([8, 5], [8]), ([9], [9]), ([9], [9]), ([10, 11, 9], [9, 10, 11]), ([9, 12], [9, 12]), ([13, 9], [13]), ([14], [14]), ([15, 14], [14, 15]), ([14, 16], [14, 16]), ([17, 14], [17]), ([18], [18]), ([19, 18], [18, 19]), ([18, 20], [18, 20]), ([21, 18], [21]), ([22], [22]), ([23, 22, 22], [22, 23]), ([24, 22], [22, 24]), ([22, 25], [22, 25]), ([26, 24], [26]), ([27], [27]), ([28, 27, 27], [27, 28]), ([29, 27], [27, 29]), ([27, 30], [27, 30]), ([31, 29], [31]), ([32], [32]), ([32], [32]), ([33, 34, 32, 32], [32, 33, 34]), ([32, 35], [32, 35]), ([36, 35], [36]), ([37], [37]), ([37], [37]), ([39, 37], [37, 39]), ([38, 40, 37, 37], [37, 38, 40]), ([41, 37], [37, 41]), ([37, 42], [37, 42]), ([43, 41, 0, 1, 2, 3, 4, 5, 6, 7, 8, 9, 10, 11, 12, 13, 14, 15, 16, 17, 18, 19, 20, 21, 22, 23, 24, 25, 26, 27, 28, 29, 30, 31, 32, 33, 34, 35, 36, 37, 38, 39, 40, 41, 42, 43], [43])])
def sanR13.B : List Nat := [0, 1, 3, 7, 15, 31, 63, 127, 255, 511, 1023, 1023, 4095, 8191, 16383, 32767, 65535, 131071, 262143, 524287, 1048575, 2097151, 4194303, 8388607, 16777215, 33554431, 67108863, 134217727, 268435455, 536870911, 1073741823, 2147483647, 4294967295, 8589934591, 8589934591, 34359738367, 68719476735, 137438953471, 274877906943, 274877906943, 824633720831, 2199023255551, 4398046511103, 8796093022207, 17592186044415]
theorem sanR13.tab : rtab .any (opsOf Try.f8 13) = sanR13.T := by kernel_rfl
theorem sanR13.bits : waitsOk sanR13.T.2 sanR13.B = true := by kernel_rfl

/-- The lists of rows that sanity comes by. -/
def rF : S59 := ⟨-1, 0, []⟩
def mS0 : List S59 := [rF, rF, rF]
def mS1 : List S59 := [⟨0, 2, [⟨0, ⟨1, 0⟩⟩]⟩, rF, rF]
def mS2 : List S59 := [⟨0, 2, [⟨0, ⟨1, 0⟩⟩, ⟨1, ⟨1, 1⟩⟩]⟩, rF, rF]
def mS3 : List S59 := [⟨0, 2, [⟨0, ⟨1, 0⟩⟩, ⟨1, ⟨1, 1⟩⟩]⟩, ⟨0, 2, [⟨0, ⟨1, 2⟩⟩]⟩, rF]
def mS5 : List S59 := [⟨0, 2, [⟨1, ⟨1, 1⟩⟩]⟩, ⟨0, 2, [⟨0, ⟨1, 2⟩⟩]⟩, ⟨1, 4, [⟨0, ⟨1, 3⟩⟩]⟩]
def mS6 : List S59 := [⟨0, 2, [⟨0, ⟨0, 0⟩⟩, ⟨1, ⟨1, 1⟩⟩]⟩, ⟨0, 2, [⟨0, ⟨1, 2⟩⟩]⟩, ⟨1, 4, [⟨0, ⟨1, 3⟩⟩]⟩]
def mS7 : List S59 := [⟨0, 2, [⟨1, ⟨1, 1⟩⟩]⟩, rF, ⟨1, 4, [⟨0, ⟨1, 3⟩⟩]⟩]

theorem san_aN : stripes_New.f 6 2 3 1 8 8 = some (mS0, 0) := by kernel_rfl
theorem san_a3 : stripes_Allocate.f 6 2 3 1 8 8 mS0 0 2 1 0 = some (mS1, 0, 0, 0) := by kernel_rfl
theorem san_a4 : stripes_Allocate.f 6 2 3 1 8 8 mS1 0 2 1 1 = some (mS2, 0, 1, 0) := by kernel_rfl
theorem san_a5 : stripes_Allocate.f 6 2 3 1 8 8 mS2 0 2 1 2 = some (mS3, 1, 0, 0) := by kernel_rfl
theorem san_a6 : stripes_Allocate.f 6 2 3 1 8 8 mS3 1 4 1 3 = some (mV, 2, 0, 0) := by kernel_rfl
theorem san_a7 : stripes_Allocate.f 6 2 3 1 8 8 mV 1 4 0 0 = some ([], 0, 0, 16) := by kernel_rfl
theorem san_a8 : stripes_Release.f mV 0 0 = some (mS5, 0) := by kernel_rfl
theorem san_a9 : stripes_Allocate.f 6 2 3 1 8 8 mS5 0 2 0 0 = some (mS6, 0, 0, 0) := by kernel_rfl
theorem san_a10 : stripes_Allocate.f 6 2 3 1 8 8 mS5 0 3 0 0 = some ([], 0, 0, 1) := by kernel_rfl
theorem san_a11 : stripes_Release.f mS5 1 0 = some (mS7, 0) := by kernel_rfl
theorem san_aF : stripes_Free.f mS7 = some 1 := by kernel_rfl
theorem san_aH : stripes_Held.f mV 0 = some 2 := by kernel_rfl

set_option maxRecDepth 100000 in
set_option maxHeartbeats 16000000 in
theorem sanity_any (w : World) : Calls Try.prog 8 #[] w fun e w' => e = .returned (.bool true) ∧ Below w.heap.size w w' := by
  have hu23 := Try.underlying23
  have hu29 := Try.underlying29
  have hu27 := Try.underlying27
  have HB : Aside (Below w.heap.size w w) := Below.refl _ _
  go_enter Try.func8, Try.ntmps8
  go_upto_region 2 with (go_at_call 20; refine (solventlaw24_six.calls 6 2 3 1 8 8 w rfl).mono ?_; rintro e w1 ⟨rfl, hb⟩; replace HB : Aside (Below w.heap.size w w1) := below_then HB.out HB.out.size hb; clear hb)
  have hb : Below w1.heap.size w1 (w1.alloc (.cells #[.int .i64 6, .int .i64 2, .int .i64 3, .int .i64 1, .int .i64 8, .int .i64 8] 23)) := below_alloc (Below.refl _ _) _
  replace HB : Aside (Below w.heap.size w (w1.alloc (.cells #[.int .i64 6, .int .i64 2, .int .i64 3, .int .i64 1, .int .i64 8, .int .i64 8] 23))) := below_then HB.out HB.out.size hb
  have SC : Aside ((w1.alloc (.cells #[.int .i64 6, .int .i64 2, .int .i64 3, .int .i64 1, .int .i64 8, .int .i64 8] 23)).heap[w1.heap.size]? = some (.cells #[.int .i64 6, .int .i64 2, .int .i64 3, .int .i64 1, .int .i64 8, .int .i64 8] 23 (0, 0))) := World.alloc_heap_new _ _
  clear hb
  generalize w1.alloc (.cells #[.int .i64 6, .int .i64 2, .int .i64 3, .int .i64 1, .int .i64 8, .int .i64 8] 23) = w2 at HB SC ⊢
  generalize w1.heap.size = bSC at SC ⊢
  have cSC_0 : w2.cell? ⟨bSC, 0, none⟩ = some (.int .i64 6) := blk_cell SC.out 0
  have cSC_1 : w2.cell? ⟨bSC, 1, none⟩ = some (.int .i64 2) := blk_cell SC.out 1
  have cSC_2 : w2.cell? ⟨bSC, 2, none⟩ = some (.int .i64 3) := blk_cell SC.out 2
  have cSC_3 : w2.cell? ⟨bSC, 3, none⟩ = some (.int .i64 1) := blk_cell SC.out 3
  have cSC_4 : w2.cell? ⟨bSC, 4, none⟩ = some (.int .i64 8) := blk_cell SC.out 4
  have cSC_5 : w2.cell? ⟨bSC, 5, none⟩ = some (.int .i64 8) := blk_cell SC.out 5
  go_upto_region 3 with (go_at_call 13; refine (stripes_New.calls 6 2 3 1 8 8 mS0 0 w2 san_aN).mono ?_; rintro e w3 ⟨v_, rfl, hS, hb⟩; obtain ⟨AC0, cC0, rfl, hc_, hC_⟩ := Kd.S_reads hS; replace HB : Aside (Below w.heap.size w w3) := below_then HB.out HB.out.size hb; replace SC : Aside (w3.heap[bSC]? = some (.cells #[.int .i64 6, .int .i64 2, .int .i64 3, .int .i64 1, .int .i64 8, .int .i64 8] 23 (0, 0))) := blk_below SC.out hb; have C0 : Aside (Kd.C k59 w3 AC0 3 mS0) := hC_; have QC0 : Aside (3 ≤ cC0) := hc_; clear hS hb hc_ hC_)
  clear cSC_0 cSC_1 cSC_2 cSC_3 cSC_4 cSC_5
  have cSC_0 : w3.cell? ⟨bSC, 0, none⟩ = some (.int .i64 6) := blk_cell SC.out 0
  have cSC_1 : w3.cell? ⟨bSC, 1, none⟩ = some (.int .i64 2) := blk_cell SC.out 1
  have cSC_2 : w3.cell? ⟨bSC, 2, none⟩ = some (.int .i64 3) := blk_cell SC.out 2
  have cSC_3 : w3.cell? ⟨bSC, 3, none⟩ = some (.int .i64 1) := blk_cell SC.out 3
  have cSC_4 : w3.cell? ⟨bSC, 4, none⟩ = some (.int .i64 8) := blk_cell SC.out 4
  have cSC_5 : w3.cell? ⟨bSC, 5, none⟩ = some (.int .i64 8) := blk_cell SC.out 5
  go_upto_region 4 with (go_at_call 9; refine (stripes_Allocate.calls 6 2 3 1 8 8 AC0 cC0 mS0 0 2 1 0 mS1 0 0 0 w3 C0.out QC0.out san_a3).mono ?_; rintro e w4 ⟨v_, rfl, hS, hb⟩; obtain ⟨AC1, cC1, rfl, hc_, hC_⟩ := Kd.S_reads hS; replace HB : Aside (Below w.heap.size w w4) := below_then HB.out HB.out.size hb; replace SC : Aside (w4.heap[bSC]? = some (.cells #[.int .i64 6, .int .i64 2, .int .i64 3, .int .i64 1, .int .i64 8, .int .i64 8] 23 (0, 0))) := blk_below SC.out hb; replace C0 : Aside (Kd.C k59 w4 AC0 3 mS0) := Kd.C_below C0.out hb; have C1 : Aside (Kd.C k59 w4 AC1 3 mS1) := hC_; have QC1 : Aside (3 ≤ cC1) := hc_; clear hS hb hc_ hC_)
  clear cSC_0 cSC_1 cSC_2 cSC_3 cSC_4 cSC_5
  have hb : Below w4.heap.size w4 (w4.alloc (.cells #[.int .i64 0, .int .i64 0] 29)) := below_alloc (Below.refl _ _) _
  replace HB : Aside (Below w.heap.size w (w4.alloc (.cells #[.int .i64 0, .int .i64 0] 29))) := below_then HB.out HB.out.size hb
  replace SC : Aside ((w4.alloc (.cells #[.int .i64 0, .int .i64 0] 29)).heap[bSC]? = some (.cells #[.int .i64 6, .int .i64 2, .int .i64 3, .int .i64 1, .int .i64 8, .int .i64 8] 23 (0, 0))) := blk_below SC.out hb
  replace C0 : Aside (Kd.C k59 (w4.alloc (.cells #[.int .i64 0, .int .i64 0] 29)) AC0 3 mS0) := Kd.C_below C0.out hb
  replace C1 : Aside (Kd.C k59 (w4.alloc (.cells #[.int .i64 0, .int .i64 0] 29)) AC1 3 mS1) := Kd.C_below C1.out hb
  have S5 : Aside ((w4.alloc (.cells #[.int .i64 0, .int .i64 0] 29)).heap[w4.heap.size]? = some (.cells #[.int .i64 0, .int .i64 0] 29 (0, 0))) := World.alloc_heap_new _ _
  clear hb
  generalize w4.alloc (.cells #[.int .i64 0, .int .i64 0] 29) = w5 at HB SC C0 C1 S5 ⊢
  generalize w4.heap.size = bS5 at S5 ⊢
  have cSC_0 : w5.cell? ⟨bSC, 0, none⟩ = some (.int .i64 6) := blk_cell SC.out 0
  have cSC_1 : w5.cell? ⟨bSC, 1, none⟩ = some (.int .i64 2) := blk_cell SC.out 1
  have cSC_2 : w5.cell? ⟨bSC, 2, none⟩ = some (.int .i64 3) := blk_cell SC.out 2
  have cSC_3 : w5.cell? ⟨bSC, 3, none⟩ = some (.int .i64 1) := blk_cell SC.out 3
  have cSC_4 : w5.cell? ⟨bSC, 4, none⟩ = some (.int .i64 8) := blk_cell SC.out 4
  have cSC_5 : w5.cell? ⟨bSC, 5, none⟩ = some (.int .i64 8) := blk_cell SC.out 5
  go_upto_region 5 with (go_at_call 9; refine (stripes_Allocate.calls 6 2 3 1 8 8 AC1 cC1 mS1 0 2 1 1 mS2 0 1 0 w5 C1.out QC1.out san_a4).mono ?_; rintro e w6 ⟨v_, rfl, hS, hb⟩; obtain ⟨AC2, cC2, rfl, hc_, hC_⟩ := Kd.S_reads hS; replace HB : Aside (Below w.heap.size w w6) := below_then HB.out HB.out.size hb; replace SC : Aside (w6.heap[bSC]? = some (.cells #[.int .i64 6, .int .i64 2, .int .i64 3, .int .i64 1, .int .i64 8, .int .i64 8] 23 (0, 0))) := blk_below SC.out hb; replace C0 : Aside (Kd.C k59 w6 AC0 3 mS0) := Kd.C_below C0.out hb; replace C1 : Aside (Kd.C k59 w6 AC1 3 mS1) := Kd.C_below C1.out hb; replace S5 : Aside (w6.heap[bS5]? = some (.cells #[.int .i64 0, .int .i64 0] 29 (0, 0))) := blk_below S5.out hb; have C2 : Aside (Kd.C k59 w6 AC2 3 mS2) := hC_; have QC2 : Aside (3 ≤ cC2) := hc_; clear hS hb hc_ hC_)
  clear cSC_0 cSC_1 cSC_2 cSC_3 cSC_4 cSC_5
  have hb : Below w6.heap.size w6 (w6.alloc (.cells #[.int .i64 0, .int .i64 1] 29)) := below_alloc (Below.refl _ _) _
  replace HB : Aside (Below w.heap.size w (w6.alloc (.cells #[.int .i64 0, .int .i64 1] 29))) := below_then HB.out HB.out.size hb
  replace SC : Aside ((w6.alloc (.cells #[.int .i64 0, .int .i64 1] 29)).heap[bSC]? = some (.cells #[.int .i64 6, .int .i64 2, .int .i64 3, .int .i64 1, .int .i64 8, .int .i64 8] 23 (0, 0))) := blk_below SC.out hb
  replace C0 : Aside (Kd.C k59 (w6.alloc (.cells #[.int .i64 0, .int .i64 1] 29)) AC0 3 mS0) := Kd.C_below C0.out hb
  replace C1 : Aside (Kd.C k59 (w6.alloc (.cells #[.int .i64 0, .int .i64 1] 29)) AC1 3 mS1) := Kd.C_below C1.out hb
  replace S5 : Aside ((w6.alloc (.cells #[.int .i64 0, .int .i64 1] 29)).heap[bS5]? = some (.cells #[.int .i64 0, .int .i64 0] 29 (0, 0))) := blk_below S5.out hb
  replace C2 : Aside (Kd.C k59 (w6.alloc (.cells #[.int .i64 0, .int .i64 1] 29)) AC2 3 mS2) := Kd.C_below C2.out hb
  have S8 : Aside ((w6.alloc (.cells #[.int .i64 0, .int .i64 1] 29)).heap[w6.heap.size]? = some (.cells #[.int .i64 0, .int .i64 1] 29 (0, 0))) := World.alloc_heap_new _ _
  clear hb
  generalize w6.alloc (.cells #[.int .i64 0, .int .i64 1] 29) = w7 at HB SC C0 C1 S5 C2 S8 ⊢
  generalize w6.heap.size = bS8 at S8 ⊢
  have cSC_0 : w7.cell? ⟨bSC, 0, none⟩ = some (.int .i64 6) := blk_cell SC.out 0
  have cSC_1 : w7.cell? ⟨bSC, 1, none⟩ = some (.int .i64 2) := blk_cell SC.out 1
  have cSC_2 : w7.cell? ⟨bSC, 2, none⟩ = some (.int .i64 3) := blk_cell SC.out 2
  have cSC_3 : w7.cell? ⟨bSC, 3, none⟩ = some (.int .i64 1) := blk_cell SC.out 3
  have cSC_4 : w7.cell? ⟨bSC, 4, none⟩ = some (.int .i64 8) := blk_cell SC.out 4
  have cSC_5 : w7.cell? ⟨bSC, 5, none⟩ = some (.int .i64 8) := blk_cell SC.out 5
  go_upto_region 6 with (go_at_call 9; refine (stripes_Allocate.calls 6 2 3 1 8 8 AC2 cC2 mS2 0 2 1 2 mS3 1 0 0 w7 C2.out QC2.out san_a5).mono ?_; rintro e w8 ⟨v_, rfl, hS, hb⟩; obtain ⟨AC3, cC3, rfl, hc_, hC_⟩ := Kd.S_reads hS; replace HB : Aside (Below w.heap.size w w8) := below_then HB.out HB.out.size hb; replace SC : Aside (w8.heap[bSC]? = some (.cells #[.int .i64 6, .int .i64 2, .int .i64 3, .int .i64 1, .int .i64 8, .int .i64 8] 23 (0, 0))) := blk_below SC.out hb; replace C0 : Aside (Kd.C k59 w8 AC0 3 mS0) := Kd.C_below C0.out hb; replace C1 : Aside (Kd.C k59 w8 AC1 3 mS1) := Kd.C_below C1.out hb; replace S5 : Aside (w8.heap[bS5]? = some (.cells #[.int .i64 0, .int .i64 0] 29 (0, 0))) := blk_below S5.out hb; replace C2 : Aside (Kd.C k59 w8 AC2 3 mS2) := Kd.C_below C2.out hb; replace S8 : Aside (w8.heap[bS8]? = some (.cells #[.int .i64 0, .int .i64 1] 29 (0, 0))) := blk_below S8.out hb; have C3 : Aside (Kd.C k59 w8 AC3 3 mS3) := hC_; have QC3 : Aside (3 ≤ cC3) := hc_; clear hS hb hc_ hC_)
  clear cSC_0 cSC_1 cSC_2 cSC_3 cSC_4 cSC_5
  have hb : Below w8.heap.size w8 (w8.alloc (.cells #[.int .i64 1, .int .i64 0] 29)) := below_alloc (Below.refl _ _) _
  replace HB : Aside (Below w.heap.size w (w8.alloc (.cells #[.int .i64 1, .int .i64 0] 29))) := below_then HB.out HB.out.size hb
  replace SC : Aside ((w8.alloc (.cells #[.int .i64 1, .int .i64 0] 29)).heap[bSC]? = some (.cells #[.int .i64 6, .int .i64 2, .int .i64 3, .int .i64 1, .int .i64 8, .int .i64 8] 23 (0, 0))) := blk_below SC.out hb
  replace C0 : Aside (Kd.C k59 (w8.alloc (.cells #[.int .i64 1, .int .i64 0] 29)) AC0 3 mS0) := Kd.C_below C0.out hb
  replace C1 : Aside (Kd.C k59 (w8.alloc (.cells #[.int .i64 1, .int .i64 0] 29)) AC1 3 mS1) := Kd.C_below C1.out hb
  replace S5 : Aside ((w8.alloc (.cells #[.int .i64 1, .int .i64 0] 29)).heap[bS5]? = some (.cells #[.int .i64 0, .int .i64 0] 29 (0, 0))) := blk_below S5.out hb
  replace C2 : Aside (Kd.C k59 (w8.alloc (.cells #[.int .i64 1, .int .i64 0] 29)) AC2 3 mS2) := Kd.C_below C2.out hb
  replace S8 : Aside ((w8.alloc (.cells #[.int .i64 1, .int .i64 0] 29)).heap[bS8]? = some (.cells #[.int .i64 0, .int .i64 1] 29 (0, 0))) := blk_below S8.out hb
  replace C3 : Aside (Kd.C k59 (w8.alloc (.cells #[.int .i64 1, .int .i64 0] 29)) AC3 3 mS3) := Kd.C_below C3.out hb
  have S11 : Aside ((w8.alloc (.cells #[.int .i64 1, .int .i64 0] 29)).heap[w8.heap.size]? = some (.cells #[.int .i64 1, .int .i64 0] 29 (0, 0))) := World.alloc_heap_new _ _
  clear hb
  generalize w8.alloc (.cells #[.int .i64 1, .int .i64 0] 29) = w9 at HB SC C0 C1 S5 C2 S8 C3 S11 ⊢
  generalize w8.heap.size = bS11 at S11 ⊢
  have cSC_0 : w9.cell? ⟨bSC, 0, none⟩ = some (.int .i64 6) := blk_cell SC.out 0
  have cSC_1 : w9.cell? ⟨bSC, 1, none⟩ = some (.int .i64 2) := blk_cell SC.out 1
  have cSC_2 : w9.cell? ⟨bSC, 2, none⟩ = some (.int .i64 3) := blk_cell SC.out 2
  have cSC_3 : w9.cell? ⟨bSC, 3, none⟩ = some (.int .i64 1) := blk_cell SC.out 3
  have cSC_4 : w9.cell? ⟨bSC, 4, none⟩ = some (.int .i64 8) := blk_cell SC.out 4
  have cSC_5 : w9.cell? ⟨bSC, 5, none⟩ = some (.int .i64 8) := blk_cell SC.out 5
  go_upto_region 7 with (go_at_call 9; refine (stripes_Allocate.calls 6 2 3 1 8 8 AC3 cC3 mS3 1 4 1 3 mV 2 0 0 w9 C3.out QC3.out san_a6).mono ?_; rintro e w10 ⟨v_, rfl, hS, hb⟩; obtain ⟨AC4, cC4, rfl, hc_, hC_⟩ := Kd.S_reads hS; replace HB : Aside (Below w.heap.size w w10) := below_then HB.out HB.out.size hb; replace SC : Aside (w10.heap[bSC]? = some (.cells #[.int .i64 6, .int .i64 2, .int .i64 3, .int .i64 1, .int .i64 8, .int .i64 8] 23 (0, 0))) := blk_below SC.out hb; replace C0 : Aside (Kd.C k59 w10 AC0 3 mS0) := Kd.C_below C0.out hb; replace C1 : Aside (Kd.C k59 w10 AC1 3 mS1) := Kd.C_below C1.out hb; replace S5 : Aside (w10.heap[bS5]? = some (.cells #[.int .i64 0, .int .i64 0] 29 (0, 0))) := blk_below S5.out hb; replace C2 : Aside (Kd.C k59 w10 AC2 3 mS2) := Kd.C_below C2.out hb; replace S8 : Aside (w10.heap[bS8]? = some (.cells #[.int .i64 0, .int .i64 1] 29 (0, 0))) := blk_below S8.out hb; replace C3 : Aside (Kd.C k59 w10 AC3 3 mS3) := Kd.C_below C3.out hb; replace S11 : Aside (w10.heap[bS11]? = some (.cells #[.int .i64 1, .int .i64 0] 29 (0, 0))) := blk_below S11.out hb; have C4 : Aside (Kd.C k59 w10 AC4 3 mV) := hC_; have QC4 : Aside (3 ≤ cC4) := hc_; clear hS hb hc_ hC_)
  clear cSC_0 cSC_1 cSC_2 cSC_3 cSC_4 cSC_5
  have hb : Below w10.heap.size w10 (w10.alloc (.cells #[.int .i64 2, .int .i64 0] 29)) := below_alloc (Below.refl _ _) _
  replace HB : Aside (Below w.heap.size w (w10.alloc (.cells #[.int .i64 2, .int .i64 0] 29))) := below_then HB.out HB.out.size hb
  replace SC : Aside ((w10.alloc (.cells #[.int .i64 2, .int .i64 0] 29)).heap[bSC]? = some (.cells #[.int .i64 6, .int .i64 2, .int .i64 3, .int .i64 1, .int .i64 8, .int .i64 8] 23 (0, 0))) := blk_below SC.out hb
  replace C0 : Aside (Kd.C k59 (w10.alloc (.cells #[.int .i64 2, .int .i64 0] 29)) AC0 3 mS0) := Kd.C_below C0.out hb
  replace C1 : Aside (Kd.C k59 (w10.alloc (.cells #[.int .i64 2, .int .i64 0] 29)) AC1 3 mS1) := Kd.C_below C1.out hb
  replace S5 : Aside ((w10.alloc (.cells #[.int .i64 2, .int .i64 0] 29)).heap[bS5]? = some (.cells #[.int .i64 0, .int .i64 0] 29 (0, 0))) := blk_below S5.out hb
  replace C2 : Aside (Kd.C k59 (w10.alloc (.cells #[.int .i64 2, .int .i64 0] 29)) AC2 3 mS2) := Kd.C_below C2.out hb
  replace S8 : Aside ((w10.alloc (.cells #[.int .i64 2, .int .i64 0] 29)).heap[bS8]? = some (.cells #[.int .i64 0, .int .i64 1] 29 (0, 0))) := blk_below S8.out hb
  replace C3 : Aside (Kd.C k59 (w10.alloc (.cells #[.int .i64 2, .int .i64 0] 29)) AC3 3 mS3) := Kd.C_below C3.out hb
  replace S11 : Aside ((w10.alloc (.cells #[.int .i64 2, .int .i64 0] 29)).heap[bS11]? = some (.cells #[.int .i64 1, .int .i64 0] 29 (0, 0))) := blk_below S11.out hb
  replace C4 : Aside (Kd.C k59 (w10.alloc (.cells #[.int .i64 2, .int .i64 0] 29)) AC4 3 mV) := Kd.C_below C4.out hb
  have S14 : Aside ((w10.alloc (.cells #[.int .i64 2, .int .i64 0] 29)).heap[w10.heap.size]? = some (.cells #[.int .i64 2, .int .i64 0] 29 (0, 0))) := World.alloc_heap_new _ _
  clear hb
  generalize w10.alloc (.cells #[.int .i64 2, .int .i64 0] 29) = w11 at HB SC C0 C1 S5 C2 S8 C3 S11 C4 S14 ⊢
  generalize w10.heap.size = bS14 at S14 ⊢
  have cSC_0 : w11.cell? ⟨bSC, 0, none⟩ = some (.int .i64 6) := blk_cell SC.out 0
  have cSC_1 : w11.cell? ⟨bSC, 1, none⟩ = some (.int .i64 2) := blk_cell SC.out 1
  have cSC_2 : w11.cell? ⟨bSC, 2, none⟩ = some (.int .i64 3) := blk_cell SC.out 2
  have cSC_3 : w11.cell? ⟨bSC, 3, none⟩ = some (.int .i64 1) := blk_cell SC.out 3
  have cSC_4 : w11.cell? ⟨bSC, 4, none⟩ = some (.int .i64 8) := blk_cell SC.out 4
  have cSC_5 : w11.cell? ⟨bSC, 5, none⟩ = some (.int .i64 8) := blk_cell SC.out 5
  go_upto_region 8 with (go_at_call 9; refine (stripes_Allocate.calls 6 2 3 1 8 8 AC4 cC4 mV 1 4 0 0 [] 0 0 16 w11 C4.out QC4.out san_a7).mono ?_; rintro e w12 ⟨v_, rfl, hS, hb⟩; obtain ⟨Az, cz, rfl, hc_, hC_⟩ := Kd.S_reads hS; replace HB : Aside (Below w.heap.size w w12) := below_then HB.out HB.out.size hb; replace SC : Aside (w12.heap[bSC]? = some (.cells #[.int .i64 6, .int .i64 2, .int .i64 3, .int .i64 1, .int .i64 8, .int .i64 8] 23 (0, 0))) := blk_below SC.out hb; replace C0 : Aside (Kd.C k59 w12 AC0 3 mS0) := Kd.C_below C0.out hb; replace C1 : Aside (Kd.C k59 w12 AC1 3 mS1) := Kd.C_below C1.out hb; replace S5 : Aside (w12.heap[bS5]? = some (.cells #[.int .i64 0, .int .i64 0] 29 (0, 0))) := blk_below S5.out hb; replace C2 : Aside (Kd.C k59 w12 AC2 3 mS2) := Kd.C_below C2.out hb; replace S8 : Aside (w12.heap[bS8]? = some (.cells #[.int .i64 0, .int .i64 1] 29 (0, 0))) := blk_below S8.out hb; replace C3 : Aside (Kd.C k59 w12 AC3 3 mS3) := Kd.C_below C3.out hb; replace S11 : Aside (w12.heap[bS11]? = some (.cells #[.int .i64 1, .int .i64 0] 29 (0, 0))) := blk_below S11.out hb; replace C4 : Aside (Kd.C k59 w12 AC4 3 mV) := Kd.C_below C4.out hb; replace S14 : Aside (w12.heap[bS14]? = some (.cells #[.int .i64 2, .int .i64 0] 29 (0, 0))) := blk_below S14.out hb; clear hS hb hc_ hC_)
  clear cSC_0 cSC_1 cSC_2 cSC_3 cSC_4 cSC_5
  have hb : Below w12.heap.size w12 (w12.alloc (.cells #[.int .i64 0, .int .i64 0] 29)) := below_alloc (Below.refl _ _) _
  replace HB : Aside (Below w.heap.size w (w12.alloc (.cells #[.int .i64 0, .int .i64 0] 29))) := below_then HB.out HB.out.size hb
  replace SC : Aside ((w12.alloc (.cells #[.int .i64 0, .int .i64 0] 29)).heap[bSC]? = some (.cells #[.int .i64 6, .int .i64 2, .int .i64 3, .int .i64 1, .int .i64 8, .int .i64 8] 23 (0, 0))) := blk_below SC.out hb
  replace C0 : Aside (Kd.C k59 (w12.alloc (.cells #[.int .i64 0, .int .i64 0] 29)) AC0 3 mS0) := Kd.C_below C0.out hb
  replace C1 : Aside (Kd.C k59 (w12.alloc (.cells #[.int .i64 0, .int .i64 0] 29)) AC1 3 mS1) := Kd.C_below C1.out hb
  replace S5 : Aside ((w12.alloc (.cells #[.int .i64 0, .int .i64 0] 29)).heap[bS5]? = some (.cells #[.int .i64 0, .int .i64 0] 29 (0, 0))) := blk_below S5.out hb
  replace C2 : Aside (Kd.C k59 (w12.alloc (.cells #[.int .i64 0, .int .i64 0] 29)) AC2 3 mS2) := Kd.C_below C2.out hb
  replace S8 : Aside ((w12.alloc (.cells #[.int .i64 0, .int .i64 0] 29)).heap[bS8]? = some (.cells #[.int .i64 0, .int .i64 1] 29 (0, 0))) := blk_below S8.out hb
  replace C3 : Aside (Kd.C k59 (w12.alloc (.cells #[.int .i64 0, .int .i64 0] 29)) AC3 3 mS3) := Kd.C_below C3.out hb
  replace S11 : Aside ((w12.alloc (.cells #[.int .i64 0, .int .i64 0] 29)).heap[bS11]? = some (.cells #[.int .i64 1, .int .i64 0] 29 (0, 0))) := blk_below S11.out hb
  replace C4 : Aside (Kd.C k59 (w12.alloc (.cells #[.int .i64 0, .int .i64 0] 29)) AC4 3 mV) := Kd.C_below C4.out hb
  replace S14 : Aside ((w12.alloc (.cells #[.int .i64 0, .int .i64 0] 29)).heap[bS14]? = some (.cells #[.int .i64 2, .int .i64 0] 29 (0, 0))) := blk_below S14.out hb
  have S17 : Aside ((w12.alloc (.cells #[.int .i64 0, .int .i64 0] 29)).heap[w12.heap.size]? = some (.cells #[.int .i64 0, .int .i64 0] 29 (0, 0))) := World.alloc_heap_new _ _
  clear hb
  generalize w12.alloc (.cells #[.int .i64 0, .int .i64 0] 29) = w13 at HB SC C0 C1 S5 C2 S8 C3 S11 C4 S14 S17 ⊢
  generalize w12.heap.size = bS17 at S17 ⊢
  have cS5_0 : w13.cell? ⟨bS5, 0, none⟩ = some (.int .i64 0) := blk_cell S5.out 0
  have cS5_1 : w13.cell? ⟨bS5, 1, none⟩ = some (.int .i64 0) := blk_cell S5.out 1
  go_upto_region 9 with (go_at_call 11; refine (stripes_Release.calls AC4 cC4 mV 0 0 mS5 0 w13 C4.out QC4.out san_a8).mono ?_; rintro e w14 ⟨v_, rfl, hS, hb⟩; obtain ⟨AC5, cC5, rfl, hc_, hC_⟩ := Kd.S_reads hS; replace HB : Aside (Below w.heap.size w w14) := below_then HB.out HB.out.size hb; replace SC : Aside (w14.heap[bSC]? = some (.cells #[.int .i64 6, .int .i64 2, .int .i64 3, .int .i64 1, .int .i64 8, .int .i64 8] 23 (0, 0))) := blk_below SC.out hb; replace C0 : Aside (Kd.C k59 w14 AC0 3 mS0) := Kd.C_below C0.out hb; replace C1 : Aside (Kd.C k59 w14 AC1 3 mS1) := Kd.C_below C1.out hb; replace S5 : Aside (w14.heap[bS5]? = some (.cells #[.int .i64 0, .int .i64 0] 29 (0, 0))) := blk_below S5.out hb; replace C2 : Aside (Kd.C k59 w14 AC2 3 mS2) := Kd.C_below C2.out hb; replace S8 : Aside (w14.heap[bS8]? = some (.cells #[.int .i64 0, .int .i64 1] 29 (0, 0))) := blk_below S8.out hb; replace C3 : Aside (Kd.C k59 w14 AC3 3 mS3) := Kd.C_below C3.out hb; replace S11 : Aside (w14.heap[bS11]? = some (.cells #[.int .i64 1, .int .i64 0] 29 (0, 0))) := blk_below S11.out hb; replace C4 : Aside (Kd.C k59 w14 AC4 3 mV) := Kd.C_below C4.out hb; replace S14 : Aside (w14.heap[bS14]? = some (.cells #[.int .i64 2, .int .i64 0] 29 (0, 0))) := blk_below S14.out hb; replace S17 : Aside (w14.heap[bS17]? = some (.cells #[.int .i64 0, .int .i64 0] 29 (0, 0))) := blk_below S17.out hb; have C5 : Aside (Kd.C k59 w14 AC5 3 mS5) := hC_; have QC5 : Aside (3 ≤ cC5) := hc_; clear hS hb hc_ hC_)
  clear cS5_0 cS5_1
  have cSC_0 : w14.cell? ⟨bSC, 0, none⟩ = some (.int .i64 6) := blk_cell SC.out 0
  have cSC_1 : w14.cell? ⟨bSC, 1, none⟩ = some (.int .i64 2) := blk_cell SC.out 1
  have cSC_2 : w14.cell? ⟨bSC, 2, none⟩ = some (.int .i64 3) := blk_cell SC.out 2
  have cSC_3 : w14.cell? ⟨bSC, 3, none⟩ = some (.int .i64 1) := blk_cell SC.out 3
  have cSC_4 : w14.cell? ⟨bSC, 4, none⟩ = some (.int .i64 8) := blk_cell SC.out 4
  have cSC_5 : w14.cell? ⟨bSC, 5, none⟩ = some (.int .i64 8) := blk_cell SC.out 5
  go_upto_region 10 with (go_at_call 9; refine (stripes_Allocate.calls 6 2 3 1 8 8 AC5 cC5 mS5 0 2 0 0 mS6 0 0 0 w14 C5.out QC5.out san_a9).mono ?_; rintro e w15 ⟨v_, rfl, hS, hb⟩; obtain ⟨AC6, cC6, rfl, hc_, hC_⟩ := Kd.S_reads hS; replace HB : Aside (Below w.heap.size w w15) := below_then HB.out HB.out.size hb; replace SC : Aside (w15.heap[bSC]? = some (.cells #[.int .i64 6, .int .i64 2, .int .i64 3, .int .i64 1, .int .i64 8, .int .i64 8] 23 (0, 0))) := blk_below SC.out hb; replace C0 : Aside (Kd.C k59 w15 AC0 3 mS0) := Kd.C_below C0.out hb; replace C1 : Aside (Kd.C k59 w15 AC1 3 mS1) := Kd.C_below C1.out hb; replace S5 : Aside (w15.heap[bS5]? = some (.cells #[.int .i64 0, .int .i64 0] 29 (0, 0))) := blk_below S5.out hb; replace C2 : Aside (Kd.C k59 w15 AC2 3 mS2) := Kd.C_below C2.out hb; replace S8 : Aside (w15.heap[bS8]? = some (.cells #[.int .i64 0, .int .i64 1] 29 (0, 0))) := blk_below S8.out hb; replace C3 : Aside (Kd.C k59 w15 AC3 3 mS3) := Kd.C_below C3.out hb; replace S11 : Aside (w15.heap[bS11]? = some (.cells #[.int .i64 1, .int .i64 0] 29 (0, 0))) := blk_below S11.out hb; replace C4 : Aside (Kd.C k59 w15 AC4 3 mV) := Kd.C_below C4.out hb; replace S14 : Aside (w15.heap[bS14]? = some (.cells #[.int .i64 2, .int .i64 0] 29 (0, 0))) := blk_below S14.out hb; replace S17 : Aside (w15.heap[bS17]? = some (.cells #[.int .i64 0, .int .i64 0] 29 (0, 0))) := blk_below S17.out hb; replace C5 : Aside (Kd.C k59 w15 AC5 3 mS5) := Kd.C_below C5.out hb; have C6 : Aside (Kd.C k59 w15 AC6 3 mS6) := hC_; have QC6 : Aside (3 ≤ cC6) := hc_; clear hS hb hc_ hC_)
  clear cSC_0 cSC_1 cSC_2 cSC_3 cSC_4 cSC_5
  have hb : Below w15.heap.size w15 (w15.alloc (.cells #[.int .i64 0, .int .i64 0] 29)) := below_alloc (Below.refl _ _) _
  replace HB : Aside (Below w.heap.size w (w15.alloc (.cells #[.int .i64 0, .int .i64 0] 29))) := below_then HB.out HB.out.size hb
  replace SC : Aside ((w15.alloc (.cells #[.int .i64 0, .int .i64 0] 29)).heap[bSC]? = some (.cells #[.int .i64 6, .int .i64 2, .int .i64 3, .int .i64 1, .int .i64 8, .int .i64 8] 23 (0, 0))) := blk_below SC.out hb
  replace C0 : Aside (Kd.C k59 (w15.alloc (.cells #[.int .i64 0, .int .i64 0] 29)) AC0 3 mS0) := Kd.C_below C0.out hb
  replace C1 : Aside (Kd.C k59 (w15.alloc (.cells #[.int .i64 0, .int .i64 0] 29)) AC1 3 mS1) := Kd.C_below C1.out hb
  replace S5 : Aside ((w15.alloc (.cells #[.int .i64 0, .int .i64 0] 29)).heap[bS5]? = some (.cells #[.int .i64 0, .int .i64 0] 29 (0, 0))) := blk_below S5.out hb
  replace C2 : Aside (Kd.C k59 (w15.alloc (.cells #[.int .i64 0, .int .i64 0] 29)) AC2 3 mS2) := Kd.C_below C2.out hb
  replace S8 : Aside ((w15.alloc (.cells #[.int .i64 0, .int .i64 0] 29)).heap[bS8]? = some (.cells #[.int .i64 0, .int .i64 1] 29 (0, 0))) := blk_below S8.out hb
  replace C3 : Aside (Kd.C k59 (w15.alloc (.cells #[.int .i64 0, .int .i64 0] 29)) AC3 3 mS3) := Kd.C_below C3.out hb
  replace S11 : Aside ((w15.alloc (.cells #[.int .i64 0, .int .i64 0] 29)).heap[bS11]? = some (.cells #[.int .i64 1, .int .i64 0] 29 (0, 0))) := blk_below S11.out hb
  replace C4 : Aside (Kd.C k59 (w15.alloc (.cells #[.int .i64 0, .int .i64 0] 29)) AC4 3 mV) := Kd.C_below C4.out hb
  replace S14 : Aside ((w15.alloc (.cells #[.int .i64 0, .int .i64 0] 29)).heap[bS14]? = some (.cells #[.int .i64 2, .int .i64 0] 29 (0, 0))) := blk_below S14.out hb
  replace S17 : Aside ((w15.alloc (.cells #[.int .i64 0, .int .i64 0] 29)).heap[bS17]? = some (.cells #[.int .i64 0, .int .i64 0] 29 (0, 0))) := blk_below S17.out hb
  replace C5 : Aside (Kd.C k59 (w15.alloc (.cells #[.int .i64 0, .int .i64 0] 29)) AC5 3 mS5) := Kd.C_below C5.out hb
  replace C6 : Aside (Kd.C k59 (w15.alloc (.cells #[.int .i64 0, .int .i64 0] 29)) AC6 3 mS6) := Kd.C_below C6.out hb
  have S22 : Aside ((w15.alloc (.cells #[.int .i64 0, .int .i64 0] 29)).heap[w15.heap.size]? = some (.cells #[.int .i64 0, .int .i64 0] 29 (0, 0))) := World.alloc_heap_new _ _
  clear hb
  generalize w15.alloc (.cells #[.int .i64 0, .int .i64 0] 29) = w16 at HB SC C0 C1 S5 C2 S8 C3 S11 C4 S14 S17 C5 C6 S22 ⊢
  generalize w15.heap.size = bS22 at S22 ⊢
  have cSC_0 : w16.cell? ⟨bSC, 0, none⟩ = some (.int .i64 6) := blk_cell SC.out 0
  have cSC_1 : w16.cell? ⟨bSC, 1, none⟩ = some (.int .i64 2) := blk_cell SC.out 1
  have cSC_2 : w16.cell? ⟨bSC, 2, none⟩ = some (.int .i64 3) := blk_cell SC.out 2
  have cSC_3 : w16.cell? ⟨bSC, 3, none⟩ = some (.int .i64 1) := blk_cell SC.out 3
  have cSC_4 : w16.cell? ⟨bSC, 4, none⟩ = some (.int .i64 8) := blk_cell SC.out 4
  have cSC_5 : w16.cell? ⟨bSC, 5, none⟩ = some (.int .i64 8) := blk_cell SC.out 5
  go_upto_region 11 with (go_at_call 9; refine (stripes_Allocate.calls 6 2 3 1 8 8 AC5 cC5 mS5 0 3 0 0 [] 0 0 1 w16 C5.out QC5.out san_a10).mono ?_; rintro e w17 ⟨v_, rfl, hS, hb⟩; obtain ⟨Az, cz, rfl, hc_, hC_⟩ := Kd.S_reads hS; replace HB : Aside (Below w.heap.size w w17) := below_then HB.out HB.out.size hb; replace SC : Aside (w17.heap[bSC]? = some (.cells #[.int .i64 6, .int .i64 2, .int .i64 3, .int .i64 1, .int .i64 8, .int .i64 8] 23 (0, 0))) := blk_below SC.out hb; replace C0 : Aside (Kd.C k59 w17 AC0 3 mS0) := Kd.C_below C0.out hb; replace C1 : Aside (Kd.C k59 w17 AC1 3 mS1) := Kd.C_below C1.out hb; replace S5 : Aside (w17.heap[bS5]? = some (.cells #[.int .i64 0, .int .i64 0] 29 (0, 0))) := blk_below S5.out hb; replace C2 : Aside (Kd.C k59 w17 AC2 3 mS2) := Kd.C_below C2.out hb; replace S8 : Aside (w17.heap[bS8]? = some (.cells #[.int .i64 0, .int .i64 1] 29 (0, 0))) := blk_below S8.out hb; replace C3 : Aside (Kd.C k59 w17 AC3 3 mS3) := Kd.C_below C3.out hb; replace S11 : Aside (w17.heap[bS11]? = some (.cells #[.int .i64 1, .int .i64 0] 29 (0, 0))) := blk_below S11.out hb; replace C4 : Aside (Kd.C k59 w17 AC4 3 mV) := Kd.C_below C4.out hb; replace S14 : Aside (w17.heap[bS14]? = some (.cells #[.int .i64 2, .int .i64 0] 29 (0, 0))) := blk_below S14.out hb; replace S17 : Aside (w17.heap[bS17]? = some (.cells #[.int .i64 0, .int .i64 0] 29 (0, 0))) := blk_below S17.out hb; replace C5 : Aside (Kd.C k59 w17 AC5 3 mS5) := Kd.C_below C5.out hb; replace C6 : Aside (Kd.C k59 w17 AC6 3 mS6) := Kd.C_below C6.out hb; replace S22 : Aside (w17.heap[bS22]? = some (.cells #[.int .i64 0, .int .i64 0] 29 (0, 0))) := blk_below S22.out hb; clear hS hb hc_ hC_)
  clear cSC_0 cSC_1 cSC_2 cSC_3 cSC_4 cSC_5
  have hb : Below w17.heap.size w17 (w17.alloc (.cells #[.int .i64 0, .int .i64 0] 29)) := below_alloc (Below.refl _ _) _
  replace HB : Aside (Below w.heap.size w (w17.alloc (.cells #[.int .i64 0, .int .i64 0] 29))) := below_then HB.out HB.out.size hb
  replace SC : Aside ((w17.alloc (.cells #[.int .i64 0, .int .i64 0] 29)).heap[bSC]? = some (.cells #[.int .i64 6, .int .i64 2, .int .i64 3, .int .i64 1, .int .i64 8, .int .i64 8] 23 (0, 0))) := blk_below SC.out hb
  replace C0 : Aside (Kd.C k59 (w17.alloc (.cells #[.int .i64 0, .int .i64 0] 29)) AC0 3 mS0) := Kd.C_below C0.out hb
  replace C1 : Aside (Kd.C k59 (w17.alloc (.cells #[.int .i64 0, .int .i64 0] 29)) AC1 3 mS1) := Kd.C_below C1.out hb
  replace S5 : Aside ((w17.alloc (.cells #[.int .i64 0, .int .i64 0] 29)).heap[bS5]? = some (.cells #[.int .i64 0, .int .i64 0] 29 (0, 0))) := blk_below S5.out hb
  replace C2 : Aside (Kd.C k59 (w17.alloc (.cells #[.int .i64 0, .int .i64 0] 29)) AC2 3 mS2) := Kd.C_below C2.out hb
  replace S8 : Aside ((w17.alloc (.cells #[.int .i64 0, .int .i64 0] 29)).heap[bS8]? = some (.cells #[.int .i64 0, .int .i64 1] 29 (0, 0))) := blk_below S8.out hb
  replace C3 : Aside (Kd.C k59 (w17.alloc (.cells #[.int .i64 0, .int .i64 0] 29)) AC3 3 mS3) := Kd.C_below C3.out hb
  replace S11 : Aside ((w17.alloc (.cells #[.int .i64 0, .int .i64 0] 29)).heap[bS11]? = some (.cells #[.int .i64 1, .int .i64 0] 29 (0, 0))) := blk_below S11.out hb
  replace C4 : Aside (Kd.C k59 (w17.alloc (.cells #[.int .i64 0, .int .i64 0] 29)) AC4 3 mV) := Kd.C_below C4.out hb
  replace S14 : Aside ((w17.alloc (.cells #[.int .i64 0, .int .i64 0] 29)).heap[bS14]? = some (.cells #[.int .i64 2, .int .i64 0] 29 (0, 0))) := blk_below S14.out hb
  replace S17 : Aside ((w17.alloc (.cells #[.int .i64 0, .int .i64 0] 29)).heap[bS17]? = some (.cells #[.int .i64 0, .int .i64 0] 29 (0, 0))) := blk_below S17.out hb
  replace C5 : Aside (Kd.C k59 (w17.alloc (.cells #[.int .i64 0, .int .i64 0] 29)) AC5 3 mS5) := Kd.C_below C5.out hb
  replace C6 : Aside (Kd.C k59 (w17.alloc (.cells #[.int .i64 0, .int .i64 0] 29)) AC6 3 mS6) := Kd.C_below C6.out hb
  replace S22 : Aside ((w17.alloc (.cells #[.int .i64 0, .int .i64 0] 29)).heap[bS22]? = some (.cells #[.int .i64 0, .int .i64 0] 29 (0, 0))) := blk_below S22.out hb
  have S25 : Aside ((w17.alloc (.cells #[.int .i64 0, .int .i64 0] 29)).heap[w17.heap.size]? = some (.cells #[.int .i64 0, .int .i64 0] 29 (0, 0))) := World.alloc_heap_new _ _
  clear hb
  generalize w17.alloc (.cells #[.int .i64 0, .int .i64 0] 29) = w18 at HB SC C0 C1 S5 C2 S8 C3 S11 C4 S14 S17 C5 C6 S22 S25 ⊢
  generalize w17.heap.size = bS25 at S25 ⊢
  have cS11_0 : w18.cell? ⟨bS11, 0, none⟩ = some (.int .i64 1) := blk_cell S11.out 0
  have cS11_1 : w18.cell? ⟨bS11, 1, none⟩ = some (.int .i64 0) := blk_cell S11.out 1
  go_upto_region 12 with (go_at_call 11; refine (stripes_Release.calls AC5 cC5 mS5 1 0 mS7 0 w18 C5.out QC5.out san_a11).mono ?_; rintro e w19 ⟨v_, rfl, hS, hb⟩; obtain ⟨AC7, cC7, rfl, hc_, hC_⟩ := Kd.S_reads hS; replace HB : Aside (Below w.heap.size w w19) := below_then HB.out HB.out.size hb; replace SC : Aside (w19.heap[bSC]? = some (.cells #[.int .i64 6, .int .i64 2, .int .i64 3, .int .i64 1, .int .i64 8, .int .i64 8] 23 (0, 0))) := blk_below SC.out hb; replace C0 : Aside (Kd.C k59 w19 AC0 3 mS0) := Kd.C_below C0.out hb; replace C1 : Aside (Kd.C k59 w19 AC1 3 mS1) := Kd.C_below C1.out hb; replace S5 : Aside (w19.heap[bS5]? = some (.cells #[.int .i64 0, .int .i64 0] 29 (0, 0))) := blk_below S5.out hb; replace C2 : Aside (Kd.C k59 w19 AC2 3 mS2) := Kd.C_below C2.out hb; replace S8 : Aside (w19.heap[bS8]? = some (.cells #[.int .i64 0, .int .i64 1] 29 (0, 0))) := blk_below S8.out hb; replace C3 : Aside (Kd.C k59 w19 AC3 3 mS3) := Kd.C_below C3.out hb; replace S11 : Aside (w19.heap[bS11]? = some (.cells #[.int .i64 1, .int .i64 0] 29 (0, 0))) := blk_below S11.out hb; replace C4 : Aside (Kd.C k59 w19 AC4 3 mV) := Kd.C_below C4.out hb; replace S14 : Aside (w19.heap[bS14]? = some (.cells #[.int .i64 2, .int .i64 0] 29 (0, 0))) := blk_below S14.out hb; replace S17 : Aside (w19.heap[bS17]? = some (.cells #[.int .i64 0, .int .i64 0] 29 (0, 0))) := blk_below S17.out hb; replace C5 : Aside (Kd.C k59 w19 AC5 3 mS5) := Kd.C_below C5.out hb; replace C6 : Aside (Kd.C k59 w19 AC6 3 mS6) := Kd.C_below C6.out hb; replace S22 : Aside (w19.heap[bS22]? = some (.cells #[.int .i64 0, .int .i64 0] 29 (0, 0))) := blk_below S22.out hb; replace S25 : Aside (w19.heap[bS25]? = some (.cells #[.int .i64 0, .int .i64 0] 29 (0, 0))) := blk_below S25.out hb; have C7 : Aside (Kd.C k59 w19 AC7 3 mS7) := hC_; have QC7 : Aside (3 ≤ cC7) := hc_; clear hS hb hc_ hC_)
  clear cS11_0 cS11_1
  have cS5_0 : w19.cell? ⟨bS5, 0, none⟩ = some (.int .i64 0) := blk_cell S5.out 0
  have cS5_1 : w19.cell? ⟨bS5, 1, none⟩ = some (.int .i64 0) := blk_cell S5.out 1
  have cS11_0 : w19.cell? ⟨bS11, 0, none⟩ = some (.int .i64 1) := blk_cell S11.out 0
  have cS11_1 : w19.cell? ⟨bS11, 1, none⟩ = some (.int .i64 0) := blk_cell S11.out 1
  have cS14_0 : w19.cell? ⟨bS14, 0, none⟩ = some (.int .i64 2) := blk_cell S14.out 0
  have cS14_1 : w19.cell? ⟨bS14, 1, none⟩ = some (.int .i64 0) := blk_cell S14.out 1
  go_upto_region 13 with fail
  clear cS5_0 cS5_1
  clear cS11_0 cS11_1
  clear cS14_0 cS14_1
  have hq7 : (2 : Int) ≤ (cC7 : Int) := by have := QC7.out; omega
  refine start_ (n := 45) (S := fun w' => Below w19.heap.size w19 w') (ds := []) #[false, false, false, false, false, false, false, false, false, false, false, false, false, false, false, false, false, false, false, false, false, false, false, false, false, false, false, false, false, false, false, false, false, false, false, false, false, false, false, false, false, false, false, false, false] (by kernel_rfl) rfl (by kernel_rfl) (below_drew1 (Below.refl _ _)) (fun hHeld => ?_)
  refine with_tabW sanR13.tab sanR13.bits (fun HT_ HW_ => ?_)
  generalize w19.drew = y0 at hHeld ⊢
  refine pure_ (i := 0) (N := some 137) (v := ?_) (a' := ?_) #[true, false, false, false, false, false, false, false, false, false, false, false, false, false, false, false, false, false, false, false, false, false, false, false, false, false, false, false, false, false, false, false, false, false, false, false, false, false, false, false, false, false, false, false, false] rfl rfl (any_of HT_.out (by kernel_rfl)) (fun _ _ _ h => h) (Or.inl ⟨by rfl, ?_⟩) ?_ ?_; rotate_left; (intro w'; go_simp; with_reducible rfl); rotate_left; (simp only [Act.put, List.setIfInBounds_toArray, List.set_cons_zero, List.set_cons_succ]; rfl)
  refine pure_ (i := 1) (N := some 138) (v := ?_) (a' := ?_) #[true, true, false, false, false, false, false, false, false, false, false, false, false, false, false, false, false, false, false, false, false, false, false, false, false, false, false, false, false, false, false, false, false, false, false, false, false, false, false, false, false, false, false, false, false] rfl rfl (any_of HT_.out (by kernel_rfl)) (fun _ _ _ h => h) (Or.inl ⟨by rfl, ?_⟩) ?_ ?_; rotate_left; (intro w'; go_simp; with_reducible rfl); rotate_left; (simp only [Act.put, List.setIfInBounds_toArray, List.set_cons_zero, List.set_cons_succ]; rfl)
  refine pure_ (i := 2) (N := some 139) (v := ?_) (a' := ?_) #[true, true, true, false, false, false, false, false, false, false, false, false, false, false, false, false, false, false, false, false, false, false, false, false, false, false, false, false, false, false, false, false, false, false, false, false, false, false, false, false, false, false, false, false, false] rfl rfl (any_of HT_.out (by kernel_rfl)) (fun _ _ _ h => h) (Or.inl ⟨by rfl, ?_⟩) ?_ ?_; rotate_left; (intro w'; go_simp; with_reducible rfl); rotate_left; (simp only [Act.put, List.setIfInBounds_toArray, List.set_cons_zero, List.set_cons_succ]; rfl)
  refine pure_ (i := 3) (N := some 140) (v := ?_) (a' := ?_) #[true, true, true, true, false, false, false, false, false, false, false, false, false, false, false, false, false, false, false, false, false, false, false, false, false, false, false, false, false, false, false, false, false, false, false, false, false, false, false, false, false, false, false, false, false] rfl rfl (any_of HT_.out (by kernel_rfl)) (fun _ _ _ h => h) (Or.inl ⟨by rfl, ?_⟩) ?_ ?_; rotate_left; (intro w'; go_simp; with_reducible rfl); rotate_left; (simp only [Act.put, List.setIfInBounds_toArray, List.set_cons_zero, List.set_cons_succ]; rfl)
  refine pure_ (i := 4) (N := some 141) (v := ?_) (a' := ?_) #[true, true, true, true, true, false, false, false, false, false, false, false, false, false, false, false, false, false, false, false, false, false, false, false, false, false, false, false, false, false, false, false, false, false, false, false, false, false, false, false, false, false, false, false, false] rfl rfl (any_of HT_.out (by kernel_rfl)) (fun _ _ _ h => h) (Or.inl ⟨by rfl, ?_⟩) ?_ ?_; rotate_left; (intro w'; go_simp; with_reducible rfl); rotate_left; (simp only [Act.put, List.setIfInBounds_toArray, List.set_cons_zero, List.set_cons_succ]; rfl)
  refine pure_ (i := 5) (N := some 142) (v := ?_) (a' := ?_) #[true, true, true, true, true, true, false, false, false, false, false, false, false, false, false, false, false, false, false, false, false, false, false, false, false, false, false, false, false, false, false, false, false, false, false, false, false, false, false, false, false, false, false, false, false] rfl rfl (any_of HT_.out (by kernel_rfl)) (fun _ _ _ h => h) (Or.inl ⟨by rfl, ?_⟩) ?_ ?_; rotate_left; (intro w'; go_simp; with_reducible rfl); rotate_left; (simp only [Act.put, List.setIfInBounds_toArray, List.set_cons_zero, List.set_cons_succ]; rfl)
  refine pure_ (i := 6) (N := some 143) (v := ?_) (a' := ?_) #[true, true, true, true, true, true, true, false, false, false, false, false, false, false, false, false, false, false, false, false, false, false, false, false, false, false, false, false, false, false, false, false, false, false, false, false, false, false, false, false, false, false, false, false, false] rfl rfl (any_of HT_.out (by kernel_rfl)) (fun _ _ _ h => h) (Or.inl ⟨by rfl, ?_⟩) ?_ ?_; rotate_left; (intro w'; go_simp; with_reducible rfl); rotate_left; (simp only [Act.put, List.setIfInBounds_toArray, List.set_cons_zero, List.set_cons_succ]; rfl)
  refine pure_ (i := 7) (N := some 144) (v := ?_) (a' := ?_) #[true, true, true, true, true, true, true, true, false, false, false, false, false, false, false, false, false, false, false, false, false, false, false, false, false, false, false, false, false, false, false, false, false, false, false, false, false, false, false, false, false, false, false, false, false] rfl rfl (any_of HT_.out (by kernel_rfl)) (fun _ _ _ h => h) (Or.inl ⟨by rfl, ?_⟩) ?_ ?_; rotate_left; (intro w'; go_simp; with_reducible rfl); rotate_left; (simp only [Act.put, List.setIfInBounds_toArray, List.set_cons_zero, List.set_cons_succ]; rfl)
  refine pure_ (i := 8) (N := some 145) (v := ?_) (a' := ?_) #[true, true, true, true, true, true, true, true, true, false, false, false, false, false, false, false, false, false, false, false, false, false, false, false, false, false, false, false, false, false, false, false, false, false, false, false, false, false, false, false, false, false, false, false, false] rfl rfl (any_of HT_.out (by kernel_rfl)) (fun _ _ _ h => h) (Or.inl ⟨by rfl, ?_⟩) ?_ ?_; rotate_left; (intro w'; go_simp; with_reducible rfl); rotate_left; (simp only [Act.put, List.setIfInBounds_toArray, List.set_cons_zero, List.set_cons_succ]; rfl)
  refine pure_ (i := 9) (N := some 146) (v := ?_) (a' := ?_) #[true, true, true, true, true, true, true, true, true, true, false, false, false, false, false, false, false, false, false, false, false, false, false, false, false, false, false, false, false, false, false, false, false, false, false, false, false, false, false, false, false, false, false, false, false] rfl rfl (any_of HT_.out (by kernel_rfl)) (fun _ _ _ h => h) (Or.inl ⟨by rfl, ?_⟩) ?_ ?_; rotate_left; (intro w'; go_simp; with_reducible rfl); rotate_left; (simp only [Act.put, List.setIfInBounds_toArray, List.set_cons_zero, List.set_cons_succ]; rfl)
  refine take_ (i := 10) (N := some 147) (v := ?_) (a' := ?_) #[true, true, true, true, true, true, true, true, true, true, true, false, false, false, false, false, false, false, false, false, false, false, false, false, false, false, false, false, false, false, false, false, false, false, false, false, false, false, false, false, false, false, false, false, false] rfl rfl (take_ofW HT_.out HW_.out (by kernel_rfl)) (fun _ _ _ h => h) (Or.inl ⟨by rfl, ?_⟩) hHeld ?_ ?_; rotate_left; (intro w' hb_; have h0_ : w'.cell? ⟨bS22, 0, none⟩ = some (.int .i64 0) := pw_cell_below hb_ (blk_cell S22.out 0); have h1_ : w'.cell? ⟨bS22, 1, none⟩ = some (.int .i64 0) := pw_cell_below hb_ (blk_cell S22.out 1); clear hb_; go_simp; with_reducible rfl); rotate_left; (simp only [Act.put, List.setIfInBounds_toArray, List.set_cons_zero, List.set_cons_succ]; rfl)
  refine take_ (i := 11) (N := some 148) (v := ?_) (a' := ?_) #[true, true, true, true, true, true, true, true, true, true, true, true, false, false, false, false, false, false, false, false, false, false, false, false, false, false, false, false, false, false, false, false, false, false, false, false, false, false, false, false, false, false, false, false, false] rfl rfl (take_ofW HT_.out HW_.out (by kernel_rfl)) (fun _ _ _ h => h) (Or.inl ⟨by rfl, ?_⟩) hHeld ?_ ?_; rotate_left; (intro w' hb_; have h0_ : w'.cell? ⟨bS5, 0, none⟩ = some (.int .i64 0) := pw_cell_below hb_ (blk_cell S5.out 0); have h1_ : w'.cell? ⟨bS5, 1, none⟩ = some (.int .i64 0) := pw_cell_below hb_ (blk_cell S5.out 1); clear hb_; go_simp; with_reducible rfl); rotate_left; (simp only [Act.put, List.setIfInBounds_toArray, List.set_cons_zero, List.set_cons_succ]; rfl)
  refine pure_ (i := 12) (N := some 149) (v := ?_) (a' := ?_) #[true, true, true, true, true, true, true, true, true, true, true, true, true, false, false, false, false, false, false, false, false, false, false, false, false, false, false, false, false, false, false, false, false, false, false, false, false, false, false, false, false, false, false, false, false] rfl rfl (any_of HT_.out (by kernel_rfl)) (fun _ _ _ h => h) (Or.inl ⟨by rfl, ?_⟩) ?_ ?_; rotate_left; (intro w'; go_simp; with_reducible rfl); rotate_left; (simp only [Act.put, List.setIfInBounds_toArray, List.set_cons_zero, List.set_cons_succ]; rfl)
  refine pure_ (i := 13) (N := some 150) (v := ?_) (a' := ?_) #[true, true, true, true, true, true, true, true, true, true, true, true, true, true, false, false, false, false, false, false, false, false, false, false, false, false, false, false, false, false, false, false, false, false, false, false, false, false, false, false, false, false, false, false, false] rfl rfl (any_of HT_.out (by kernel_rfl)) (fun _ _ _ h => h) (Or.inl ⟨by rfl, ?_⟩) ?_ ?_; rotate_left; (intro w'; go_simp; with_reducible rfl); rotate_left; (simp only [Act.put, List.setIfInBounds_toArray, List.set_cons_zero, List.set_cons_succ]; rfl)
  refine pure_ (i := 14) (N := some 151) (v := ?_) (a' := ?_) #[true, true, true, true, true, true, true, true, true, true, true, true, true, true, true, false, false, false, false, false, false, false, false, false, false, false, false, false, false, false, false, false, false, false, false, false, false, false, false, false, false, false, false, false, false] rfl rfl (any_of HT_.out (by kernel_rfl)) (fun _ _ _ h => h) (Or.inl ⟨by rfl, ?_⟩) ?_ ?_; rotate_left; (intro w'; go_simp; with_reducible rfl); rotate_left; (simp only [Act.put, List.setIfInBounds_toArray, List.set_cons_zero, List.set_cons_succ]; rfl)
  refine pure_ (i := 15) (N := some 152) (v := ?_) (a' := ?_) #[true, true, true, true, true, true, true, true, true, true, true, true, true, true, true, true, false, false, false, false, false, false, false, false, false, false, false, false, false, false, false, false, false, false, false, false, false, false, false, false, false, false, false, false, false] rfl rfl (any_of HT_.out (by kernel_rfl)) (fun _ _ _ h => h) (Or.inl ⟨by rfl, ?_⟩) ?_ ?_; rotate_left; (intro w'; go_simp; with_reducible rfl); rotate_left; (simp only [Act.put, List.setIfInBounds_toArray, List.set_cons_zero, List.set_cons_succ]; rfl)
  refine pure_ (i := 16) (N := some 153) (v := ?_) (a' := ?_) #[true, true, true, true, true, true, true, true, true, true, true, true, true, true, true, true, true, false, false, false, false, false, false, false, false, false, false, false, false, false, false, false, false, false, false, false, false, false, false, false, false, false, false, false, false] rfl rfl (any_of HT_.out (by kernel_rfl)) (fun _ _ _ h => h) (Or.inl ⟨by rfl, ?_⟩) ?_ ?_; rotate_left; (intro w'; go_simp; with_reducible rfl); rotate_left; (simp only [Act.put, List.setIfInBounds_toArray, List.set_cons_zero, List.set_cons_succ]; rfl)
  refine pure_ (i := 17) (N := some 154) (v := ?_) (a' := ?_) #[true, true, true, true, true, true, true, true, true, true, true, true, true, true, true, true, true, true, false, false, false, false, false, false, false, false, false, false, false, false, false, false, false, false, false, false, false, false, false, false, false, false, false, false, false] rfl rfl (any_of HT_.out (by kernel_rfl)) (fun _ _ _ h => h) (Or.inl ⟨by rfl, ?_⟩) ?_ ?_; rotate_left; (intro w'; go_simp; with_reducible rfl); rotate_left; (simp only [Act.put, List.setIfInBounds_toArray, List.set_cons_zero, List.set_cons_succ]; rfl)
  refine pure_ (i := 18) (N := some 155) (v := ?_) (a' := ?_) #[true, true, true, true, true, true, true, true, true, true, true, true, true, true, true, true, true, true, true, false, false, false, false, false, false, false, false, false, false, false, false, false, false, false, false, false, false, false, false, false, false, false, false, false, false] rfl rfl (any_of HT_.out (by kernel_rfl)) (fun _ _ _ h => h) (Or.inl ⟨by rfl, ?_⟩) ?_ ?_; rotate_left; (intro w'; go_simp; with_reducible rfl); rotate_left; (simp only [Act.put, List.setIfInBounds_toArray, List.set_cons_zero, List.set_cons_succ]; rfl)
  refine pure_ (i := 19) (N := some 156) (v := ?_) (a' := ?_) #[true, true, true, true, true, true, true, true, true, true, true, true, true, true, true, true, true, true, true, true, false, false, false, false, false, false, false, false, false, false, false, false, false, false, false, false, false, false, false, false, false, false, false, false, false] rfl rfl (any_of HT_.out (by kernel_rfl)) (fun _ _ _ h => h) (Or.inl ⟨by rfl, ?_⟩) ?_ ?_; rotate_left; (intro w'; go_simp; with_reducible rfl); rotate_left; (simp only [Act.put, List.setIfInBounds_toArray, List.set_cons_zero, List.set_cons_succ]; rfl)
  refine pure_ (i := 20) (N := some 157) (v := ?_) (a' := ?_) #[true, true, true, true, true, true, true, true, true, true, true, true, true, true, true, true, true, true, true, true, true, false, false, false, false, false, false, false, false, false, false, false, false, false, false, false, false, false, false, false, false, false, false, false, false] rfl rfl (any_of HT_.out (by kernel_rfl)) (fun _ _ _ h => h) (Or.inl ⟨by rfl, ?_⟩) ?_ ?_; rotate_left; (intro w'; go_simp; with_reducible rfl); rotate_left; (simp only [Act.put, List.setIfInBounds_toArray, List.set_cons_zero, List.set_cons_succ]; rfl)
  refine pure_ (i := 21) (N := some 158) (v := ?_) (a' := ?_) #[true, true, true, true, true, true, true, true, true, true, true, true, true, true, true, true, true, true, true, true, true, true, false, false, false, false, false, false, false, false, false, false, false, false, false, false, false, false, false, false, false, false, false, false, false] rfl rfl (any_of HT_.out (by kernel_rfl)) (fun _ _ _ h => h) (Or.inl ⟨by rfl, ?_⟩) ?_ ?_; rotate_left; (intro w'; go_simp; with_reducible rfl); rotate_left; (simp only [Act.put, List.setIfInBounds_toArray, List.set_cons_zero, List.set_cons_succ]; rfl)
  refine pure_ (i := 22) (N := some 159) (v := ?_) (a' := ?_) #[true, true, true, true, true, true, true, true, true, true, true, true, true, true, true, true, true, true, true, true, true, true, true, false, false, false, false, false, false, false, false, false, false, false, false, false, false, false, false, false, false, false, false, false, false] rfl rfl (any_of HT_.out (by kernel_rfl)) (fun _ _ _ h => h) (Or.inl ⟨by rfl, ?_⟩) ?_ ?_; rotate_left; (intro w'; go_simp; with_reducible rfl); rotate_left; (simp only [Act.put, List.setIfInBounds_toArray, List.set_cons_zero, List.set_cons_succ]; rfl)
  refine pure_ (i := 23) (N := some 160) (v := ?_) (a' := ?_) #[true, true, true, true, true, true, true, true, true, true, true, true, true, true, true, true, true, true, true, true, true, true, true, true, false, false, false, false, false, false, false, false, false, false, false, false, false, false, false, false, false, false, false, false, false] rfl rfl (any_of HT_.out (by kernel_rfl)) (fun _ _ _ h => h) (Or.inl ⟨by rfl, ?_⟩) ?_ ?_; rotate_left; (intro w'; go_simp; with_reducible rfl); rotate_left; (simp only [Act.put, List.setIfInBounds_toArray, List.set_cons_zero, List.set_cons_succ]; rfl)
  refine one_ (i := 24) (N := some 161) #[true, true, true, true, true, true, true, true, true, true, true, true, true, true, true, true, true, true, true, true, true, true, true, true, true, false, false, false, false, false, false, false, false, false, false, false, false, false, false, false, false, false, false, false, false] rfl rfl (one_of HT_.out (by kernel_rfl)) (by decide) (fun K hK => ?_)
  refine goes_ Try.func21 (by kernel_rfl) rfl #[.slice AC7 3 cC7] (by rfl) rfl rfl (by (try simp only [List.map_toArray, List.map_cons, List.map_nil]); first | done | rfl) ?_
  refine (stripes_Free.calls AC7 cC7 mS7 1 y0 (Kd.C_below C7.out hHeld) QC7.out san_aF).mono ?_
  rintro e y1 ⟨rfl, hb⟩
  refine ⟨_, rfl, ?_⟩
  refine hK.out _ _ (below_then hHeld hHeld.size hb) (fun hHeld => ?_)
  clear hK K hb
  refine norm_ (a' := ?_) ?_ ?_
  rotate_left
  · show Act.put _ (some 161) _ = _
    simp only [Act.put, List.setIfInBounds_toArray, List.set_cons_zero, List.set_cons_succ]
    rfl
  refine pure_ (i := 25) (N := some 162) (v := ?_) (a' := ?_) #[true, true, true, true, true, true, true, true, true, true, true, true, true, true, true, true, true, true, true, true, true, true, true, true, true, true, false, false, false, false, false, false, false, false, false, false, false, false, false, false, false, false, false, false, false] rfl rfl (any_of HT_.out (by kernel_rfl)) (fun _ _ _ h => h) (Or.inl ⟨by rfl, ?_⟩) ?_ ?_; rotate_left; (intro w'; go_simp; with_reducible rfl); rotate_left; (simp only [Act.put, List.setIfInBounds_toArray, List.set_cons_zero, List.set_cons_succ]; rfl)
  refine pure_ (i := 26) (N := some 163) (v := ?_) (a' := ?_) #[true, true, true, true, true, true, true, true, true, true, true, true, true, true, true, true, true, true, true, true, true, true, true, true, true, true, true, false, false, false, false, false, false, false, false, false, false, false, false, false, false, false, false, false, false] rfl rfl (any_of HT_.out (by kernel_rfl)) (fun _ _ _ h => h) (Or.inl ⟨by rfl, ?_⟩) ?_ ?_; rotate_left; (intro w'; go_simp; with_reducible rfl); rotate_left; (simp only [Act.put, List.setIfInBounds_toArray, List.set_cons_zero, List.set_cons_succ]; rfl)
  refine pure_ (i := 27) (N := some 164) (v := ?_) (a' := ?_) #[true, true, true, true, true, true, true, true, true, true, true, true, true, true, true, true, true, true, true, true, true, true, true, true, true, true, true, true, false, false, false, false, false, false, false, false, false, false, false, false, false, false, false, false, false] rfl rfl (any_of HT_.out (by kernel_rfl)) (fun _ _ _ h => h) (Or.inl ⟨by rfl, ?_⟩) ?_ ?_; rotate_left; (intro w'; go_simp; with_reducible rfl); rotate_left; (simp only [Act.put, List.setIfInBounds_toArray, List.set_cons_zero, List.set_cons_succ]; rfl)
  refine pure_ (i := 28) (N := some 165) (v := ?_) (a' := ?_) #[true, true, true, true, true, true, true, true, true, true, true, true, true, true, true, true, true, true, true, true, true, true, true, true, true, true, true, true, true, false, false, false, false, false, false, false, false, false, false, false, false, false, false, false, false] rfl rfl (any_of HT_.out (by kernel_rfl)) (fun _ _ _ h => h) (Or.inl ⟨by rfl, ?_⟩) ?_ ?_; rotate_left; (intro w'; go_simp; with_reducible rfl); rotate_left; (simp only [Act.put, List.setIfInBounds_toArray, List.set_cons_zero, List.set_cons_succ]; rfl)
  refine one_ (i := 29) (N := some 166) #[true, true, true, true, true, true, true, true, true, true, true, true, true, true, true, true, true, true, true, true, true, true, true, true, true, true, true, true, true, true, false, false, false, false, false, false, false, false, false, false, false, false, false, false, false] rfl rfl (one_of HT_.out (by kernel_rfl)) (by decide) (fun K hK => ?_)
  refine goes_ Try.func17 (by kernel_rfl) rfl #[.slice AC4 3 cC4, .int .i64 0] (by rfl) rfl rfl (by (try simp only [List.map_toArray, List.map_cons, List.map_nil]); first | done | rfl) ?_
  refine (stripes_Held.calls AC4 cC4 mV 0 2 y1 (Kd.C_below C4.out hHeld) QC4.out san_aH).mono ?_
  rintro e y2 ⟨rfl, hb⟩
  refine ⟨_, rfl, ?_⟩
  refine hK.out _ _ (below_then hHeld hHeld.size hb) (fun hHeld => ?_)
  clear hK K hb
  refine norm_ (a' := ?_) ?_ ?_
  rotate_left
  · show Act.put _ (some 166) _ = _
    simp only [Act.put, List.setIfInBounds_toArray, List.set_cons_zero, List.set_cons_succ]
    rfl
  refine pure_ (i := 30) (N := some 167) (v := ?_) (a' := ?_) #[true, true, true, true, true, true, true, true, true, true, true, true, true, true, true, true, true, true, true, true, true, true, true, true, true, true, true, true, true, true, true, false, false, false, false, false, false, false, false, false, false, false, false, false, false] rfl rfl (any_of HT_.out (by kernel_rfl)) (fun _ _ _ h => h) (Or.inl ⟨by rfl, ?_⟩) ?_ ?_; rotate_left; (intro w'; go_simp; with_reducible rfl); rotate_left; (simp only [Act.put, List.setIfInBounds_toArray, List.set_cons_zero, List.set_cons_succ]; rfl)
  refine pure_ (i := 31) (N := some 168) (v := ?_) (a' := ?_) #[true, true, true, true, true, true, true, true, true, true, true, true, true, true, true, true, true, true, true, true, true, true, true, true, true, true, true, true, true, true, true, true, false, false, false, false, false, false, false, false, false, false, false, false, false] rfl rfl (any_of HT_.out (by kernel_rfl)) (fun _ _ _ h => h) (Or.inl ⟨by rfl, ?_⟩) ?_ ?_; rotate_left; (intro w'; go_simp; with_reducible rfl); rotate_left; (simp only [Act.put, List.setIfInBounds_toArray, List.set_cons_zero, List.set_cons_succ]; rfl)
  refine pure_ (i := 32) (N := some 169) (v := ?_) (a' := ?_) #[true, true, true, true, true, true, true, true, true, true, true, true, true, true, true, true, true, true, true, true, true, true, true, true, true, true, true, true, true, true, true, true, true, false, false, false, false, false, false, false, false, false, false, false, false] rfl rfl (any_of HT_.out (by kernel_rfl)) (fun _ _ _ h => h) (Or.inl ⟨by rfl, ?_⟩) ?_ ?_; rotate_left; (intro w'; go_simp; with_reducible rfl); rotate_left; (simp only [Act.put, List.setIfInBounds_toArray, List.set_cons_zero, List.set_cons_succ]; rfl)
  refine take_ (i := 33) (N := some 170) (v := ?_) (a' := ?_) #[true, true, true, true, true, true, true, true, true, true, true, true, true, true, true, true, true, true, true, true, true, true, true, true, true, true, true, true, true, true, true, true, true, true, false, false, false, false, false, false, false, false, false, false, false] rfl rfl (take_ofW HT_.out HW_.out (by kernel_rfl)) (fun _ _ _ h => h) (Or.inl ⟨by rfl, ?_⟩) hHeld ?_ ?_; rotate_left; (intro w' hb_; have h0_ : w'.cell? ⟨bSC, 0, none⟩ = some (.int .i64 6) := pw_cell_below hb_ (blk_cell SC.out 0); have h1_ : w'.cell? ⟨bSC, 1, none⟩ = some (.int .i64 2) := pw_cell_below hb_ (blk_cell SC.out 1); have h2_ : w'.cell? ⟨bSC, 2, none⟩ = some (.int .i64 3) := pw_cell_below hb_ (blk_cell SC.out 2); have h3_ : w'.cell? ⟨bSC, 3, none⟩ = some (.int .i64 1) := pw_cell_below hb_ (blk_cell SC.out 3); have h4_ : w'.cell? ⟨bSC, 4, none⟩ = some (.int .i64 8) := pw_cell_below hb_ (blk_cell SC.out 4); have h5_ : w'.cell? ⟨bSC, 5, none⟩ = some (.int .i64 8) := pw_cell_below hb_ (blk_cell SC.out 5); clear hb_; go_simp; with_reducible rfl); rotate_left; (simp only [Act.put, List.setIfInBounds_toArray, List.set_cons_zero, List.set_cons_succ]; rfl)
  refine pure_ (i := 34) (N := some 171) (v := ?_) (a' := ?_) #[true, true, true, true, true, true, true, true, true, true, true, true, true, true, true, true, true, true, true, true, true, true, true, true, true, true, true, true, true, true, true, true, true, true, true, false, false, false, false, false, false, false, false, false, false] rfl rfl (any_of HT_.out (by kernel_rfl)) (fun _ _ _ h => h) (Or.inl ⟨by rfl, ?_⟩) ?_ ?_; rotate_left; (intro w'; go_simp; with_reducible rfl); rotate_left; (simp only [Act.put, List.setIfInBounds_toArray, List.set_cons_zero, List.set_cons_succ]; rfl)
  refine one_ (i := 35) (N := some 172) #[true, true, true, true, true, true, true, true, true, true, true, true, true, true, true, true, true, true, true, true, true, true, true, true, true, true, true, true, true, true, true, true, true, true, true, true, false, false, false, false, false, false, false, false, false] rfl rfl (one_of HT_.out (by kernel_rfl)) (by decide) (fun K hK => ?_)
  refine goes_ Try.func22 (by kernel_rfl) rfl #[.agg #[.int .i64 6, .int .i64 2, .int .i64 3, .int .i64 1, .int .i64 8, .int .i64 8], .slice AC4 3 cC4] (by rfl) rfl rfl (by (try simp only [List.map_toArray, List.map_cons, List.map_nil]); first | done | rfl) ?_
  refine (valid_full AC4 cC4 y2 (Kd.C_below C4.out hHeld)).mono ?_
  rintro e y3 ⟨rfl, hb⟩
  refine ⟨_, rfl, ?_⟩
  refine hK.out _ _ (below_then hHeld hHeld.size hb) (fun hHeld => ?_)
  clear hK K hb
  refine norm_ (a' := ?_) ?_ ?_
  rotate_left
  · show Act.put _ (some 172) _ = _
    simp only [Act.put, List.setIfInBounds_toArray, List.set_cons_zero, List.set_cons_succ]
    rfl
  refine pure_ (i := 36) (N := some 173) (v := ?_) (a' := ?_) #[true, true, true, true, true, true, true, true, true, true, true, true, true, true, true, true, true, true, true, true, true, true, true, true, true, true, true, true, true, true, true, true, true, true, true, true, true, false, false, false, false, false, false, false, false] rfl rfl (any_of HT_.out (by kernel_rfl)) (fun _ _ _ h => h) (Or.inl ⟨by rfl, ?_⟩) ?_ ?_; rotate_left; (intro w'; go_simp; with_reducible rfl); rotate_left; (simp only [Act.put, List.setIfInBounds_toArray, List.set_cons_zero, List.set_cons_succ]; rfl)
  refine pure_ (i := 37) (N := some 174) (v := ?_) (a' := ?_) #[true, true, true, true, true, true, true, true, true, true, true, true, true, true, true, true, true, true, true, true, true, true, true, true, true, true, true, true, true, true, true, true, true, true, true, true, true, true, false, false, false, false, false, false, false] rfl rfl (any_of HT_.out (by kernel_rfl)) (fun _ _ _ h => h) (Or.inl ⟨by rfl, ?_⟩) ?_ ?_; rotate_left; (intro w'; go_simp; with_reducible rfl); rotate_left; (simp only [Act.put, List.setIfInBounds_toArray, List.set_cons_zero, List.set_cons_succ]; rfl)
  refine take_ (i := 38) (N := some 175) (v := ?_) (a' := ?_) #[true, true, true, true, true, true, true, true, true, true, true, true, true, true, true, true, true, true, true, true, true, true, true, true, true, true, true, true, true, true, true, true, true, true, true, true, true, true, true, false, false, false, false, false, false] rfl rfl (take_ofW HT_.out HW_.out (by kernel_rfl)) (fun _ _ _ h => h) (Or.inl ⟨by rfl, ?_⟩) hHeld ?_ ?_; rotate_left; (intro w' hb_; have h0_ : w'.cell? ⟨bSC, 0, none⟩ = some (.int .i64 6) := pw_cell_below hb_ (blk_cell SC.out 0); have h1_ : w'.cell? ⟨bSC, 1, none⟩ = some (.int .i64 2) := pw_cell_below hb_ (blk_cell SC.out 1); have h2_ : w'.cell? ⟨bSC, 2, none⟩ = some (.int .i64 3) := pw_cell_below hb_ (blk_cell SC.out 2); have h3_ : w'.cell? ⟨bSC, 3, none⟩ = some (.int .i64 1) := pw_cell_below hb_ (blk_cell SC.out 3); have h4_ : w'.cell? ⟨bSC, 4, none⟩ = some (.int .i64 8) := pw_cell_below hb_ (blk_cell SC.out 4); have h5_ : w'.cell? ⟨bSC, 5, none⟩ = some (.int .i64 8) := pw_cell_below hb_ (blk_cell SC.out 5); clear hb_; go_simp; with_reducible rfl); rotate_left; (simp only [Act.put, List.setIfInBounds_toArray, List.set_cons_zero, List.set_cons_succ]; rfl)
  refine pure_ (i := 39) (N := some 176) (v := ?_) (a' := ?_) #[true, true, true, true, true, true, true, true, true, true, true, true, true, true, true, true, true, true, true, true, true, true, true, true, true, true, true, true, true, true, true, true, true, true, true, true, true, true, true, true, false, false, false, false, false] rfl rfl (any_of HT_.out (by kernel_rfl)) (fun _ _ _ h => h) (Or.inl ⟨by rfl, ?_⟩) ?_ ?_; rotate_left; (intro w'; go_simp; with_reducible rfl); rotate_left; (simp only [Act.put, List.setIfInBounds_toArray, List.set_cons_zero, List.set_cons_succ]; rfl)
  refine pure_ (i := 40) (N := some 177) (v := ?_) (a' := ?_) #[true, true, true, true, true, true, true, true, true, true, true, true, true, true, true, true, true, true, true, true, true, true, true, true, true, true, true, true, true, true, true, true, true, true, true, true, true, true, true, true, true, false, false, false, false] rfl rfl (any_of HT_.out (by kernel_rfl)) (fun _ _ _ h => h) (Or.inl ⟨by rfl, ?_⟩) ?_ ?_; rotate_left; (intro w'; go_simp; with_reducible rfl); rotate_left; (simp only [Act.put, List.setIfInBounds_toArray, List.set_cons_zero, List.set_cons_succ]; rfl)
  refine one_ (i := 41) (N := some 178) #[true, true, true, true, true, true, true, true, true, true, true, true, true, true, true, true, true, true, true, true, true, true, true, true, true, true, true, true, true, true, true, true, true, true, true, true, true, true, true, true, true, true, false, false, false] rfl rfl (one_of HT_.out (by kernel_rfl)) (by decide) (fun K hK => ?_)
  refine goes_ Try.func22 (by kernel_rfl) rfl #[.agg #[.int .i64 6, .int .i64 2, .int .i64 3, .int .i64 1, .int .i64 8, .int .i64 8], .slice AC7 2 cC7] (by rfl) rfl rfl (by (try simp only [List.map_toArray, List.map_cons, List.map_nil]); first | done | rfl) ?_
  refine (valid_short AC7 cC7 y3).mono ?_
  rintro e y4 ⟨rfl, hb⟩
  refine ⟨_, rfl, ?_⟩
  refine hK.out _ _ (below_then hHeld hHeld.size hb) (fun hHeld => ?_)
  clear hK K hb
  refine norm_ (a' := ?_) ?_ ?_
  rotate_left
  · show Act.put _ (some 178) _ = _
    simp only [Act.put, List.setIfInBounds_toArray, List.set_cons_zero, List.set_cons_succ]
    rfl
  refine pure_ (i := 42) (N := some 179) (v := ?_) (a' := ?_) #[true, true, true, true, true, true, true, true, true, true, true, true, true, true, true, true, true, true, true, true, true, true, true, true, true, true, true, true, true, true, true, true, true, true, true, true, true, true, true, true, true, true, true, false, false] rfl rfl (any_of HT_.out (by kernel_rfl)) (fun _ _ _ h => h) (Or.inl ⟨by rfl, ?_⟩) ?_ ?_; rotate_left; (intro w'; go_simp; with_reducible rfl); rotate_left; (simp only [Act.put, List.setIfInBounds_toArray, List.set_cons_zero, List.set_cons_succ]; rfl)
  refine pure_ (i := 43) (N := some 180) (v := ?_) (a' := ?_) #[true, true, true, true, true, true, true, true, true, true, true, true, true, true, true, true, true, true, true, true, true, true, true, true, true, true, true, true, true, true, true, true, true, true, true, true, true, true, true, true, true, true, true, true, false] rfl rfl (any_of HT_.out (by kernel_rfl)) (fun _ _ _ h => h) (Or.inl ⟨by rfl, ?_⟩) ?_ ?_; rotate_left; (intro w'; go_simp; with_reducible rfl); rotate_left; (simp only [Act.put, List.setIfInBounds_toArray, List.set_cons_zero, List.set_cons_succ]; rfl)
  refine pure_ (i := 44) (N := some 0) (v := ?_) (a' := ?_) #[true, true, true, true, true, true, true, true, true, true, true, true, true, true, true, true, true, true, true, true, true, true, true, true, true, true, true, true, true, true, true, true, true, true, true, true, true, true, true, true, true, true, true, true, true] rfl rfl (any_of HT_.out (by kernel_rfl)) (fun _ _ _ h => h) (Or.inl ⟨by rfl, ?_⟩) ?_ ?_; rotate_left; (intro w'; go_simp; with_reducible rfl); rotate_left; (simp only [Act.put, List.setIfInBounds_toArray, List.set_cons_zero, List.set_cons_succ]; rfl)
  refine done_ (done_of HT_.out (by kernel_rfl)) ?_
  have hbl := below_then HB.out HB.out.size hHeld
  have HBL : Aside (Below w.heap.size w y4) := hbl
  clear hHeld HT_ HW_ hbl
  go_wp2_with fail
  go_ret
  exact ⟨rfl, HBL.out⟩
end Go.Proofs.Ytlodlblkmnhaeaa
namespace Go.Proofs.Ytlodlblkmnhaeaa.P
open Go.RowKit
def solventlaw24_sanity.f : Option Bool := some true
theorem solventlaw24_sanity.calls (r : Bool) (w : World) (h : solventlaw24_sanity.f = some r) : Calls Try.prog 8 #[] w fun e w' => e = .returned (.bool r) ∧ Below w.heap.size w w' := by
  obtain rfl := Option.some.inj h
  exact sanity_any w
end Go.Proofs.Ytlodlblkmnhaeaa.P

/- StripesUndo walked. -/
import Derived.Test.YtlodlblkmnhaeaaPx5b
import Derived.Test.YtlodlblkmnhaeaaPx4
import Derived.Test.YtlodlblkmnhaeaaPx2
import Derived.Test.YtlodlblkmnhaeaaGivenS
namespace Go.Proofs.Ytlodlblkmnhaeaa
set_option linter.unusedVariables false
set_option linter.unusedSimpArgs false
open Go.RowKit Go.Lib Go.Proofs.Ytlodlblkmnhaeaa.P Go.Proofs.YtlodlblkmnhaeaaW.PrintWords Go.Proofs.YtlodlblkmnhaeaaW.PrintLast Go.Proofs.YtlodlblkmnhaeaaW.PrintMore
theorem cI {W : World} {b t : Nat} {cs : Array Value} {v : Value} (h : W.heap[b]? = some (.cells cs t (0, 0))) (i : Nat) (hv : cs[i]? = some v) : W.cell? ⟨b, i, none⟩ = some v := (blk_cell h i).trans hv

set_option maxRecDepth 100000 in
set_option maxHeartbeats 16000000 in
theorem undo_out1 (a0 a1 a2 a3 a4 a5 : Int) (A : Option Addr) (c : Nat) (l : List S59) (code wd ge gc pr pg : Int) (w : World) (hl : Kd.C k59 w A l.length l) (hc : l.length ≤ c) (KV : Nat) (bV : Bool) (hsm : solventlaw24_small.f a0 a1 a2 a3 a4 a5 = some false) (hV : solventref24_Valid.f KV a0 a1 a2 a3 a4 a5 l = some bV) :
    Calls Try.prog 3 #[.agg #[.int .i64 a0, .int .i64 a1, .int .i64 a2, .int .i64 a3, .int .i64 a4, .int .i64 a5], .slice A l.length c, .int .i64 code, .int .i64 wd, .agg #[.int .i64 ge, .int .i64 gc], .agg #[.int .i64 pr, .int .i64 pg]] w fun e w' => e = .returned (.bool true) ∧ Below w.heap.size w w' := by
  have hu23 := Try.underlying23
  have hu29 := Try.underlying29
  have hu27 := Try.underlying27
  have hu37 := Try.underlying37
  have HL := Aside0.mk hl
  have HCC := Lib.hid hc
  clear hl hc
  go_enter Try.func3, Try.ntmps3
  go_upto_region 1 with fail
  have hB0 : Below w.heap.size w (((w.alloc (.cells #[.int .i64 a0, .int .i64 a1, .int .i64 a2, .int .i64 a3, .int .i64 a4, .int .i64 a5] 23)).alloc (.cells #[.int .i64 ge, .int .i64 gc] 27)).alloc (.cells #[.int .i64 pr, .int .i64 pg] 29)) := below_alloc (below_alloc (below_alloc (Below.refl _ _) _) _) _
  have HB := Aside0.mk hB0
  have nw : ∀ (X : World) (o : Obj) (k : Nat), k = X.heap.size → (X.alloc o).heap[k]? = some o := fun X o k hk => by rw [hk]; exact World.alloc_heap_new X o
  have SC : Aside0 ((((w.alloc (.cells #[.int .i64 a0, .int .i64 a1, .int .i64 a2, .int .i64 a3, .int .i64 a4, .int .i64 a5] 23)).alloc (.cells #[.int .i64 ge, .int .i64 gc] 27)).alloc (.cells #[.int .i64 pr, .int .i64 pg] 29)).heap[w.heap.size]? = some (.cells #[.int .i64 a0, .int .i64 a1, .int .i64 a2, .int .i64 a3, .int .i64 a4, .int .i64 a5] 23 (0, 0))) := ⟨blk_alloc (blk_alloc (nw _ _ _ rfl) _) _⟩
  have SG : Aside0 ((((w.alloc (.cells #[.int .i64 a0, .int .i64 a1, .int .i64 a2, .int .i64 a3, .int .i64 a4, .int .i64 a5] 23)).alloc (.cells #[.int .i64 ge, .int .i64 gc] 27)).alloc (.cells #[.int .i64 pr, .int .i64 pg] 29)).heap[w.heap.size + 1]? = some (.cells #[.int .i64 ge, .int .i64 gc] 27 (0, 0))) := ⟨blk_alloc (nw _ _ _ (by simp)) _⟩
  have SP : Aside0 ((((w.alloc (.cells #[.int .i64 a0, .int .i64 a1, .int .i64 a2, .int .i64 a3, .int .i64 a4, .int .i64 a5] 23)).alloc (.cells #[.int .i64 ge, .int .i64 gc] 27)).alloc (.cells #[.int .i64 pr, .int .i64 pg] 29)).heap[w.heap.size + 1 + 1]? = some (.cells #[.int .i64 pr, .int .i64 pg] 29 (0, 0))) := ⟨nw _ _ _ (by simp)⟩
  replace HL := Aside0.mk (Kd.C_below HL.out hB0)
  clear nw hB0
  generalize (((w.alloc (.cells #[.int .i64 a0, .int .i64 a1, .int .i64 a2, .int .i64 a3, .int .i64 a4, .int .i64 a5] 23)).alloc (.cells #[.int .i64 ge, .int .i64 gc] 27)).alloc (.cells #[.int .i64 pr, .int .i64 pg] 29)) = W0 at HB SC SG SP HL ⊢
  have cSC_0 := cI SC.out 0 rfl
  have cSC_1 := cI SC.out 1 rfl
  have cSC_2 := cI SC.out 2 rfl
  have cSC_3 := cI SC.out 3 rfl
  have cSC_4 := cI SC.out 4 rfl
  have cSC_5 := cI SC.out 5 rfl
  go_upto_region 2 with (go_at_call 6; refine (solventlaw24_small.calls a0 a1 a2 a3 a4 a5 false W0 hsm).mono ?_; rintro e w1 ⟨rfl, hb⟩; replace HB := Aside0.mk (below_then HB.out HB.out.size hb); replace SC := Aside0.mk (blk_below SC.out hb); replace SG := Aside0.mk (blk_below SG.out hb); replace SP := Aside0.mk (blk_below SP.out hb); replace HL := Aside0.mk (Kd.C_below HL.out hb); clear hb)
  clear cSC_0 cSC_1 cSC_2 cSC_3 cSC_4 cSC_5
  have cSC_0 := cI SC.out 0 rfl
  have cSC_1 := cI SC.out 1 rfl
  have cSC_2 := cI SC.out 2 rfl
  have cSC_3 := cI SC.out 3 rfl
  have cSC_4 := cI SC.out 4 rfl
  have cSC_5 := cI SC.out 5 rfl
  go_upto_region 3 with (go_at_call 7; refine (solventref24_Valid.calls KV a0 a1 a2 a3 a4 a5 A c l bV w1 HL.out HCC.out hV).mono ?_; rintro e w2 ⟨rfl, hb⟩; replace HB := Aside0.mk (below_then HB.out HB.out.size hb); replace SC := Aside0.mk (blk_below SC.out hb); replace SG := Aside0.mk (blk_below SG.out hb); replace SP := Aside0.mk (blk_below SP.out hb); replace HL := Aside0.mk (Kd.C_below HL.out hb); clear hb)
  clear cSC_0 cSC_1 cSC_2 cSC_3 cSC_4 cSC_5
  go_wp2_with (go_at_call 8; refine (solventlaw24_sanity.calls true w2 rfl).mono ?_; rintro e w3 ⟨rfl, hb⟩; replace HB := Aside0.mk (below_then HB.out HB.out.size hb); replace SC := Aside0.mk (blk_below SC.out hb); replace SG := Aside0.mk (blk_below SG.out hb); replace SP := Aside0.mk (blk_below SP.out hb); replace HL := Aside0.mk (Kd.C_below HL.out hb); clear hb)
  go_ret
  exact ⟨rfl, HB.out⟩

set_option maxRecDepth 100000 in
set_option maxHeartbeats 16000000 in
theorem undo_out2 (a0 a1 a2 a3 a4 a5 : Int) (A : Option Addr) (c : Nat) (l : List S59) (code wd ge gc pr pg : Int) (w : World) (hl : Kd.C k59 w A l.length l) (hc : l.length ≤ c) (KV : Nat) (bV : Bool) (hsm : solventlaw24_small.f a0 a1 a2 a3 a4 a5 = some true) (hV : solventref24_Valid.f KV a0 a1 a2 a3 a4 a5 l = some false) :
    Calls Try.prog 3 #[.agg #[.int .i64 a0, .int .i64 a1, .int .i64 a2, .int .i64 a3, .int .i64 a4, .int .i64 a5], .slice A l.length c, .int .i64 code, .int .i64 wd, .agg #[.int .i64 ge, .int .i64 gc], .agg #[.int .i64 pr, .int .i64 pg]] w fun e w' => e = .returned (.bool true) ∧ Below w.heap.size w w' := by
  have hu23 := Try.underlying23
  have hu29 := Try.underlying29
  have hu27 := Try.underlying27
  have hu37 := Try.underlying37
  have HL := Aside0.mk hl
  have HCC := Lib.hid hc
  clear hl hc
  go_enter Try.func3, Try.ntmps3
  go_upto_region 1 with fail
  have hB0 : Below w.heap.size w (((w.alloc (.cells #[.int .i64 a0, .int .i64 a1, .int .i64 a2, .int .i64 a3, .int .i64 a4, .int .i64 a5] 23)).alloc (.cells #[.int .i64 ge, .int .i64 gc] 27)).alloc (.cells #[.int .i64 pr, .int .i64 pg] 29)) := below_alloc (below_alloc (below_alloc (Below.refl _ _) _) _) _
  have HB := Aside0.mk hB0
  have nw : ∀ (X : World) (o : Obj) (k : Nat), k = X.heap.size → (X.alloc o).heap[k]? = some o := fun X o k hk => by rw [hk]; exact World.alloc_heap_new X o
  have SC : Aside0 ((((w.alloc (.cells #[.int .i64 a0, .int .i64 a1, .int .i64 a2, .int .i64 a3, .int .i64 a4, .int .i64 a5] 23)).alloc (.cells #[.int .i64 ge, .int .i64 gc] 27)).alloc (.cells #[.int .i64 pr, .int .i64 pg] 29)).heap[w.heap.size]? = some (.cells #[.int .i64 a0, .int .i64 a1, .int .i64 a2, .int .i64 a3, .int .i64 a4, .int .i64 a5] 23 (0, 0))) := ⟨blk_alloc (blk_alloc (nw _ _ _ rfl) _) _⟩
  have SG : Aside0 ((((w.alloc (.cells #[.int .i64 a0, .int .i64 a1, .int .i64 a2, .int .i64 a3, .int .i64 a4, .int .i64 a5] 23)).alloc (.cells #[.int .i64 ge, .int .i64 gc] 27)).alloc (.cells #[.int .i64 pr, .int .i64 pg] 29)).heap[w.heap.size + 1]? = some (.cells #[.int .i64 ge, .int .i64 gc] 27 (0, 0))) := ⟨blk_alloc (nw _ _ _ (by simp)) _⟩
  have SP : Aside0 ((((w.alloc (.cells #[.int .i64 a0, .int .i64 a1, .int .i64 a2, .int .i64 a3, .int .i64 a4, .int .i64 a5] 23)).alloc (.cells #[.int .i64 ge, .int .i64 gc] 27)).alloc (.cells #[.int .i64 pr, .int .i64 pg] 29)).heap[w.heap.size + 1 + 1]? = some (.cells #[.int .i64 pr, .int .i64 pg] 29 (0, 0))) := ⟨nw _ _ _ (by simp)⟩
  replace HL := Aside0.mk (Kd.C_below HL.out hB0)
  clear nw hB0
  generalize (((w.alloc (.cells #[.int .i64 a0, .int .i64 a1, .int .i64 a2, .int .i64 a3, .int .i64 a4, .int .i64 a5] 23)).alloc (.cells #[.int .i64 ge, .int .i64 gc] 27)).alloc (.cells #[.int .i64 pr, .int .i64 pg] 29)) = W0 at HB SC SG SP HL ⊢
  have cSC_0 := cI SC.out 0 rfl
  have cSC_1 := cI SC.out 1 rfl
  have cSC_2 := cI SC.out 2 rfl
  have cSC_3 := cI SC.out 3 rfl
  have cSC_4 := cI SC.out 4 rfl
  have cSC_5 := cI SC.out 5 rfl
  go_upto_region 2 with (go_at_call 6; refine (solventlaw24_small.calls a0 a1 a2 a3 a4 a5 true W0 hsm).mono ?_; rintro e w1 ⟨rfl, hb⟩; replace HB := Aside0.mk (below_then HB.out HB.out.size hb); replace SC := Aside0.mk (blk_below SC.out hb); replace SG := Aside0.mk (blk_below SG.out hb); replace SP := Aside0.mk (blk_below SP.out hb); replace HL := Aside0.mk (Kd.C_below HL.out hb); clear hb)
  clear cSC_0 cSC_1 cSC_2 cSC_3 cSC_4 cSC_5
  have cSC_0 := cI SC.out 0 rfl
  have cSC_1 := cI SC.out 1 rfl
  have cSC_2 := cI SC.out 2 rfl
  have cSC_3 := cI SC.out 3 rfl
  have cSC_4 := cI SC.out 4 rfl
  have cSC_5 := cI SC.out 5 rfl
  go_upto_region 3 with (go_at_call 7; refine (solventref24_Valid.calls KV a0 a1 a2 a3 a4 a5 A c l false w1 HL.out HCC.out hV).mono ?_; rintro e w2 ⟨rfl, hb⟩; replace HB := Aside0.mk (below_then HB.out HB.out.size hb); replace SC := Aside0.mk (blk_below SC.out hb); replace SG := Aside0.mk (blk_below SG.out hb); replace SP := Aside0.mk (blk_below SP.out hb); replace HL := Aside0.mk (Kd.C_below HL.out hb); clear hb)
  clear cSC_0 cSC_1 cSC_2 cSC_3 cSC_4 cSC_5
  go_wp2_with (go_at_call 8; refine (solventlaw24_sanity.calls true w2 rfl).mono ?_; rintro e w3 ⟨rfl, hb⟩; replace HB := Aside0.mk (below_then HB.out HB.out.size hb); replace SC := Aside0.mk (blk_below SC.out hb); replace SG := Aside0.mk (blk_below SG.out hb); replace SP := Aside0.mk (blk_below SP.out hb); replace HL := Aside0.mk (Kd.C_below HL.out hb); clear hb)
  go_ret
  exact ⟨rfl, HB.out⟩

set_option maxRecDepth 100000 in
set_option maxHeartbeats 16000000 in
theorem undo_err (a0 a1 a2 a3 a4 a5 : Int) (A : Option Addr) (c : Nat) (l : List S59) (code wd ge gc pr pg : Int) (w : World) (hl : Kd.C k59 w A l.length l) (hc : l.length ≤ c) (KV : Nat) (r g er : Int) (hsm : solventlaw24_small.f a0 a1 a2 a3 a4 a5 = some true) (hV : solventref24_Valid.f KV a0 a1 a2 a3 a4 a5 l = some true) (hal : stripes_Allocate.f a0 a1 a2 a3 a4 a5 l code wd ge gc = some ([], r, g, er)) (her : (er != 0) = true) :
    Calls Try.prog 3 #[.agg #[.int .i64 a0, .int .i64 a1, .int .i64 a2, .int .i64 a3, .int .i64 a4, .int .i64 a5], .slice A l.length c, .int .i64 code, .int .i64 wd, .agg #[.int .i64 ge, .int .i64 gc], .agg #[.int .i64 pr, .int .i64 pg]] w fun e w' => e = .returned (.bool true) ∧ Below w.heap.size w w' := by
  have hu23 := Try.underlying23
  have hu29 := Try.underlying29
  have hu27 := Try.underlying27
  have hu37 := Try.underlying37
  have HL := Aside0.mk hl
  have HCC := Lib.hid hc
  clear hl hc
  go_enter Try.func3, Try.ntmps3
  go_upto_region 1 with fail
  have hB0 : Below w.heap.size w (((w.alloc (.cells #[.int .i64 a0, .int .i64 a1, .int .i64 a2, .int .i64 a3, .int .i64 a4, .int .i64 a5] 23)).alloc (.cells #[.int .i64 ge, .int .i64 gc] 27)).alloc (.cells #[.int .i64 pr, .int .i64 pg] 29)) := below_alloc (below_alloc (below_alloc (Below.refl _ _) _) _) _
  have HB := Aside0.mk hB0
  have nw : ∀ (X : World) (o : Obj) (k : Nat), k = X.heap.size → (X.alloc o).heap[k]? = some o := fun X o k hk => by rw [hk]; exact World.alloc_heap_new X o
  have SC : Aside0 ((((w.alloc (.cells #[.int .i64 a0, .int .i64 a1, .int .i64 a2, .int .i64 a3, .int .i64 a4, .int .i64 a5] 23)).alloc (.cells #[.int .i64 ge, .int .i64 gc] 27)).alloc (.cells #[.int .i64 pr, .int .i64 pg] 29)).heap[w.heap.size]? = some (.cells #[.int .i64 a0, .int .i64 a1, .int .i64 a2, .int .i64 a3, .int .i64 a4, .int .i64 a5] 23 (0, 0))) := ⟨blk_alloc (blk_alloc (nw _ _ _ rfl) _) _⟩
  have SG : Aside0 ((((w.alloc (.cells #[.int .i64 a0, .int .i64 a1, .int .i64 a2, .int .i64 a3, .int .i64 a4, .int .i64 a5] 23)).alloc (.cells #[.int .i64 ge, .int .i64 gc] 27)).alloc (.cells #[.int .i64 pr, .int .i64 pg] 29)).heap[w.heap.size + 1]? = some (.cells #[.int .i64 ge, .int .i64 gc] 27 (0, 0))) := ⟨blk_alloc (nw _ _ _ (by simp)) _⟩
  have SP : Aside0 ((((w.alloc (.cells #[.int .i64 a0, .int .i64 a1, .int .i64 a2, .int .i64 a3, .int .i64 a4, .int .i64 a5] 23)).alloc (.cells #[.int .i64 ge, .int .i64 gc] 27)).alloc (.cells #[.int .i64 pr, .int .i64 pg] 29)).heap[w.heap.size + 1 + 1]? = some (.cells #[.int .i64 pr, .int .i64 pg] 29 (0, 0))) := ⟨nw _ _ _ (by simp)⟩
  replace HL := Aside0.mk (Kd.C_below HL.out hB0)
  clear nw hB0
  generalize (((w.alloc (.cells #[.int .i64 a0, .int .i64 a1, .int .i64 a2, .int .i64 a3, .int .i64 a4, .int .i64 a5] 23)).alloc (.cells #[.int .i64 ge, .int .i64 gc] 27)).alloc (.cells #[.int .i64 pr, .int .i64 pg] 29)) = W0 at HB SC SG SP HL ⊢
  have cSC_0 := cI SC.out 0 rfl
  have cSC_1 := cI SC.out 1 rfl
  have cSC_2 := cI SC.out 2 rfl
  have cSC_3 := cI SC.out 3 rfl
  have cSC_4 := cI SC.out 4 rfl
  have cSC_5 := cI SC.out 5 rfl
  go_upto_region 2 with (go_at_call 6; refine (solventlaw24_small.calls a0 a1 a2 a3 a4 a5 true W0 hsm).mono ?_; rintro e w1 ⟨rfl, hb⟩; replace HB := Aside0.mk (below_then HB.out HB.out.size hb); replace SC := Aside0.mk (blk_below SC.out hb); replace SG := Aside0.mk (blk_below SG.out hb); replace SP := Aside0.mk (blk_below SP.out hb); replace HL := Aside0.mk (Kd.C_below HL.out hb); clear hb)
  clear cSC_0 cSC_1 cSC_2 cSC_3 cSC_4 cSC_5
  have cSC_0 := cI SC.out 0 rfl
  have cSC_1 := cI SC.out 1 rfl
  have cSC_2 := cI SC.out 2 rfl
  have cSC_3 := cI SC.out 3 rfl
  have cSC_4 := cI SC.out 4 rfl
  have cSC_5 := cI SC.out 5 rfl
  go_upto_region 3 with (go_at_call 7; refine (solventref24_Valid.calls KV a0 a1 a2 a3 a4 a5 A c l true w1 HL.out HCC.out hV).mono ?_; rintro e w2 ⟨rfl, hb⟩; replace HB := Aside0.mk (below_then HB.out HB.out.size hb); replace SC := Aside0.mk (blk_below SC.out hb); replace SG := Aside0.mk (blk_below SG.out hb); replace SP := Aside0.mk (blk_below SP.out hb); replace HL := Aside0.mk (Kd.C_below HL.out hb); clear hb)
  clear cSC_0 cSC_1 cSC_2 cSC_3 cSC_4 cSC_5
  go_upto_region 5 with fail
  have cSC_0 := cI SC.out 0 rfl
  have cSC_1 := cI SC.out 1 rfl
  have cSC_2 := cI SC.out 2 rfl
  have cSC_3 := cI SC.out 3 rfl
  have cSC_4 := cI SC.out 4 rfl
  have cSC_5 := cI SC.out 5 rfl
  have cSG_0 := cI SG.out 0 rfl
  have cSG_1 := cI SG.out 1 rfl
  go_upto_region 6 with (go_at_call 9; refine (stripes_Allocate.calls a0 a1 a2 a3 a4 a5 A c l code wd ge gc [] r g er w2 HL.out HCC.out hal).mono ?_; rintro e w3 ⟨v_, rfl, hS, hb⟩; obtain ⟨AC2, cC2, rfl, hc_, hC_⟩ := Kd.S_reads hS; replace HB := Aside0.mk (below_then HB.out HB.out.size hb); replace SC := Aside0.mk (blk_below SC.out hb); replace SG := Aside0.mk (blk_below SG.out hb); replace SP := Aside0.mk (blk_below SP.out hb); replace HL := Aside0.mk (Kd.C_below HL.out hb); have C2 := Aside0.mk hC_; have QC2 := Lib.hid hc_; clear hS hb hc_ hC_)
  clear cSC_0 cSC_1 cSC_2 cSC_3 cSC_4 cSC_5
  clear cSG_0 cSG_1
  have hb : Below w3.heap.size w3 (w3.alloc (.cells #[.int .i64 r, .int .i64 g] 29)) := below_alloc (Below.refl _ _) _
  replace HB := Aside0.mk (below_then HB.out HB.out.size hb)
  replace SC := Aside0.mk (blk_below SC.out hb)
  replace SG := Aside0.mk (blk_below SG.out hb)
  replace SP := Aside0.mk (blk_below SP.out hb)
  replace HL := Aside0.mk (Kd.C_below HL.out hb)
  replace C2 := Aside0.mk (Kd.C_below C2.out hb)
  have S16 := Aside0.mk (World.alloc_heap_new w3 (.cells #[.int .i64 r, .int .i64 g] 29))
  clear hb
  generalize w3.alloc (.cells #[.int .i64 r, .int .i64 g] 29) = w4 at HB SC SG SP HL C2 S16 ⊢
  generalize w3.heap.size = bS16 at S16 ⊢
  go_wp2_with (go_at_call 8; refine (solventlaw24_sanity.calls true w4 rfl).mono ?_; rintro e w5 ⟨rfl, hb⟩; replace HB := Aside0.mk (below_then HB.out HB.out.size hb); replace SC := Aside0.mk (blk_below SC.out hb); replace SG := Aside0.mk (blk_below SG.out hb); replace SP := Aside0.mk (blk_below SP.out hb); replace HL := Aside0.mk (Kd.C_below HL.out hb); replace C2 := Aside0.mk (Kd.C_below C2.out hb); replace S16 := Aside0.mk (blk_below S16.out hb); clear hb)
  go_ret
  exact ⟨rfl, HB.out⟩

set_option maxRecDepth 100000 in
set_option maxHeartbeats 16000000 in
theorem undo_ok (a0 a1 a2 a3 a4 a5 : Int) (A : Option Addr) (c : Nat) (l : List S59) (code wd ge gc pr pg : Int) (w : World) (hl : Kd.C k59 w A l.length l) (hc : l.length ≤ c) (KV KS : Nat) (l2 : List S59) (r g q1 q2 q3 q4 p1 p2 p3 p4 : Int) (hsm : solventlaw24_small.f a0 a1 a2 a3 a4 a5 = some true) (hV : solventref24_Valid.f KV a0 a1 a2 a3 a4 a5 l = some true) (hal : stripes_Allocate.f a0 a1 a2 a3 a4 a5 l code wd ge gc = some (l2, r, g, 0)) (hf1 : stripes_Find.f l r g = some (0, 0, 0, 12)) (hf2 : stripes_Find.f l2 r g = some (g, ge, gc, 0)) (hre : stripes_Release.f l2 r g = some (l, 0)) (hf3 : stripes_Find.f l pr pg = some (q1, q2, q3, q4)) (hf4 : stripes_Find.f l2 pr pg = some (p1, p2, p3, p4)) (hsa : solventref24_Same.f KS l l = some true) (hprobe : (pr = r ∧ pg = g) ∨ (¬ (pr = r ∧ pg = g) ∧ p1 = q1 ∧ p2 = q2 ∧ p3 = q3 ∧ p4 = q4)) :
    Calls Try.prog 3 #[.agg #[.int .i64 a0, .int .i64 a1, .int .i64 a2, .int .i64 a3, .int .i64 a4, .int .i64 a5], .slice A l.length c, .int .i64 code, .int .i64 wd, .agg #[.int .i64 ge, .int .i64 gc], .agg #[.int .i64 pr, .int .i64 pg]] w fun e w' => e = .returned (.bool true) ∧ Below w.heap.size w w' := by
  have hu23 := Try.underlying23
  have hu29 := Try.underlying29
  have hu27 := Try.underlying27
  have hu37 := Try.underlying37
  have HL := Aside0.mk hl
  have HCC := Lib.hid hc
  clear hl hc
  go_enter Try.func3, Try.ntmps3
  go_upto_region 1 with fail
  have hB0 : Below w.heap.size w (((w.alloc (.cells #[.int .i64 a0, .int .i64 a1, .int .i64 a2, .int .i64 a3, .int .i64 a4, .int .i64 a5] 23)).alloc (.cells #[.int .i64 ge, .int .i64 gc] 27)).alloc (.cells #[.int .i64 pr, .int .i64 pg] 29)) := below_alloc (below_alloc (below_alloc (Below.refl _ _) _) _) _
  have HB := Aside0.mk hB0
  have nw : ∀ (X : World) (o : Obj) (k : Nat), k = X.heap.size → (X.alloc o).heap[k]? = some o := fun X o k hk => by rw [hk]; exact World.alloc_heap_new X o
  have SC : Aside0 ((((w.alloc (.cells #[.int .i64 a0, .int .i64 a1, .int .i64 a2, .int .i64 a3, .int .i64 a4, .int .i64 a5] 23)).alloc (.cells #[.int .i64 ge, .int .i64 gc] 27)).alloc (.cells #[.int .i64 pr, .int .i64 pg] 29)).heap[w.heap.size]? = some (.cells #[.int .i64 a0, .int .i64 a1, .int .i64 a2, .int .i64 a3, .int .i64 a4, .int .i64 a5] 23 (0, 0))) := ⟨blk_alloc (blk_alloc (nw _ _ _ rfl) _) _⟩
  have SG : Aside0 ((((w.alloc (.cells #[.int .i64 a0, .int .i64 a1, .int .i64 a2, .int .i64 a3, .int .i64 a4, .int .i64 a5] 23)).alloc (.cells #[.int .i64 ge, .int .i64 gc] 27)).alloc (.cells #[.int .i64 pr, .int .i64 pg] 29)).heap[w.heap.size + 1]? = some (.cells #[.int .i64 ge, .int .i64 gc] 27 (0, 0))) := ⟨blk_alloc (nw _ _ _ (by simp)) _⟩
  have SP : Aside0 ((((w.alloc (.cells #[.int .i64 a0, .int .i64 a1, .int .i64 a2, .int .i64 a3, .int .i64 a4, .int .i64 a5] 23)).alloc (.cells #[.int .i64 ge, .int .i64 gc] 27)).alloc (.cells #[.int .i64 pr, .int .i64 pg] 29)).heap[w.heap.size + 1 + 1]? = some (.cells #[.int .i64 pr, .int .i64 pg] 29 (0, 0))) := ⟨nw _ _ _ (by simp)⟩
  replace HL := Aside0.mk (Kd.C_below HL.out hB0)
  clear nw hB0
  generalize (((w.alloc (.cells #[.int .i64 a0, .int .i64 a1, .int .i64 a2, .int .i64 a3, .int .i64 a4, .int .i64 a5] 23)).alloc (.cells #[.int .i64 ge, .int .i64 gc] 27)).alloc (.cells #[.int .i64 pr, .int .i64 pg] 29)) = W0 at HB SC SG SP HL ⊢
  have HPR := Lib.hid hprobe
  clear hprobe
  have cSC_0 := cI SC.out 0 rfl
  have cSC_1 := cI SC.out 1 rfl
  have cSC_2 := cI SC.out 2 rfl
  have cSC_3 := cI SC.out 3 rfl
  have cSC_4 := cI SC.out 4 rfl
  have cSC_5 := cI SC.out 5 rfl
  go_upto_region 2 with (go_at_call 6; refine (solventlaw24_small.calls a0 a1 a2 a3 a4 a5 true W0 hsm).mono ?_; rintro e w1 ⟨rfl, hb⟩; replace HB := Aside0.mk (below_then HB.out HB.out.size hb); replace SC := Aside0.mk (blk_below SC.out hb); replace SG := Aside0.mk (blk_below SG.out hb); replace SP := Aside0.mk (blk_below SP.out hb); replace HL := Aside0.mk (Kd.C_below HL.out hb); clear hb)
  clear cSC_0 cSC_1 cSC_2 cSC_3 cSC_4 cSC_5
  have cSC_0 := cI SC.out 0 rfl
  have cSC_1 := cI SC.out 1 rfl
  have cSC_2 := cI SC.out 2 rfl
  have cSC_3 := cI SC.out 3 rfl
  have cSC_4 := cI SC.out 4 rfl
  have cSC_5 := cI SC.out 5 rfl
  go_upto_region 3 with (go_at_call 7; refine (solventref24_Valid.calls KV a0 a1 a2 a3 a4 a5 A c l true w1 HL.out HCC.out hV).mono ?_; rintro e w2 ⟨rfl, hb⟩; replace HB := Aside0.mk (below_then HB.out HB.out.size hb); replace SC := Aside0.mk (blk_below SC.out hb); replace SG := Aside0.mk (blk_below SG.out hb); replace SP := Aside0.mk (blk_below SP.out hb); replace HL := Aside0.mk (Kd.C_below HL.out hb); clear hb)
  clear cSC_0 cSC_1 cSC_2 cSC_3 cSC_4 cSC_5
  go_upto_region 5 with fail
  have cSC_0 := cI SC.out 0 rfl
  have cSC_1 := cI SC.out 1 rfl
  have cSC_2 := cI SC.out 2 rfl
  have cSC_3 := cI SC.out 3 rfl
  have cSC_4 := cI SC.out 4 rfl
  have cSC_5 := cI SC.out 5 rfl
  have cSG_0 := cI SG.out 0 rfl
  have cSG_1 := cI SG.out 1 rfl
  go_upto_region 6 with (go_at_call 9; refine (stripes_Allocate.calls a0 a1 a2 a3 a4 a5 A c l code wd ge gc l2 r g 0 w2 HL.out HCC.out hal).mono ?_; rintro e w3 ⟨v_, rfl, hS, hb⟩; obtain ⟨AC2, cC2, rfl, hc_, hC_⟩ := Kd.S_reads hS; replace HB := Aside0.mk (below_then HB.out HB.out.size hb); replace SC := Aside0.mk (blk_below SC.out hb); replace SG := Aside0.mk (blk_below SG.out hb); replace SP := Aside0.mk (blk_below SP.out hb); replace HL := Aside0.mk (Kd.C_below HL.out hb); have C2 := Aside0.mk hC_; have QC2 := Lib.hid hc_; clear hS hb hc_ hC_)
  clear cSC_0 cSC_1 cSC_2 cSC_3 cSC_4 cSC_5
  clear cSG_0 cSG_1
  have hb : Below w3.heap.size w3 (w3.alloc (.cells #[.int .i64 r, .int .i64 g] 29)) := below_alloc (Below.refl _ _) _
  replace HB := Aside0.mk (below_then HB.out HB.out.size hb)
  replace SC := Aside0.mk (blk_below SC.out hb)
  replace SG := Aside0.mk (blk_below SG.out hb)
  replace SP := Aside0.mk (blk_below SP.out hb)
  replace HL := Aside0.mk (Kd.C_below HL.out hb)
  replace C2 := Aside0.mk (Kd.C_below C2.out hb)
  have S16 := Aside0.mk (World.alloc_heap_new w3 (.cells #[.int .i64 r, .int .i64 g] 29))
  clear hb
  generalize w3.alloc (.cells #[.int .i64 r, .int .i64 g] 29) = w4 at HB SC SG SP HL C2 S16 ⊢
  generalize w3.heap.size = bS16 at S16 ⊢
  go_upto_region 8 with fail
  have cS16_0 := cI S16.out 0 rfl
  have cS16_1 := cI S16.out 1 rfl
  go_upto_region 9 with (go_at_call 10; refine (stripes_Find.calls A c l r g 0 0 0 12 w4 HL.out HCC.out hf1).mono ?_; rintro e w5 ⟨rfl, hb⟩; replace HB := Aside0.mk (below_then HB.out HB.out.size hb); replace SC := Aside0.mk (blk_below SC.out hb); replace SG := Aside0.mk (blk_below SG.out hb); replace SP := Aside0.mk (blk_below SP.out hb); replace HL := Aside0.mk (Kd.C_below HL.out hb); replace C2 := Aside0.mk (Kd.C_below C2.out hb); replace S16 := Aside0.mk (blk_below S16.out hb); clear hb)
  clear cS16_0 cS16_1
  have hb : Below w5.heap.size w5 (w5.alloc (.cells #[.int .i64 0, .int .i64 0, .int .i64 0] 37)) := below_alloc (Below.refl _ _) _
  replace HB := Aside0.mk (below_then HB.out HB.out.size hb)
  replace SC := Aside0.mk (blk_below SC.out hb)
  replace SG := Aside0.mk (blk_below SG.out hb)
  replace SP := Aside0.mk (blk_below SP.out hb)
  replace HL := Aside0.mk (Kd.C_below HL.out hb)
  replace C2 := Aside0.mk (Kd.C_below C2.out hb)
  replace S16 := Aside0.mk (blk_below S16.out hb)
  have S18 := Aside0.mk (World.alloc_heap_new w5 (.cells #[.int .i64 0, .int .i64 0, .int .i64 0] 37))
  clear hb
  generalize w5.alloc (.cells #[.int .i64 0, .int .i64 0, .int .i64 0] 37) = w6 at HB SC SG SP HL C2 S16 S18 ⊢
  generalize w5.heap.size = bS18 at S18 ⊢
  have cS16_0 := cI S16.out 0 rfl
  have cS16_1 := cI S16.out 1 rfl
  go_upto_region 10 with (go_at_call 10; refine (stripes_Find.calls AC2 cC2 l2 r g g ge gc 0 w6 C2.out QC2.out hf2).mono ?_; rintro e w7 ⟨rfl, hb⟩; replace HB := Aside0.mk (below_then HB.out HB.out.size hb); replace SC := Aside0.mk (blk_below SC.out hb); replace SG := Aside0.mk (blk_below SG.out hb); replace SP := Aside0.mk (blk_below SP.out hb); replace HL := Aside0.mk (Kd.C_below HL.out hb); replace C2 := Aside0.mk (Kd.C_below C2.out hb); replace S16 := Aside0.mk (blk_below S16.out hb); replace S18 := Aside0.mk (blk_below S18.out hb); clear hb)
  clear cS16_0 cS16_1
  have hb : Below w7.heap.size w7 (w7.alloc (.cells #[.int .i64 g, .int .i64 ge, .int .i64 gc] 37)) := below_alloc (Below.refl _ _) _
  replace HB := Aside0.mk (below_then HB.out HB.out.size hb)
  replace SC := Aside0.mk (blk_below SC.out hb)
  replace SG := Aside0.mk (blk_below SG.out hb)
  replace SP := Aside0.mk (blk_below SP.out hb)
  replace HL := Aside0.mk (Kd.C_below HL.out hb)
  replace C2 := Aside0.mk (Kd.C_below C2.out hb)
  replace S16 := Aside0.mk (blk_below S16.out hb)
  replace S18 := Aside0.mk (blk_below S18.out hb)
  have S20 := Aside0.mk (World.alloc_heap_new w7 (.cells #[.int .i64 g, .int .i64 ge, .int .i64 gc] 37))
  clear hb
  generalize w7.alloc (.cells #[.int .i64 g, .int .i64 ge, .int .i64 gc] 37) = w8 at HB SC SG SP HL C2 S16 S18 S20 ⊢
  generalize w7.heap.size = bS20 at S20 ⊢
  have cS16_0 := cI S16.out 0 rfl
  have cS16_1 := cI S16.out 1 rfl
  go_upto_region 11 with (go_at_call 11; refine (stripes_Release.calls AC2 cC2 l2 r g l 0 w8 C2.out QC2.out hre).mono ?_; rintro e w9 ⟨v_, rfl, hS, hb⟩; obtain ⟨AC3, cC3, rfl, hc_, hC_⟩ := Kd.S_reads hS; replace HB := Aside0.mk (below_then HB.out HB.out.size hb); replace SC := Aside0.mk (blk_below SC.out hb); replace SG := Aside0.mk (blk_below SG.out hb); replace SP := Aside0.mk (blk_below SP.out hb); replace HL := Aside0.mk (Kd.C_below HL.out hb); replace C2 := Aside0.mk (Kd.C_below C2.out hb); replace S16 := Aside0.mk (blk_below S16.out hb); replace S18 := Aside0.mk (blk_below S18.out hb); replace S20 := Aside0.mk (blk_below S20.out hb); have C3 := Aside0.mk hC_; have QC3 := Lib.hid hc_; clear hS hb hc_ hC_)
  clear cS16_0 cS16_1
  have cSP_0 := cI SP.out 0 rfl
  have cSP_1 := cI SP.out 1 rfl
  go_upto_region 12 with (go_at_call 10; refine (stripes_Find.calls A c l pr pg q1 q2 q3 q4 w9 HL.out HCC.out hf3).mono ?_; rintro e w10 ⟨rfl, hb⟩; replace HB := Aside0.mk (below_then HB.out HB.out.size hb); replace SC := Aside0.mk (blk_below SC.out hb); replace SG := Aside0.mk (blk_below SG.out hb); replace SP := Aside0.mk (blk_below SP.out hb); replace HL := Aside0.mk (Kd.C_below HL.out hb); replace C2 := Aside0.mk (Kd.C_below C2.out hb); replace S16 := Aside0.mk (blk_below S16.out hb); replace S18 := Aside0.mk (blk_below S18.out hb); replace S20 := Aside0.mk (blk_below S20.out hb); replace C3 := Aside0.mk (Kd.C_below C3.out hb); clear hb)
  clear cSP_0 cSP_1
  have hb : Below w10.heap.size w10 (w10.alloc (.cells #[.int .i64 q1, .int .i64 q2, .int .i64 q3] 37)) := below_alloc (Below.refl _ _) _
  replace HB := Aside0.mk (below_then HB.out HB.out.size hb)
  replace SC := Aside0.mk (blk_below SC.out hb)
  replace SG := Aside0.mk (blk_below SG.out hb)
  replace SP := Aside0.mk (blk_below SP.out hb)
  replace HL := Aside0.mk (Kd.C_below HL.out hb)
  replace C2 := Aside0.mk (Kd.C_below C2.out hb)
  replace S16 := Aside0.mk (blk_below S16.out hb)
  replace S18 := Aside0.mk (blk_below S18.out hb)
  replace S20 := Aside0.mk (blk_below S20.out hb)
  replace C3 := Aside0.mk (Kd.C_below C3.out hb)
  have S24 := Aside0.mk (World.alloc_heap_new w10 (.cells #[.int .i64 q1, .int .i64 q2, .int .i64 q3] 37))
  clear hb
  generalize w10.alloc (.cells #[.int .i64 q1, .int .i64 q2, .int .i64 q3] 37) = w11 at HB SC SG SP HL C2 S16 S18 S20 C3 S24 ⊢
  generalize w10.heap.size = bS24 at S24 ⊢
  have cSP_0 := cI SP.out 0 rfl
  have cSP_1 := cI SP.out 1 rfl
  go_upto_region 13 with (go_at_call 10; refine (stripes_Find.calls AC2 cC2 l2 pr pg p1 p2 p3 p4 w11 C2.out QC2.out hf4).mono ?_; rintro e w12 ⟨rfl, hb⟩; replace HB := Aside0.mk (below_then HB.out HB.out.size hb); replace SC := Aside0.mk (blk_below SC.out hb); replace SG := Aside0.mk (blk_below SG.out hb); replace SP := Aside0.mk (blk_below SP.out hb); replace HL := Aside0.mk (Kd.C_below HL.out hb); replace C2 := Aside0.mk (Kd.C_below C2.out hb); replace S16 := Aside0.mk (blk_below S16.out hb); replace S18 := Aside0.mk (blk_below S18.out hb); replace S20 := Aside0.mk (blk_below S20.out hb); replace C3 := Aside0.mk (Kd.C_below C3.out hb); replace S24 := Aside0.mk (blk_below S24.out hb); clear hb)
  clear cSP_0 cSP_1
  have hb : Below w12.heap.size w12 (w12.alloc (.cells #[.int .i64 p1, .int .i64 p2, .int .i64 p3] 37)) := below_alloc (Below.refl _ _) _
  replace HB := Aside0.mk (below_then HB.out HB.out.size hb)
  replace SC := Aside0.mk (blk_below SC.out hb)
  replace SG := Aside0.mk (blk_below SG.out hb)
  replace SP := Aside0.mk (blk_below SP.out hb)
  replace HL := Aside0.mk (Kd.C_below HL.out hb)
  replace C2 := Aside0.mk (Kd.C_below C2.out hb)
  replace S16 := Aside0.mk (blk_below S16.out hb)
  replace S18 := Aside0.mk (blk_below S18.out hb)
  replace S20 := Aside0.mk (blk_below S20.out hb)
  replace C3 := Aside0.mk (Kd.C_below C3.out hb)
  replace S24 := Aside0.mk (blk_below S24.out hb)
  have S26 := Aside0.mk (World.alloc_heap_new w12 (.cells #[.int .i64 p1, .int .i64 p2, .int .i64 p3] 37))
  clear hb
  generalize w12.alloc (.cells #[.int .i64 p1, .int .i64 p2, .int .i64 p3] 37) = w13 at HB SC SG SP HL C2 S16 S18 S20 C3 S24 S26 ⊢
  generalize w12.heap.size = bS26 at S26 ⊢
  by_cases hr : pr = r
  · by_cases hg : pg = g
    · have e1 : (pr == r) = true := by simp [hr]
      have e2 : (pg == g) = true := by simp [hg]
      clear hr hg
      go_wp2_with (first | (go_at_call 8; refine (solventlaw24_sanity.calls true w13 rfl).mono ?_; rintro e w14 ⟨rfl, hb⟩; replace HB := Aside0.mk (below_then HB.out HB.out.size hb); replace SC := Aside0.mk (blk_below SC.out hb); replace SG := Aside0.mk (blk_below SG.out hb); replace SP := Aside0.mk (blk_below SP.out hb); replace HL := Aside0.mk (Kd.C_below HL.out hb); replace C2 := Aside0.mk (Kd.C_below C2.out hb); replace S16 := Aside0.mk (blk_below S16.out hb); replace S18 := Aside0.mk (blk_below S18.out hb); replace S20 := Aside0.mk (blk_below S20.out hb); replace C3 := Aside0.mk (Kd.C_below C3.out hb); replace S24 := Aside0.mk (blk_below S24.out hb); replace S26 := Aside0.mk (blk_below S26.out hb); clear hb; have cS20_0 := cI S20.out 0 rfl; have cS20_1 := cI S20.out 1 rfl; have cS20_2 := cI S20.out 2 rfl; have cS16_0 := cI S16.out 0 rfl; have cS16_1 := cI S16.out 1 rfl; have cSG_0 := cI SG.out 0 rfl; have cSG_1 := cI SG.out 1 rfl; have cSP_0 := cI SP.out 0 rfl; have cSP_1 := cI SP.out 1 rfl; have cS24_0 := cI S24.out 0 rfl; have cS24_1 := cI S24.out 1 rfl; have cS24_2 := cI S24.out 2 rfl; have cS26_0 := cI S26.out 0 rfl; have cS26_1 := cI S26.out 1 rfl; have cS26_2 := cI S26.out 2 rfl) | (go_at_call 12; refine (solventref24_Same.calls KS AC3 cC3 l A c l true w14 C3.out QC3.out HL.out HCC.out hsa).mono ?_; rintro e w15 ⟨rfl, hd⟩; have hb := hd.below; clear cS20_0 cS20_1 cS20_2 cS16_0 cS16_1 cSG_0 cSG_1 cSP_0 cSP_1 cS24_0 cS24_1 cS24_2 cS26_0 cS26_1 cS26_2; replace HB := Aside0.mk (below_then HB.out HB.out.size hb); replace SC := Aside0.mk (blk_below SC.out hb); replace SG := Aside0.mk (blk_below SG.out hb); replace SP := Aside0.mk (blk_below SP.out hb); replace HL := Aside0.mk (Kd.C_below HL.out hb); replace C2 := Aside0.mk (Kd.C_below C2.out hb); replace S16 := Aside0.mk (blk_below S16.out hb); replace S18 := Aside0.mk (blk_below S18.out hb); replace S20 := Aside0.mk (blk_below S20.out hb); replace C3 := Aside0.mk (Kd.C_below C3.out hb); replace S24 := Aside0.mk (blk_below S24.out hb); replace S26 := Aside0.mk (blk_below S26.out hb); have cS20_0 := cI S20.out 0 rfl; have cS20_1 := cI S20.out 1 rfl; have cS20_2 := cI S20.out 2 rfl; have cS16_0 := cI S16.out 0 rfl; have cS16_1 := cI S16.out 1 rfl; have cSG_0 := cI SG.out 0 rfl; have cSG_1 := cI SG.out 1 rfl; have cSP_0 := cI SP.out 0 rfl; have cSP_1 := cI SP.out 1 rfl; have cS24_0 := cI S24.out 0 rfl; have cS24_1 := cI S24.out 1 rfl; have cS24_2 := cI S24.out 2 rfl; have cS26_0 := cI S26.out 0 rfl; have cS26_1 := cI S26.out 1 rfl; have cS26_2 := cI S26.out 2 rfl; clear hb hd))
      go_ret
      exact ⟨rfl, HB.out⟩
    · have e2 : (pg == g) = false := by simp [hg]
      have e1 : (pr == r) = true := by simp [hr]
      have hq := HPR.out.resolve_left (fun h => hg h.2)
      obtain ⟨_, rfl, rfl, rfl, rfl⟩ := hq
      clear hr hg
      go_wp2_with (first | (go_at_call 8; refine (solventlaw24_sanity.calls true w13 rfl).mono ?_; rintro e w14 ⟨rfl, hb⟩; replace HB := Aside0.mk (below_then HB.out HB.out.size hb); replace SC := Aside0.mk (blk_below SC.out hb); replace SG := Aside0.mk (blk_below SG.out hb); replace SP := Aside0.mk (blk_below SP.out hb); replace HL := Aside0.mk (Kd.C_below HL.out hb); replace C2 := Aside0.mk (Kd.C_below C2.out hb); replace S16 := Aside0.mk (blk_below S16.out hb); replace S18 := Aside0.mk (blk_below S18.out hb); replace S20 := Aside0.mk (blk_below S20.out hb); replace C3 := Aside0.mk (Kd.C_below C3.out hb); replace S24 := Aside0.mk (blk_below S24.out hb); replace S26 := Aside0.mk (blk_below S26.out hb); clear hb; have cS20_0 := cI S20.out 0 rfl; have cS20_1 := cI S20.out 1 rfl; have cS20_2 := cI S20.out 2 rfl; have cS16_0 := cI S16.out 0 rfl; have cS16_1 := cI S16.out 1 rfl; have cSG_0 := cI SG.out 0 rfl; have cSG_1 := cI SG.out 1 rfl; have cSP_0 := cI SP.out 0 rfl; have cSP_1 := cI SP.out 1 rfl; have cS24_0 := cI S24.out 0 rfl; have cS24_1 := cI S24.out 1 rfl; have cS24_2 := cI S24.out 2 rfl; have cS26_0 := cI S26.out 0 rfl; have cS26_1 := cI S26.out 1 rfl; have cS26_2 := cI S26.out 2 rfl) | (go_at_call 12; refine (solventref24_Same.calls KS AC3 cC3 l A c l true w14 C3.out QC3.out HL.out HCC.out hsa).mono ?_; rintro e w15 ⟨rfl, hd⟩; have hb := hd.below; clear cS20_0 cS20_1 cS20_2 cS16_0 cS16_1 cSG_0 cSG_1 cSP_0 cSP_1 cS24_0 cS24_1 cS24_2 cS26_0 cS26_1 cS26_2; replace HB := Aside0.mk (below_then HB.out HB.out.size hb); replace SC := Aside0.mk (blk_below SC.out hb); replace SG := Aside0.mk (blk_below SG.out hb); replace SP := Aside0.mk (blk_below SP.out hb); replace HL := Aside0.mk (Kd.C_below HL.out hb); replace C2 := Aside0.mk (Kd.C_below C2.out hb); replace S16 := Aside0.mk (blk_below S16.out hb); replace S18 := Aside0.mk (blk_below S18.out hb); replace S20 := Aside0.mk (blk_below S20.out hb); replace C3 := Aside0.mk (Kd.C_below C3.out hb); replace S24 := Aside0.mk (blk_below S24.out hb); replace S26 := Aside0.mk (blk_below S26.out hb); have cS20_0 := cI S20.out 0 rfl; have cS20_1 := cI S20.out 1 rfl; have cS20_2 := cI S20.out 2 rfl; have cS16_0 := cI S16.out 0 rfl; have cS16_1 := cI S16.out 1 rfl; have cSG_0 := cI SG.out 0 rfl; have cSG_1 := cI SG.out 1 rfl; have cSP_0 := cI SP.out 0 rfl; have cSP_1 := cI SP.out 1 rfl; have cS24_0 := cI S24.out 0 rfl; have cS24_1 := cI S24.out 1 rfl; have cS24_2 := cI S24.out 2 rfl; have cS26_0 := cI S26.out 0 rfl; have cS26_1 := cI S26.out 1 rfl; have cS26_2 := cI S26.out 2 rfl; clear hb hd))
      go_ret
      exact ⟨rfl, HB.out⟩
  · have e1 : (pr == r) = false := by simp [hr]
    have hq := HPR.out.resolve_left (fun h => hr h.1)
    obtain ⟨_, rfl, rfl, rfl, rfl⟩ := hq
    clear hr
    go_wp2_with (first | (go_at_call 8; refine (solventlaw24_sanity.calls true w13 rfl).mono ?_; rintro e w14 ⟨rfl, hb⟩; replace HB := Aside0.mk (below_then HB.out HB.out.size hb); replace SC := Aside0.mk (blk_below SC.out hb); replace SG := Aside0.mk (blk_below SG.out hb); replace SP := Aside0.mk (blk_below SP.out hb); replace HL := Aside0.mk (Kd.C_below HL.out hb); replace C2 := Aside0.mk (Kd.C_below C2.out hb); replace S16 := Aside0.mk (blk_below S16.out hb); replace S18 := Aside0.mk (blk_below S18.out hb); replace S20 := Aside0.mk (blk_below S20.out hb); replace C3 := Aside0.mk (Kd.C_below C3.out hb); replace S24 := Aside0.mk (blk_below S24.out hb); replace S26 := Aside0.mk (blk_below S26.out hb); clear hb; have cS20_0 := cI S20.out 0 rfl; have cS20_1 := cI S20.out 1 rfl; have cS20_2 := cI S20.out 2 rfl; have cS16_0 := cI S16.out 0 rfl; have cS16_1 := cI S16.out 1 rfl; have cSG_0 := cI SG.out 0 rfl; have cSG_1 := cI SG.out 1 rfl; have cSP_0 := cI SP.out 0 rfl; have cSP_1 := cI SP.out 1 rfl; have cS24_0 := cI S24.out 0 rfl; have cS24_1 := cI S24.out 1 rfl; have cS24_2 := cI S24.out 2 rfl; have cS26_0 := cI S26.out 0 rfl; have cS26_1 := cI S26.out 1 rfl; have cS26_2 := cI S26.out 2 rfl) | (go_at_call 12; refine (solventref24_Same.calls KS AC3 cC3 l A c l true w14 C3.out QC3.out HL.out HCC.out hsa).mono ?_; rintro e w15 ⟨rfl, hd⟩; have hb := hd.below; clear cS20_0 cS20_1 cS20_2 cS16_0 cS16_1 cSG_0 cSG_1 cSP_0 cSP_1 cS24_0 cS24_1 cS24_2 cS26_0 cS26_1 cS26_2; replace HB := Aside0.mk (below_then HB.out HB.out.size hb); replace SC := Aside0.mk (blk_below SC.out hb); replace SG := Aside0.mk (blk_below SG.out hb); replace SP := Aside0.mk (blk_below SP.out hb); replace HL := Aside0.mk (Kd.C_below HL.out hb); replace C2 := Aside0.mk (Kd.C_below C2.out hb); replace S16 := Aside0.mk (blk_below S16.out hb); replace S18 := Aside0.mk (blk_below S18.out hb); replace S20 := Aside0.mk (blk_below S20.out hb); replace C3 := Aside0.mk (Kd.C_below C3.out hb); replace S24 := Aside0.mk (blk_below S24.out hb); replace S26 := Aside0.mk (blk_below S26.out hb); have cS20_0 := cI S20.out 0 rfl; have cS20_1 := cI S20.out 1 rfl; have cS20_2 := cI S20.out 2 rfl; have cS16_0 := cI S16.out 0 rfl; have cS16_1 := cI S16.out 1 rfl; have cSG_0 := cI SG.out 0 rfl; have cSG_1 := cI SG.out 1 rfl; have cSP_0 := cI SP.out 0 rfl; have cSP_1 := cI SP.out 1 rfl; have cS24_0 := cI S24.out 0 rfl; have cS24_1 := cI S24.out 1 rfl; have cS24_2 := cI S24.out 2 rfl; have cS26_0 := cI S26.out 0 rfl; have cS26_1 := cI S26.out 1 rfl; have cS26_2 := cI S26.out 2 rfl; clear hb hd))
    go_ret
    exact ⟨rfl, HB.out⟩
end Go.Proofs.Ytlodlblkmnhaeaa

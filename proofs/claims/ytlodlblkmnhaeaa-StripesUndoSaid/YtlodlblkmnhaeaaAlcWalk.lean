/- The walk of stripes.Allocate where its arguments are valid. -/
import Derived.Test.YtlodlblkmnhaeaaAlcNew
namespace Go.Proofs.Ytlodlblkmnhaeaa
set_option linter.unusedVariables false
open Go.RowKit Go.Shelf Go.Proofs.Ytlodlblkmnhaeaa.P Go.Proofs.YtlodlblkmnhaeaaW.PrintWords Go.Proofs.YtlodlblkmnhaeaaW.PrintLast Go.Proofs.YtlodlblkmnhaeaaW.PrintMore
attribute [local go_sem] Oper.semAt_some

def alcR7.T : Bool × List (List Nat × List Nat) := (true, [([], []), ([0], [0]), ([], []), ([], []), ([2, 3, 1], [2, 3]), ([], []), ([], []), ([5, 1, 4, 0, 1, 5, 6], [1, 5]), ([6, 4, 7, 0, 1, 2, 3, 4, 5, 6, 7], [4, 6])])
def alcR7.B : List Nat := [0, 1, 0, 0, 15, 0, 0, 127, 255]
theorem alcR7.tab : rtab .any (opsOf Try.f9 7) = alcR7.T := by kernel_rfl
theorem alcR7.bits : waitsOk alcR7.T.2 alcR7.B = true := by kernel_rfl
def alcR15.T : Bool × List (List Nat × List Nat) := (true, [([], []), ([], []), ([], []), ([], []), ([2, 3], [2, 3]), ([4], [4]), ([5], [5]), ([], []), ([], []), ([], []), ([8, 9], [8, 9]), ([10], [10]), ([6, 7, 11], [6, 7, 11]), ([0, 1, 0, 1, 2, 3, 4, 5, 6, 7, 8, 9, 10, 11, 12], [0, 1]), ([13, 0, 1, 2, 3, 4, 5, 6, 7, 8, 9, 10, 11, 12], [13]), ([14, 12, 12, 0, 1, 2, 3, 4, 5, 6, 7, 8, 9, 10, 11, 12], [12, 14])])
def alcR15.B : List Nat := [0, 0, 0, 0, 12, 28, 60, 0, 0, 0, 768, 1792, 4092, 8191, 16383, 32767]
theorem alcR15.tab : rtab .any (opsOf Try.f9 15) = alcR15.T := by kernel_rfl
theorem alcR15.bits : waitsOk alcR15.T.2 alcR15.B = true := by kernel_rfl
def alcR19.T : Bool × List (List Nat × List Nat) := (true, [([], []), ([], []), ([], []), ([], []), ([], []), ([4], [4]), ([5], [5]), ([2, 3, 6], [2, 3, 6]), ([0, 1, 0, 1, 2, 3, 4, 5, 6, 7], [0, 1]), ([8, 7, 0, 1, 2, 3, 4, 5, 6, 7], [7, 8])])
def alcR19.B : List Nat := [0, 0, 0, 0, 0, 16, 48, 124, 255, 511]
theorem alcR19.tab : rtab .any (opsOf Try.f9 19) = alcR19.T := by kernel_rfl
theorem alcR19.bits : waitsOk alcR19.T.2 alcR19.B = true := by kernel_rfl

set_option maxRecDepth 100000 in
set_option maxHeartbeats 16000000 in
theorem alc_in (a0 a1 a2 a3 a4 a5 : Int) (A : Option Addr) (len cap : Nat) (code wd ge gc : Int) (R : List RowA) (l0 : List S59) (g : Int) (w : World) (hR : RowsAt w.heap.size w A len R) (hm : R.map RowA.x = l0) (hll : len = l0.length) (hbd : bnd l0 = true) (hCC : Kd.C k59 w A l0.length l0) (hcap : l0.length ≤ cap)
    (hLL : ∀ j, j < len → Kd.C k37 w (rA R j).A (rA R j).x.f2.length (rA R j).x.f2)
    (h0 : ¬ code < 0) (h1 : ¬ code ≥ 8) (h2 : ¬ wd < 1) (h3 : ¬ wd > 32) (h5 : (g == 0) = false) (hg0 : 0 ≤ g) (hg1 : g ≤ 64) (GC : Aside (∀ W, Calls Try.prog 15 #[.agg #[.int .i64 a0, .int .i64 a1, .int .i64 a2, .int .i64 a3, .int .i64 a4, .int .i64 a5], .int .i64 wd] W fun e w' => e = .returned (.int .i64 g) ∧ Below W.heap.size W w')) :
    CallsIn Fence.wide 8 Try.prog 9 #[.agg #[.int .i64 a0, .int .i64 a1, .int .i64 a2, .int .i64 a3, .int .i64 a4, .int .i64 a5], .slice A len cap, .int .i64 code, .int .i64 wd, .agg #[.int .i64 ge, .int .i64 gc]] w (AlcPost w (allocG l0 code wd g ge gc)) := by
  have hd0 : decide (code < 0) = false := decide_eq_false h0
  have hd1 : decide (8 ≤ code) = false := decide_eq_false h1
  have hd2 : decide (wd < 1) = false := decide_eq_false h2
  have hd3 : decide (32 < wd) = false := decide_eq_false h3
  have hu23 := Try.underlying23
  have hu29 := Try.underlying29
  have hu27 := Try.underlying27
  have hu59 := Try.underlying59
  have hlen := hR.2.1
  have h23 : Fence.wide.fn 23 := trivial
  have h34 : Fence.wide.fn 34 := trivial
  have h15 : Fence.wide.fn 15 := trivial
  have h24 : Fence.wide.fn 24 := trivial
  have HF : Aside (Fr _ w.heap.size a0 a1 a2 a3 a4 a5 code wd ge gc _ _ _ _) := fr_new w a0 a1 a2 a3 a4 a5 code wd ge gc
  have HB : Aside (Below w.heap.size w _) := fr_below w a0 a1 a2 a3 a4 a5 code wd ge gc
  have HM : Aside (R.map RowA.x = l0) := hm
  have HLL := Lib.hid hll
  have HBD := Lib.hid hbd
  have HCC : Aside (Kd.C k59 w A l0.length l0) := hCC
  have HLS : Aside (∀ j, j < len → Kd.C k37 w (rA R j).A (rA R j).x.f2.length (rA R j).x.f2) := hLL
  clear hm hll hbd hCC hLL
  obtain ⟨Q, hQ⟩ : ∃ Q, Q = AlcPost w (allocG l0 code wd g ge gc) := ⟨_, rfl⟩
  rw [← hQ]
  have HQ := Lib.hid hQ
  clear hQ
  refine callsIn_of_wp_marks Try.func9 rfl trivial ?_ rfl
  simp only [Try.ntmps9, List.size_toArray, List.length_cons, List.length_nil, Nat.reduceAdd, Nat.reduceSub, Array.replicate_succ, Array.replicate_zero, List.push_toArray, List.append_toArray, List.nil_append, List.cons_append]
  gi_wp2_with (first
    | (gi_at_call 15; refine (callsIn_wide.2 (GC.out _)).mono ?_; rintro e w1 ⟨rfl, hb⟩; have HF1 : Aside (Fr w1 w.heap.size a0 a1 a2 a3 a4 a5 code wd ge gc (.slice none 0 0) 0 0 0) := Fr.below HF.out hb; have HB1 : Aside (Below w.heap.size w w1) := below_then HB.out HB.out.size hb; have c1 : w1.cell? ⟨w.heap.size + 1, 0, none⟩ = some (.int .i64 code) := blk_cell HF1.out.b1 0; clear hb)
    | (gi_at_call 23; refine (of_in Fence.wide 7 trivial rfl _ _ _ _ _).mono ?_; rintro e w' ⟨rfl, rfl⟩))
  have bR := (Boxed.new w1 25 (.slice A len cap)).alloc (.cells #[.int .i64 code] 3)
  have bC := Boxed.new (w1.alloc (.cells #[.slice A len cap] 25)) 3 (.int .i64 code)
  simp only [World.size_alloc] at bC
  have hbA : Below w1.heap.size w1 ((w1.alloc (.cells #[.slice A len cap] 25)).alloc (.cells #[.int .i64 code] 3)) := ((Below.refl _ _).alloc (Nat.le_refl _) _).alloc (by simp) _
  have hB0 : Below w.heap.size w ((w1.alloc (.cells #[.slice A len cap] 25)).alloc (.cells #[.int .i64 code] 3)) := below_then HB1.out HB1.out.size hbA
  have hF0 := Fr.below HF1.out hbA
  have hsz1 := HF1.out.lt
  have hsz : ((w1.alloc (.cells #[.slice A len cap] 25)).alloc (.cells #[.int .i64 code] 3)).heap.size = w1.heap.size + 2 := by simp
  obtain ⟨W0, hW0⟩ : ∃ W0, (w1.alloc (.cells #[.slice A len cap] 25)).alloc (.cells #[.int .i64 code] 3) = W0 := ⟨_, rfl⟩
  rw [hW0] at bR bC hB0 hF0 hsz ⊢
  clear hW0 hbA c1
  have hR0 := hR.below hB0
  refine wpIn_rangeFunc_ownH rfl (by omega) (gf := 34) (lb := #[.pointer (some ⟨w1.heap.size, 0, none⟩), .pointer (some ⟨w1.heap.size + 1, 0, none⟩)]) rfl h34 (enters_of Try.func34 (by kernel_rfl) rfl)
    (of_stops Fence.wide 7 h34 rfl (by omega) w1.heap.size (w1.heap.size + 1) w.heap.size len cap A code R W0 (by omega) bR bC hR0) kq_t (kq_b (by omega) (by omega)) (Below.refl _ _) (fun _ => rfl)
    (fun pre W => Fr W w.heap.size a0 a1 a2 a3 a4 a5 code wd ge gc (.slice none 0 0) 0 0 0 ∧ Below w.heap.size w W ∧ ∀ y ∈ pre, (rA R y.1).x.f1 = wd)
    (fun c pre W => c = .ret ∧ Fr W w.heap.size a0 a1 a2 a3 a4 a5 code wd ge gc (.slice none 0 0) 0 0 1 ∧ Below w.heap.size w W ∧ ∃ y ∈ pre, ¬ (rA R y.1).x.f1 = wd)
    (OwnFrom.and (Own.from (fr_own _ _ _ _ _ _ _ _ _ _ _ _ _ _ _) _) (OwnFrom.and (ownFrom_below (Nat.le_refl _) (by omega)) (ownFrom_pure _ _)))
    (fun c => OwnFrom.and (ownFrom_pure _ _) (OwnFrom.and (Own.from (fr_own _ _ _ _ _ _ _ _ _ _ _ _ _ _ _) _) (OwnFrom.and (ownFrom_below (Nat.le_refl _) (by omega)) (ownFrom_pure _ _))))
    ⟨hF0, hB0, fun y hy => by cases hy⟩
    (fun x a' W => ∃ Bx, w.heap.size + 7 ≤ Bx ∧ W.heap[Bx]? = some (.cells #[.int .i64 (rA R x.1).x.f0, .int .i64 (rA R x.1).x.f1, .slice (rA R x.1).A (rA R x.1).x.f2.length (rA R x.1).c] 59 (0, 0)) ∧ a' = { tmps := #[.agg #[.int .i64 a0, .int .i64 a1, .int .i64 a2, .int .i64 a3, .int .i64 a4, .int .i64 a5], .slice A len cap, .int .i64 code, .int .i64 wd, .agg #[.int .i64 ge, .int .i64 gc], .pointer (some ⟨w.heap.size, 0, none⟩), undef, .pointer (some ⟨w.heap.size + 1, 0, none⟩), .pointer (some ⟨w.heap.size + 1 + 1, 0, none⟩), .pointer (some ⟨w.heap.size + 1 + 1 + 1, 0, none⟩), .pointer (some ⟨w.heap.size + 1 + 1 + 1 + 1, 0, none⟩), .pointer (some ⟨w.heap.size + 1 + 1 + 1 + 1 + 1, 0, none⟩), .pointer (some ⟨w.heap.size + 1 + 1 + 1 + 1 + 1 + 1, 0, none⟩), undef, .pointer (some ⟨Bx, 0, none⟩), undef, undef, undef, undef, undef, undef, .int .i64 code, .bool false, .bool false, .int .i64 code, .bool false, .bool false, .bool false, .int .i64 wd, .bool false, .bool false, .bool false, .int .i64 wd, .bool false, .bool false, .bool false, .agg #[.int .i64 a0, .int .i64 a1, .int .i64 a2, .int .i64 a3, .int .i64 a4, .int .i64 a5], .int .i64 wd, .int .i64 g, .bool false, .bool false, undef, .slice A len cap, .int .i64 code, .func (.func 34) #[] #[.pointer (some ⟨w1.heap.size, 0, none⟩), .pointer (some ⟨w1.heap.size + 1, 0, none⟩)], .int .i64 (x.1 : Int), (rA R x.1).val, undef, undef, undef, undef, undef, undef, undef, undef, undef, undef, undef, undef, undef, undef, undef, undef, undef, undef, undef, undef, undef, undef, undef, undef, undef, undef, undef, undef, undef, undef, undef, undef, undef, undef, undef, undef, undef, undef, undef, undef, undef, undef, undef, undef, undef, undef, undef, undef, undef, undef, undef, undef, undef, undef, undef, undef, undef, undef, undef, undef, undef, undef, undef, undef, undef, undef, undef, undef, undef, undef, undef, undef, undef], defers := [] })
    (fun x a' => ax_own _ _ _ _ _)
    ?assign ?body ?done ?stop
  case assign =>
    rintro l pre x W K ⟨hF, hB, hP⟩ hK
    simp only [encO, zip2, RowA.val]
    gi_wp2
    exact hK _ _ ((KeepsOthers.alloc _ _).from _) ⟨(Below.refl _ W).alloc hB.size _, fun v hv => hv.alloc _⟩ ⟨hF.below (below_alloc (Below.refl _ _) _), hB.alloc hB.size _, hP⟩ ⟨W.heap.size, hF.lt, World.alloc_heap_new W _, rfl⟩
  case body =>
    rintro l pre x a' W hl _ ⟨hF, hB, hP⟩ ⟨Bx, hBx, bX, rfl⟩ hlt
    have hX1 : W.cell? ⟨Bx, 1, none⟩ = some (.int .i64 (rA R x.1).x.f1) := (blk_cell bX 1).trans rfl
    have cW : W.cell? ⟨w.heap.size + 1 + 1, 0, none⟩ = some (.int .i64 wd) := blk_cell hF.b2 0
    obtain ⟨xw, hxw⟩ : ∃ xw, xw = (rA R x.1).x.f1 := ⟨_, rfl⟩
    rw [← hxw] at hX1
    have HXW := Lib.hid hxw
    have HF2 : Aside (Fr W w.heap.size a0 a1 a2 a3 a4 a5 code wd ge gc (.slice none 0 0) 0 0 0) := hF
    have HB2 : Aside (Below w.heap.size w W) := hB
    have HP2 : Aside (∀ y ∈ pre, (rA R y.1).x.f1 = wd) := hP
    clear hxw bX hF hB hP
    by_cases hq : xw = wd
    · have hqb : (xw != wd) = false := by simp [hq]
      have HQ2 := Lib.hid hq
      clear hq
      gi_wp2
      exact ⟨KeepsFrom.refl _ _, ⟨Below.refl _ _, fun _ h => h⟩, HF2.out, HB2.out, fun y hy => by
        rcases List.mem_append.1 hy with hy | hy
        · exact HP2.out y hy
        · rw [List.mem_singleton.1 hy, ← HXW.out]; exact HQ2.out⟩
    · have hqb : (xw != wd) = true := by simp [hq]
      have HQ2 := Lib.hid hq
      clear hq
      have c4 : W.cell? ⟨w.heap.size + 1 + 1 + 1 + 1, 0, none⟩ = some (.slice none 0 0) := blk_cell HF2.out.b4 0
      have c5 : W.cell? ⟨w.heap.size + 1 + 1 + 1 + 1 + 1, 0, none⟩ = some (.int .i64 0) := blk_cell HF2.out.b5 0
      have c5b : W.cell? ⟨w.heap.size + 1 + 1 + 1 + 1 + 1, 1, none⟩ = some (.int .i64 0) := blk_cell HF2.out.b5 1
      have c6 : W.cell? ⟨w.heap.size + 1 + 1 + 1 + 1 + 1 + 1, 0, none⟩ = some (.int .i64 0) := blk_cell HF2.out.b6 0
      have f4 := blk_frozen HF2.out.b4 0
      have f5 := blk_frozen HF2.out.b5 0
      have f5b := blk_frozen HF2.out.b5 1
      have f6 := blk_frozen HF2.out.b6 0
      gi_wp2
      exact ⟨(((KeepsOthers.setCell _ _ _).trans (KeepsOthers.setCell _ _ _)).trans ((KeepsOthers.setCell _ _ _).trans (KeepsOthers.setCell _ _ _))).from _, rfl, Fr.ret HF2.out (.slice none 0 0) 0 0 1,
        (((HB2.out.setCell (p := ⟨_, 0, none⟩) (by simp; omega) _).setCell (p := ⟨_, 0, none⟩) (by simp; omega) _).setCell (p := ⟨_, 1, none⟩) (by simp; omega) _).setCell (p := ⟨_, 0, none⟩) (by simp; omega) _, x, by simp, by rw [← HXW.out]; exact HQ2.out⟩
  case stop =>
    rintro D c pre W hD ⟨k, hk, hpre⟩ ⟨rfl, hF, hB, y, hy, hyw⟩ hK
    gi_wp2
    refine ⟨by simp, .inl ⟨_, _, rfl, run_takeDeferred hK, ?_⟩⟩
    refine ⟨_, alc_results (hF.put (by omega) hK rfl) ⟨_, _, _, rfl⟩ _ rfl rfl rfl, ?_⟩
    rw [HQ.out, allocG_wd (ofJ_any HM.out HLL.out y hyw)]
    exact ⟨_, rfl, Kd.S_nil _ _ _ _ _, hB.trans (belowK_b (w := w) (Nat.le_refl _) W D _ _ (by omega) hK rfl rfl)⟩
  case done =>
    rintro D1 ys W hD hys ⟨hF, hB, hP⟩ hK1
    have HF3 : Aside (Fr W w.heap.size a0 a1 a2 a3 a4 a5 code wd ge gc (.slice none 0 0) 0 0 0) := hF
    have HB3 : Aside (Below w.heap.size w W) := hB
    have HW : Aside (∀ y ∈ ys, (rA R y.1).x.f1 = wd) := hP
    have HYS : Aside (ys.map Subtype.val = ofJ code R len) := hys
    have HK1 : Aside (W.heap[D1]? = some (.deferred (some []))) := hK1
    clear hF hB hP hys hK1
    gi_wp2
    refine wpIn_mono (Q := fun e a' w' => e = .normal ∧ ∃ Bn Bg v bs, a' = { tmps := #[.agg #[.int .i64 a0, .int .i64 a1, .int .i64 a2, .int .i64 a3, .int .i64 a4, .int .i64 a5], .slice A len cap, .int .i64 code, .int .i64 wd, .agg #[.int .i64 ge, .int .i64 gc], .pointer (some ⟨w.heap.size, 0, none⟩), undef, .pointer (some ⟨w.heap.size + 1, 0, none⟩), .pointer (some ⟨w.heap.size + 1 + 1, 0, none⟩), .pointer (some ⟨w.heap.size + 1 + 1 + 1, 0, none⟩), .pointer (some ⟨w.heap.size + 1 + 1 + 1 + 1, 0, none⟩), .pointer (some ⟨w.heap.size + 1 + 1 + 1 + 1 + 1, 0, none⟩), .pointer (some ⟨w.heap.size + 1 + 1 + 1 + 1 + 1 + 1, 0, none⟩), undef, undef, .pointer (some ⟨Bn, 0, none⟩), .pointer (some ⟨Bg, 0, none⟩), undef, undef, undef, undef, .int .i64 code, .bool false, .bool false, .int .i64 code, .bool false, .bool false, .bool false, .int .i64 wd, .bool false, .bool false, .bool false, .int .i64 wd, .bool false, .bool false, .bool false, .agg #[.int .i64 a0, .int .i64 a1, .int .i64 a2, .int .i64 a3, .int .i64 a4, .int .i64 a5], .int .i64 wd, .int .i64 g, .bool false, .bool false, undef, .slice A len cap, .int .i64 code, .func (.func 34) #[] #[.pointer (some ⟨w1.heap.size, 0, none⟩), .pointer (some ⟨w1.heap.size + 1, 0, none⟩)], undef, undef, undef, undef, undef, undef, undef, .slice A len cap, v, .agg #[.int .i64 a0, .int .i64 a1, .int .i64 a2, .int .i64 a3, .int .i64 a4, .int .i64 a5], .int .i64 wd, .int .i64 g, undef, undef, undef, undef, undef, undef, undef, undef, undef, undef, undef, undef, undef, undef, undef, undef, undef, undef, undef, undef, undef, undef, undef, undef, undef, undef, undef, undef, undef, undef, undef, undef, undef, undef, undef, undef, undef, undef, undef, undef, undef, undef, undef, undef, undef, undef, undef, undef, undef, undef, undef, undef, undef, undef, undef, undef, undef, undef, undef, undef, undef, undef, undef], defers := [{ target := .collected D1, args := #[] }] } ∧ AlcMid W w' Bn Bg bs v g l0) (wpIn_wide.2 ?r7) ?k7
    case r7 =>
      have CP : Aside (∀ X, Below W.heap.size W X → Calls Try.prog 24 #[.slice A len cap] X fun e w' => ∃ v, e = .returned v ∧ Kd.S k59 59 w' X.heap.size (fun k => X.heap.size ≤ k) v l0 ∧ Below X.heap.size X w') := fun X hX => by
        rw [HLL.out]
        exact copied_any A cap l0 X (Kd.C_below (Kd.C_below HCC.out HB3.out) (hX)) (by have := bnd_len HBD.out; omega) (fun j x hx => by have := bnd_at HBD.out j x hx; omega)
      clear hR HF HB HM HCC HLS HF1 HB1 hF0 hB0 bC bR hR0 HW HYS HK1 HQ
      refine start_ (n := 9) (S := fun w' => Below W.heap.size W w') (ds := []) #[false, false, false, false, false, false, false, false, false] (by kernel_rfl) rfl (by kernel_rfl) (below_drew1 (Below.refl _ _)) (fun hHeld => ?_)
      refine with_tabW alcR7.tab alcR7.bits (fun HT_ HW_ => ?_)
      generalize W.drew = x0 at hHeld ⊢
      refine pure_ (i := 0) (N := some 52) (v := ?_) (a' := ?_) #[true, false, false, false, false, false, false, false, false] rfl rfl (any_of HT_.out (by kernel_rfl)) (fun _ _ _ h => nomatch h.1) (Or.inl ⟨by rfl, ?_⟩) ?_ ?_; rotate_left; (intro w'; go_simp; with_reducible rfl); rotate_left; (simp only [Act.put, List.setIfInBounds_toArray, List.set_cons_zero, List.set_cons_succ]; rfl)
      refine take_ (i := 2) (N := some 54) (v := ?_) (a' := ?_) #[true, false, true, false, false, false, false, false, false] rfl rfl (take_ofW HT_.out HW_.out (by kernel_rfl)) (fun _ _ _ h => nomatch h.1) (Or.inl ⟨by rfl, ?_⟩) hHeld ?_ ?_; rotate_left; (intro w' hb_; have hF_ := Fr.below HF3.out hb_; have hq0 : w'.cell? ⟨w.heap.size, 0, none⟩ = some (.int .i64 a0) := blk_cell hF_.b0 0; have hq1 : w'.cell? ⟨w.heap.size, 1, none⟩ = some (.int .i64 a1) := blk_cell hF_.b0 1; have hq2 : w'.cell? ⟨w.heap.size, 2, none⟩ = some (.int .i64 a2) := blk_cell hF_.b0 2; have hq3 : w'.cell? ⟨w.heap.size, 3, none⟩ = some (.int .i64 a3) := blk_cell hF_.b0 3; have hq4 : w'.cell? ⟨w.heap.size, 4, none⟩ = some (.int .i64 a4) := blk_cell hF_.b0 4; have hq5 : w'.cell? ⟨w.heap.size, 5, none⟩ = some (.int .i64 a5) := blk_cell hF_.b0 5; clear hF_; clear hb_; go_simp; with_reducible rfl); rotate_left; (simp only [Act.put, List.setIfInBounds_toArray, List.set_cons_zero, List.set_cons_succ]; rfl)
      refine take_ (i := 3) (N := some 55) (v := ?_) (a' := ?_) #[true, false, true, true, false, false, false, false, false] rfl rfl (take_ofW HT_.out HW_.out (by kernel_rfl)) (fun _ _ _ h => nomatch h.1) (Or.inl ⟨by rfl, ?_⟩) hHeld ?_ ?_; rotate_left; (intro w' hb_; have hF_ := Fr.below HF3.out hb_; have hqw : w'.cell? ⟨w.heap.size + 1 + 1, 0, none⟩ = some (.int .i64 wd) := blk_cell hF_.b2 0; clear hF_; clear hb_; go_simp; with_reducible rfl); rotate_left; (simp only [Act.put, List.setIfInBounds_toArray, List.set_cons_zero, List.set_cons_succ]; rfl)
      refine join_ (σ := Value × Nat × Nat × Nat) 2 #[true, true, true, true, true, true, true, false, false] (fun s_ => [(53, s_.1), (56, .int .i64 g), (15, .pointer (some ⟨s_.2.2.1, 0, none⟩)), (16, .pointer (some ⟨s_.2.2.2, 0, none⟩))])
        (fun s_ w' => Below W.heap.size W w' ∧ Kd.S k59 59 w' s_.2.1 (fun k => s_.2.1 ≤ k) s_.1 l0 ∧ W.heap.size ≤ s_.2.1 ∧ w'.heap[s_.2.2.1]? = some (.cells #[.slice none 0 0] 25 (0, 0)) ∧ W.heap.size ≤ s_.2.2.1 ∧ w'.heap[s_.2.2.2]? = some (.cells #[.int .i64 0] 3 (0, 0)) ∧ W.heap.size ≤ s_.2.2.2) ?_ ?_
      rotate_left
      · intro hCont
        refine three_ (i := 1) (j := 5) (k := 6) (Ni := some 53) (Nj := some 15) (Nk := some 16) #[true, true, true, true, false, false, false, false, false] #[true, false, true, true, false, true, false, false, false] #[true, false, true, true, false, false, true, false, false] rfl rfl rfl rfl rfl rfl (three_of HT_.out (by kernel_rfl)) (by decide) (by decide) (by decide) (fun K hK => ?_) (fun K hK => ?_) (fun K hK => ?_)
        · skip
          refine goes_ Try.func24 (by kernel_rfl) rfl #[.slice A len cap] (by rfl) rfl rfl (by (try simp only [List.map_toArray, List.map_cons, List.map_nil]); first | done | rfl) ?_
          refine (CP.out _ hHeld).mono ?_
          rintro e x1 ⟨sv, rfl, hS, hb⟩
          refine ⟨_, rfl, ?_⟩
          have SB : Aside (W.heap.size ≤ x0.heap.size) := hHeld.size
          obtain ⟨sb, hsb⟩ : ∃ sb, sb = x0.heap.size := ⟨_, rfl⟩
          rw [← hsb] at SB hS
          clear hsb
          have SV : Aside (Kd.S k59 59 x1 sb (fun k => sb ≤ k) sv l0) := hS
          clear hS
          refine hK.out _ _ (below_then hHeld hHeld.size hb) (fun hHeld => ?_)
          clear hb hK K
          refine norm_ (a' := ?_) ?_ ?_
          rotate_left
          · show Act.put _ (some 53) _ = _
            simp only [Act.put, List.setIfInBounds_toArray, List.set_cons_zero, List.set_cons_succ]
            rfl
          refine three_ (i := 4) (j := 5) (k := 6) (Ni := some 56) (Nj := some 15) (Nk := some 16) #[true, true, true, true, true, false, false, false, false] #[true, true, true, true, false, true, false, false, false] #[true, true, true, true, false, false, true, false, false] rfl rfl rfl rfl rfl rfl (three_of HT_.out (by kernel_rfl)) (by decide) (by decide) (by decide) (fun K hK => ?_) (fun K hK => ?_) (fun K hK => ?_)
          · skip
            refine goes_ Try.func15 (by kernel_rfl) rfl #[.agg #[.int .i64 a0, .int .i64 a1, .int .i64 a2, .int .i64 a3, .int .i64 a4, .int .i64 a5], .int .i64 wd] (by rfl) rfl rfl (by (try simp only [List.map_toArray, List.map_cons, List.map_nil]); first | done | rfl) ?_
            refine (GC.out _).mono ?_
            rintro e x2 ⟨rfl, hb⟩
            refine ⟨_, rfl, ?_⟩
            refine hK.out _ _ (below_then hHeld hHeld.size hb) (fun hHeld => ?_)
            replace SV : Aside (Kd.S k59 59 x2 sb (fun k => sb ≤ k) sv l0) := Kd.S_below SV.out hb
            clear hb hK K
            refine norm_ (a' := ?_) ?_ ?_
            rotate_left
            · show Act.put _ (some 56) _ = _
              simp only [Act.put, List.setIfInBounds_toArray, List.set_cons_zero, List.set_cons_succ]
              rfl
            refine two_ (i := 5) (j := 6) (Ni := some 15) (Nj := some 16) #[true, true, true, true, true, true, false, false, false] #[true, true, true, true, true, false, true, false, false] rfl rfl rfl rfl (two_of HT_.out (by kernel_rfl)) (by decide) (by decide) (fun K hK => ?_) (fun K hK => ?_)
            · skip
              refine value_ (v := .pointer (some ⟨x2.heap.size, 0, none⟩)) (w1 := x2.alloc (.cells #[.slice none 0 0] 25 (0, 0))) (by rfl) rfl (by first | (go_simp; done) | (go_simp; rfl)) ?_
              have hb : Below x2.heap.size x2 (x2.alloc (.cells #[.slice none 0 0] 25 (0, 0))) := below_alloc (Below.refl _ _) _
              have hN : (x2.alloc (.cells #[.slice none 0 0] 25 (0, 0))).heap[x2.heap.size]? = some (.cells #[.slice none 0 0] 25 (0, 0)) := World.alloc_heap_new _ _
              have hL := hHeld.size
              generalize x2.alloc (.cells #[.slice none 0 0] 25 (0, 0)) = x3 at hb hN ⊢
              have hHeld2 := below_then hHeld hHeld.size hb
              refine hK.out _ _ hHeld2 (fun hHeld => ?_)
              clear hHeld2
              replace SV : Aside (Kd.S k59 59 x3 sb (fun k => sb ≤ k) sv l0) := Kd.S_below SV.out hb
              generalize x2.heap.size = s5 at hN hL ⊢
              have N5 : Aside (x3.heap[s5]? = some (.cells #[.slice none 0 0] 25 (0, 0))) := hN
              have L5 : Aside (W.heap.size ≤ s5) := hL
              clear hN hL hb hK K
              refine norm_ (a' := ?_) ?_ ?_
              rotate_left
              · show Act.put _ (some 15) _ = _
                simp only [Act.put, List.setIfInBounds_toArray, List.set_cons_zero, List.set_cons_succ]
                rfl
              refine one_ (i := 6) (N := some 16) #[true, true, true, true, true, true, true, false, false] rfl rfl (one_of HT_.out (by kernel_rfl)) (by decide) (fun K hK => ?_)
              refine value_ (v := .pointer (some ⟨x3.heap.size, 0, none⟩)) (w1 := x3.alloc (.cells #[.int .i64 0] 3 (0, 0))) (by rfl) rfl (by first | (go_simp; done) | (go_simp; rfl)) ?_
              have hb : Below x3.heap.size x3 (x3.alloc (.cells #[.int .i64 0] 3 (0, 0))) := below_alloc (Below.refl _ _) _
              have hN : (x3.alloc (.cells #[.int .i64 0] 3 (0, 0))).heap[x3.heap.size]? = some (.cells #[.int .i64 0] 3 (0, 0)) := World.alloc_heap_new _ _
              have hL := hHeld.size
              generalize x3.alloc (.cells #[.int .i64 0] 3 (0, 0)) = x4 at hb hN ⊢
              have hHeld2 := below_then hHeld hHeld.size hb
              refine hK.out _ _ hHeld2 (fun hHeld => ?_)
              clear hHeld2
              replace SV : Aside (Kd.S k59 59 x4 sb (fun k => sb ≤ k) sv l0) := Kd.S_below SV.out hb
              replace N5 : Aside (x4.heap[s5]? = some (.cells #[.slice none 0 0] 25 (0, 0))) := blk_below N5.out hb
              generalize x3.heap.size = s6 at hN hL ⊢
              have N6 : Aside (x4.heap[s6]? = some (.cells #[.int .i64 0] 3 (0, 0))) := hN
              have L6 : Aside (W.heap.size ≤ s6) := hL
              clear hN hL hb hK K
              refine norm_ (a' := ?_) ?_ ?_
              rotate_left
              · show Act.put _ (some 16) _ = _
                simp only [Act.put, List.setIfInBounds_toArray, List.set_cons_zero, List.set_cons_succ]
                rfl
              exact norm_ (by simp only [putAll, Act.put, List.setIfInBounds_toArray, List.set_cons_zero, List.set_cons_succ]) (hCont (sv, sb, s5, s6) _ ⟨hHeld, SV.out, SB.out, N5.out, L5.out, N6.out, L6.out⟩)
            · skip
              refine value_ (v := .pointer (some ⟨x2.heap.size, 0, none⟩)) (w1 := x2.alloc (.cells #[.int .i64 0] 3 (0, 0))) (by rfl) rfl (by first | (go_simp; done) | (go_simp; rfl)) ?_
              have hb : Below x2.heap.size x2 (x2.alloc (.cells #[.int .i64 0] 3 (0, 0))) := below_alloc (Below.refl _ _) _
              have hN : (x2.alloc (.cells #[.int .i64 0] 3 (0, 0))).heap[x2.heap.size]? = some (.cells #[.int .i64 0] 3 (0, 0)) := World.alloc_heap_new _ _
              have hL := hHeld.size
              generalize x2.alloc (.cells #[.int .i64 0] 3 (0, 0)) = x3 at hb hN ⊢
              have hHeld2 := below_then hHeld hHeld.size hb
              refine hK.out _ _ hHeld2 (fun hHeld => ?_)
              clear hHeld2
              replace SV : Aside (Kd.S k59 59 x3 sb (fun k => sb ≤ k) sv l0) := Kd.S_below SV.out hb
              generalize x2.heap.size = s6 at hN hL ⊢
              have N6 : Aside (x3.heap[s6]? = some (.cells #[.int .i64 0] 3 (0, 0))) := hN
              have L6 : Aside (W.heap.size ≤ s6) := hL
              clear hN hL hb hK K
              refine norm_ (a' := ?_) ?_ ?_
              rotate_left
              · show Act.put _ (some 16) _ = _
                simp only [Act.put, List.setIfInBounds_toArray, List.set_cons_zero, List.set_cons_succ]
                rfl
              refine one_ (i := 5) (N := some 15) #[true, true, true, true, true, true, true, false, false] rfl rfl (one_of HT_.out (by kernel_rfl)) (by decide) (fun K hK => ?_)
              refine value_ (v := .pointer (some ⟨x3.heap.size, 0, none⟩)) (w1 := x3.alloc (.cells #[.slice none 0 0] 25 (0, 0))) (by rfl) rfl (by first | (go_simp; done) | (go_simp; rfl)) ?_
              have hb : Below x3.heap.size x3 (x3.alloc (.cells #[.slice none 0 0] 25 (0, 0))) := below_alloc (Below.refl _ _) _
              have hN : (x3.alloc (.cells #[.slice none 0 0] 25 (0, 0))).heap[x3.heap.size]? = some (.cells #[.slice none 0 0] 25 (0, 0)) := World.alloc_heap_new _ _
              have hL := hHeld.size
              generalize x3.alloc (.cells #[.slice none 0 0] 25 (0, 0)) = x4 at hb hN ⊢
              have hHeld2 := below_then hHeld hHeld.size hb
              refine hK.out _ _ hHeld2 (fun hHeld => ?_)
              clear hHeld2
              replace SV : Aside (Kd.S k59 59 x4 sb (fun k => sb ≤ k) sv l0) := Kd.S_below SV.out hb
              replace N6 : Aside (x4.heap[s6]? = some (.cells #[.int .i64 0] 3 (0, 0))) := blk_below N6.out hb
              generalize x3.heap.size = s5 at hN hL ⊢
              have N5 : Aside (x4.heap[s5]? = some (.cells #[.slice none 0 0] 25 (0, 0))) := hN
              have L5 : Aside (W.heap.size ≤ s5) := hL
              clear hN hL hb hK K
              refine norm_ (a' := ?_) ?_ ?_
              rotate_left
              · show Act.put _ (some 15) _ = _
                simp only [Act.put, List.setIfInBounds_toArray, List.set_cons_zero, List.set_cons_succ]
                rfl
              exact norm_ (by simp only [putAll, Act.put, List.setIfInBounds_toArray, List.set_cons_zero, List.set_cons_succ]) (hCont (sv, sb, s5, s6) _ ⟨hHeld, SV.out, SB.out, N5.out, L5.out, N6.out, L6.out⟩)
          · skip
            refine value_ (v := .pointer (some ⟨x1.heap.size, 0, none⟩)) (w1 := x1.alloc (.cells #[.slice none 0 0] 25 (0, 0))) (by rfl) rfl (by first | (go_simp; done) | (go_simp; rfl)) ?_
            have hb : Below x1.heap.size x1 (x1.alloc (.cells #[.slice none 0 0] 25 (0, 0))) := below_alloc (Below.refl _ _) _
            have hN : (x1.alloc (.cells #[.slice none 0 0] 25 (0, 0))).heap[x1.heap.size]? = some (.cells #[.slice none 0 0] 25 (0, 0)) := World.alloc_heap_new _ _
            have hL := hHeld.size
            generalize x1.alloc (.cells #[.slice none 0 0] 25 (0, 0)) = x2 at hb hN ⊢
            have hHeld2 := below_then hHeld hHeld.size hb
            refine hK.out _ _ hHeld2 (fun hHeld => ?_)
            clear hHeld2
            replace SV : Aside (Kd.S k59 59 x2 sb (fun k => sb ≤ k) sv l0) := Kd.S_below SV.out hb
            generalize x1.heap.size = s5 at hN hL ⊢
            have N5 : Aside (x2.heap[s5]? = some (.cells #[.slice none 0 0] 25 (0, 0))) := hN
            have L5 : Aside (W.heap.size ≤ s5) := hL
            clear hN hL hb hK K
            refine norm_ (a' := ?_) ?_ ?_
            rotate_left
            · show Act.put _ (some 15) _ = _
              simp only [Act.put, List.setIfInBounds_toArray, List.set_cons_zero, List.set_cons_succ]
              rfl
            refine two_ (i := 4) (j := 6) (Ni := some 56) (Nj := some 16) #[true, true, true, true, true, true, false, false, false] #[true, true, true, true, false, true, true, false, false] rfl rfl rfl rfl (two_of HT_.out (by kernel_rfl)) (by decide) (by decide) (fun K hK => ?_) (fun K hK => ?_)
            · skip
              refine goes_ Try.func15 (by kernel_rfl) rfl #[.agg #[.int .i64 a0, .int .i64 a1, .int .i64 a2, .int .i64 a3, .int .i64 a4, .int .i64 a5], .int .i64 wd] (by rfl) rfl rfl (by (try simp only [List.map_toArray, List.map_cons, List.map_nil]); first | done | rfl) ?_
              refine (GC.out _).mono ?_
              rintro e x3 ⟨rfl, hb⟩
              refine ⟨_, rfl, ?_⟩
              refine hK.out _ _ (below_then hHeld hHeld.size hb) (fun hHeld => ?_)
              replace SV : Aside (Kd.S k59 59 x3 sb (fun k => sb ≤ k) sv l0) := Kd.S_below SV.out hb
              replace N5 : Aside (x3.heap[s5]? = some (.cells #[.slice none 0 0] 25 (0, 0))) := blk_below N5.out hb
              clear hb hK K
              refine norm_ (a' := ?_) ?_ ?_
              rotate_left
              · show Act.put _ (some 56) _ = _
                simp only [Act.put, List.setIfInBounds_toArray, List.set_cons_zero, List.set_cons_succ]
                rfl
              refine one_ (i := 6) (N := some 16) #[true, true, true, true, true, true, true, false, false] rfl rfl (one_of HT_.out (by kernel_rfl)) (by decide) (fun K hK => ?_)
              refine value_ (v := .pointer (some ⟨x3.heap.size, 0, none⟩)) (w1 := x3.alloc (.cells #[.int .i64 0] 3 (0, 0))) (by rfl) rfl (by first | (go_simp; done) | (go_simp; rfl)) ?_
              have hb : Below x3.heap.size x3 (x3.alloc (.cells #[.int .i64 0] 3 (0, 0))) := below_alloc (Below.refl _ _) _
              have hN : (x3.alloc (.cells #[.int .i64 0] 3 (0, 0))).heap[x3.heap.size]? = some (.cells #[.int .i64 0] 3 (0, 0)) := World.alloc_heap_new _ _
              have hL := hHeld.size
              generalize x3.alloc (.cells #[.int .i64 0] 3 (0, 0)) = x4 at hb hN ⊢
              have hHeld2 := below_then hHeld hHeld.size hb
              refine hK.out _ _ hHeld2 (fun hHeld => ?_)
              clear hHeld2
              replace SV : Aside (Kd.S k59 59 x4 sb (fun k => sb ≤ k) sv l0) := Kd.S_below SV.out hb
              replace N5 : Aside (x4.heap[s5]? = some (.cells #[.slice none 0 0] 25 (0, 0))) := blk_below N5.out hb
              generalize x3.heap.size = s6 at hN hL ⊢
              have N6 : Aside (x4.heap[s6]? = some (.cells #[.int .i64 0] 3 (0, 0))) := hN
              have L6 : Aside (W.heap.size ≤ s6) := hL
              clear hN hL hb hK K
              refine norm_ (a' := ?_) ?_ ?_
              rotate_left
              · show Act.put _ (some 16) _ = _
                simp only [Act.put, List.setIfInBounds_toArray, List.set_cons_zero, List.set_cons_succ]
                rfl
              exact norm_ (by simp only [putAll, Act.put, List.setIfInBounds_toArray, List.set_cons_zero, List.set_cons_succ]) (hCont (sv, sb, s5, s6) _ ⟨hHeld, SV.out, SB.out, N5.out, L5.out, N6.out, L6.out⟩)
            · skip
              refine value_ (v := .pointer (some ⟨x2.heap.size, 0, none⟩)) (w1 := x2.alloc (.cells #[.int .i64 0] 3 (0, 0))) (by rfl) rfl (by first | (go_simp; done) | (go_simp; rfl)) ?_
              have hb : Below x2.heap.size x2 (x2.alloc (.cells #[.int .i64 0] 3 (0, 0))) := below_alloc (Below.refl _ _) _
              have hN : (x2.alloc (.cells #[.int .i64 0] 3 (0, 0))).heap[x2.heap.size]? = some (.cells #[.int .i64 0] 3 (0, 0)) := World.alloc_heap_new _ _
              have hL := hHeld.size
              generalize x2.alloc (.cells #[.int .i64 0] 3 (0, 0)) = x3 at hb hN ⊢
              have hHeld2 := below_then hHeld hHeld.size hb
              refine hK.out _ _ hHeld2 (fun hHeld => ?_)
              clear hHeld2
              replace SV : Aside (Kd.S k59 59 x3 sb (fun k => sb ≤ k) sv l0) := Kd.S_below SV.out hb
              replace N5 : Aside (x3.heap[s5]? = some (.cells #[.slice none 0 0] 25 (0, 0))) := blk_below N5.out hb
              generalize x2.heap.size = s6 at hN hL ⊢
              have N6 : Aside (x3.heap[s6]? = some (.cells #[.int .i64 0] 3 (0, 0))) := hN
              have L6 : Aside (W.heap.size ≤ s6) := hL
              clear hN hL hb hK K
              refine norm_ (a' := ?_) ?_ ?_
              rotate_left
              · show Act.put _ (some 16) _ = _
                simp only [Act.put, List.setIfInBounds_toArray, List.set_cons_zero, List.set_cons_succ]
                rfl
              refine one_ (i := 4) (N := some 56) #[true, true, true, true, true, true, true, false, false] rfl rfl (one_of HT_.out (by kernel_rfl)) (by decide) (fun K hK => ?_)
              refine goes_ Try.func15 (by kernel_rfl) rfl #[.agg #[.int .i64 a0, .int .i64 a1, .int .i64 a2, .int .i64 a3, .int .i64 a4, .int .i64 a5], .int .i64 wd] (by rfl) rfl rfl (by (try simp only [List.map_toArray, List.map_cons, List.map_nil]); first | done | rfl) ?_
              refine (GC.out _).mono ?_
              rintro e x4 ⟨rfl, hb⟩
              refine ⟨_, rfl, ?_⟩
              refine hK.out _ _ (below_then hHeld hHeld.size hb) (fun hHeld => ?_)
              replace SV : Aside (Kd.S k59 59 x4 sb (fun k => sb ≤ k) sv l0) := Kd.S_below SV.out hb
              replace N5 : Aside (x4.heap[s5]? = some (.cells #[.slice none 0 0] 25 (0, 0))) := blk_below N5.out hb
              replace N6 : Aside (x4.heap[s6]? = some (.cells #[.int .i64 0] 3 (0, 0))) := blk_below N6.out hb
              clear hb hK K
              refine norm_ (a' := ?_) ?_ ?_
              rotate_left
              · show Act.put _ (some 56) _ = _
                simp only [Act.put, List.setIfInBounds_toArray, List.set_cons_zero, List.set_cons_succ]
                rfl
              exact norm_ (by simp only [putAll, Act.put, List.setIfInBounds_toArray, List.set_cons_zero, List.set_cons_succ]) (hCont (sv, sb, s5, s6) _ ⟨hHeld, SV.out, SB.out, N5.out, L5.out, N6.out, L6.out⟩)
          · skip
            refine value_ (v := .pointer (some ⟨x1.heap.size, 0, none⟩)) (w1 := x1.alloc (.cells #[.int .i64 0] 3 (0, 0))) (by rfl) rfl (by first | (go_simp; done) | (go_simp; rfl)) ?_
            have hb : Below x1.heap.size x1 (x1.alloc (.cells #[.int .i64 0] 3 (0, 0))) := below_alloc (Below.refl _ _) _
            have hN : (x1.alloc (.cells #[.int .i64 0] 3 (0, 0))).heap[x1.heap.size]? = some (.cells #[.int .i64 0] 3 (0, 0)) := World.alloc_heap_new _ _
            have hL := hHeld.size
            generalize x1.alloc (.cells #[.int .i64 0] 3 (0, 0)) = x2 at hb hN ⊢
            have hHeld2 := below_then hHeld hHeld.size hb
            refine hK.out _ _ hHeld2 (fun hHeld => ?_)
            clear hHeld2
            replace SV : Aside (Kd.S k59 59 x2 sb (fun k => sb ≤ k) sv l0) := Kd.S_below SV.out hb
            generalize x1.heap.size = s6 at hN hL ⊢
            have N6 : Aside (x2.heap[s6]? = some (.cells #[.int .i64 0] 3 (0, 0))) := hN
            have L6 : Aside (W.heap.size ≤ s6) := hL
            clear hN hL hb hK K
            refine norm_ (a' := ?_) ?_ ?_
            rotate_left
            · show Act.put _ (some 16) _ = _
              simp only [Act.put, List.setIfInBounds_toArray, List.set_cons_zero, List.set_cons_succ]
              rfl
            refine two_ (i := 4) (j := 5) (Ni := some 56) (Nj := some 15) #[true, true, true, true, true, false, true, false, false] #[true, true, true, true, false, true, true, false, false] rfl rfl rfl rfl (two_of HT_.out (by kernel_rfl)) (by decide) (by decide) (fun K hK => ?_) (fun K hK => ?_)
            · skip
              refine goes_ Try.func15 (by kernel_rfl) rfl #[.agg #[.int .i64 a0, .int .i64 a1, .int .i64 a2, .int .i64 a3, .int .i64 a4, .int .i64 a5], .int .i64 wd] (by rfl) rfl rfl (by (try simp only [List.map_toArray, List.map_cons, List.map_nil]); first | done | rfl) ?_
              refine (GC.out _).mono ?_
              rintro e x3 ⟨rfl, hb⟩
              refine ⟨_, rfl, ?_⟩
              refine hK.out _ _ (below_then hHeld hHeld.size hb) (fun hHeld => ?_)
              replace SV : Aside (Kd.S k59 59 x3 sb (fun k => sb ≤ k) sv l0) := Kd.S_below SV.out hb
              replace N6 : Aside (x3.heap[s6]? = some (.cells #[.int .i64 0] 3 (0, 0))) := blk_below N6.out hb
              clear hb hK K
              refine norm_ (a' := ?_) ?_ ?_
              rotate_left
              · show Act.put _ (some 56) _ = _
                simp only [Act.put, List.setIfInBounds_toArray, List.set_cons_zero, List.set_cons_succ]
                rfl
              refine one_ (i := 5) (N := some 15) #[true, true, true, true, true, true, true, false, false] rfl rfl (one_of HT_.out (by kernel_rfl)) (by decide) (fun K hK => ?_)
              refine value_ (v := .pointer (some ⟨x3.heap.size, 0, none⟩)) (w1 := x3.alloc (.cells #[.slice none 0 0] 25 (0, 0))) (by rfl) rfl (by first | (go_simp; done) | (go_simp; rfl)) ?_
              have hb : Below x3.heap.size x3 (x3.alloc (.cells #[.slice none 0 0] 25 (0, 0))) := below_alloc (Below.refl _ _) _
              have hN : (x3.alloc (.cells #[.slice none 0 0] 25 (0, 0))).heap[x3.heap.size]? = some (.cells #[.slice none 0 0] 25 (0, 0)) := World.alloc_heap_new _ _
              have hL := hHeld.size
              generalize x3.alloc (.cells #[.slice none 0 0] 25 (0, 0)) = x4 at hb hN ⊢
              have hHeld2 := below_then hHeld hHeld.size hb
              refine hK.out _ _ hHeld2 (fun hHeld => ?_)
              clear hHeld2
              replace SV : Aside (Kd.S k59 59 x4 sb (fun k => sb ≤ k) sv l0) := Kd.S_below SV.out hb
              replace N6 : Aside (x4.heap[s6]? = some (.cells #[.int .i64 0] 3 (0, 0))) := blk_below N6.out hb
              generalize x3.heap.size = s5 at hN hL ⊢
              have N5 : Aside (x4.heap[s5]? = some (.cells #[.slice none 0 0] 25 (0, 0))) := hN
              have L5 : Aside (W.heap.size ≤ s5) := hL
              clear hN hL hb hK K
              refine norm_ (a' := ?_) ?_ ?_
              rotate_left
              · show Act.put _ (some 15) _ = _
                simp only [Act.put, List.setIfInBounds_toArray, List.set_cons_zero, List.set_cons_succ]
                rfl
              exact norm_ (by simp only [putAll, Act.put, List.setIfInBounds_toArray, List.set_cons_zero, List.set_cons_succ]) (hCont (sv, sb, s5, s6) _ ⟨hHeld, SV.out, SB.out, N5.out, L5.out, N6.out, L6.out⟩)
            · skip
              refine value_ (v := .pointer (some ⟨x2.heap.size, 0, none⟩)) (w1 := x2.alloc (.cells #[.slice none 0 0] 25 (0, 0))) (by rfl) rfl (by first | (go_simp; done) | (go_simp; rfl)) ?_
              have hb : Below x2.heap.size x2 (x2.alloc (.cells #[.slice none 0 0] 25 (0, 0))) := below_alloc (Below.refl _ _) _
              have hN : (x2.alloc (.cells #[.slice none 0 0] 25 (0, 0))).heap[x2.heap.size]? = some (.cells #[.slice none 0 0] 25 (0, 0)) := World.alloc_heap_new _ _
              have hL := hHeld.size
              generalize x2.alloc (.cells #[.slice none 0 0] 25 (0, 0)) = x3 at hb hN ⊢
              have hHeld2 := below_then hHeld hHeld.size hb
              refine hK.out _ _ hHeld2 (fun hHeld => ?_)
              clear hHeld2
              replace SV : Aside (Kd.S k59 59 x3 sb (fun k => sb ≤ k) sv l0) := Kd.S_below SV.out hb
              replace N6 : Aside (x3.heap[s6]? = some (.cells #[.int .i64 0] 3 (0, 0))) := blk_below N6.out hb
              generalize x2.heap.size = s5 at hN hL ⊢
              have N5 : Aside (x3.heap[s5]? = some (.cells #[.slice none 0 0] 25 (0, 0))) := hN
              have L5 : Aside (W.heap.size ≤ s5) := hL
              clear hN hL hb hK K
              refine norm_ (a' := ?_) ?_ ?_
              rotate_left
              · show Act.put _ (some 15) _ = _
                simp only [Act.put, List.setIfInBounds_toArray, List.set_cons_zero, List.set_cons_succ]
                rfl
              refine one_ (i := 4) (N := some 56) #[true, true, true, true, true, true, true, false, false] rfl rfl (one_of HT_.out (by kernel_rfl)) (by decide) (fun K hK => ?_)
              refine goes_ Try.func15 (by kernel_rfl) rfl #[.agg #[.int .i64 a0, .int .i64 a1, .int .i64 a2, .int .i64 a3, .int .i64 a4, .int .i64 a5], .int .i64 wd] (by rfl) rfl rfl (by (try simp only [List.map_toArray, List.map_cons, List.map_nil]); first | done | rfl) ?_
              refine (GC.out _).mono ?_
              rintro e x4 ⟨rfl, hb⟩
              refine ⟨_, rfl, ?_⟩
              refine hK.out _ _ (below_then hHeld hHeld.size hb) (fun hHeld => ?_)
              replace SV : Aside (Kd.S k59 59 x4 sb (fun k => sb ≤ k) sv l0) := Kd.S_below SV.out hb
              replace N6 : Aside (x4.heap[s6]? = some (.cells #[.int .i64 0] 3 (0, 0))) := blk_below N6.out hb
              replace N5 : Aside (x4.heap[s5]? = some (.cells #[.slice none 0 0] 25 (0, 0))) := blk_below N5.out hb
              clear hb hK K
              refine norm_ (a' := ?_) ?_ ?_
              rotate_left
              · show Act.put _ (some 56) _ = _
                simp only [Act.put, List.setIfInBounds_toArray, List.set_cons_zero, List.set_cons_succ]
                rfl
              exact norm_ (by simp only [putAll, Act.put, List.setIfInBounds_toArray, List.set_cons_zero, List.set_cons_succ]) (hCont (sv, sb, s5, s6) _ ⟨hHeld, SV.out, SB.out, N5.out, L5.out, N6.out, L6.out⟩)
        · skip
          refine value_ (v := .pointer (some ⟨x0.heap.size, 0, none⟩)) (w1 := x0.alloc (.cells #[.slice none 0 0] 25 (0, 0))) (by rfl) rfl (by first | (go_simp; done) | (go_simp; rfl)) ?_
          have hb : Below x0.heap.size x0 (x0.alloc (.cells #[.slice none 0 0] 25 (0, 0))) := below_alloc (Below.refl _ _) _
          have hN : (x0.alloc (.cells #[.slice none 0 0] 25 (0, 0))).heap[x0.heap.size]? = some (.cells #[.slice none 0 0] 25 (0, 0)) := World.alloc_heap_new _ _
          have hL := hHeld.size
          generalize x0.alloc (.cells #[.slice none 0 0] 25 (0, 0)) = x1 at hb hN ⊢
          have hHeld2 := below_then hHeld hHeld.size hb
          refine hK.out _ _ hHeld2 (fun hHeld => ?_)
          clear hHeld2
          generalize x0.heap.size = s5 at hN hL ⊢
          have N5 : Aside (x1.heap[s5]? = some (.cells #[.slice none 0 0] 25 (0, 0))) := hN
          have L5 : Aside (W.heap.size ≤ s5) := hL
          clear hN hL hb hK K
          refine norm_ (a' := ?_) ?_ ?_
          rotate_left
          · show Act.put _ (some 15) _ = _
            simp only [Act.put, List.setIfInBounds_toArray, List.set_cons_zero, List.set_cons_succ]
            rfl
          refine two_ (i := 1) (j := 6) (Ni := some 53) (Nj := some 16) #[true, true, true, true, false, true, false, false, false] #[true, false, true, true, false, true, true, false, false] rfl rfl rfl rfl (two_of HT_.out (by kernel_rfl)) (by decide) (by decide) (fun K hK => ?_) (fun K hK => ?_)
          · skip
            refine goes_ Try.func24 (by kernel_rfl) rfl #[.slice A len cap] (by rfl) rfl rfl (by (try simp only [List.map_toArray, List.map_cons, List.map_nil]); first | done | rfl) ?_
            refine (CP.out _ hHeld).mono ?_
            rintro e x2 ⟨sv, rfl, hS, hb⟩
            refine ⟨_, rfl, ?_⟩
            have SB : Aside (W.heap.size ≤ x1.heap.size) := hHeld.size
            obtain ⟨sb, hsb⟩ : ∃ sb, sb = x1.heap.size := ⟨_, rfl⟩
            rw [← hsb] at SB hS
            clear hsb
            have SV : Aside (Kd.S k59 59 x2 sb (fun k => sb ≤ k) sv l0) := hS
            clear hS
            refine hK.out _ _ (below_then hHeld hHeld.size hb) (fun hHeld => ?_)
            replace N5 : Aside (x2.heap[s5]? = some (.cells #[.slice none 0 0] 25 (0, 0))) := blk_below N5.out hb
            clear hb hK K
            refine norm_ (a' := ?_) ?_ ?_
            rotate_left
            · show Act.put _ (some 53) _ = _
              simp only [Act.put, List.setIfInBounds_toArray, List.set_cons_zero, List.set_cons_succ]
              rfl
            refine two_ (i := 4) (j := 6) (Ni := some 56) (Nj := some 16) #[true, true, true, true, true, true, false, false, false] #[true, true, true, true, false, true, true, false, false] rfl rfl rfl rfl (two_of HT_.out (by kernel_rfl)) (by decide) (by decide) (fun K hK => ?_) (fun K hK => ?_)
            · skip
              refine goes_ Try.func15 (by kernel_rfl) rfl #[.agg #[.int .i64 a0, .int .i64 a1, .int .i64 a2, .int .i64 a3, .int .i64 a4, .int .i64 a5], .int .i64 wd] (by rfl) rfl rfl (by (try simp only [List.map_toArray, List.map_cons, List.map_nil]); first | done | rfl) ?_
              refine (GC.out _).mono ?_
              rintro e x3 ⟨rfl, hb⟩
              refine ⟨_, rfl, ?_⟩
              refine hK.out _ _ (below_then hHeld hHeld.size hb) (fun hHeld => ?_)
              replace N5 : Aside (x3.heap[s5]? = some (.cells #[.slice none 0 0] 25 (0, 0))) := blk_below N5.out hb
              replace SV : Aside (Kd.S k59 59 x3 sb (fun k => sb ≤ k) sv l0) := Kd.S_below SV.out hb
              clear hb hK K
              refine norm_ (a' := ?_) ?_ ?_
              rotate_left
              · show Act.put _ (some 56) _ = _
                simp only [Act.put, List.setIfInBounds_toArray, List.set_cons_zero, List.set_cons_succ]
                rfl
              refine one_ (i := 6) (N := some 16) #[true, true, true, true, true, true, true, false, false] rfl rfl (one_of HT_.out (by kernel_rfl)) (by decide) (fun K hK => ?_)
              refine value_ (v := .pointer (some ⟨x3.heap.size, 0, none⟩)) (w1 := x3.alloc (.cells #[.int .i64 0] 3 (0, 0))) (by rfl) rfl (by first | (go_simp; done) | (go_simp; rfl)) ?_
              have hb : Below x3.heap.size x3 (x3.alloc (.cells #[.int .i64 0] 3 (0, 0))) := below_alloc (Below.refl _ _) _
              have hN : (x3.alloc (.cells #[.int .i64 0] 3 (0, 0))).heap[x3.heap.size]? = some (.cells #[.int .i64 0] 3 (0, 0)) := World.alloc_heap_new _ _
              have hL := hHeld.size
              generalize x3.alloc (.cells #[.int .i64 0] 3 (0, 0)) = x4 at hb hN ⊢
              have hHeld2 := below_then hHeld hHeld.size hb
              refine hK.out _ _ hHeld2 (fun hHeld => ?_)
              clear hHeld2
              replace N5 : Aside (x4.heap[s5]? = some (.cells #[.slice none 0 0] 25 (0, 0))) := blk_below N5.out hb
              replace SV : Aside (Kd.S k59 59 x4 sb (fun k => sb ≤ k) sv l0) := Kd.S_below SV.out hb
              generalize x3.heap.size = s6 at hN hL ⊢
              have N6 : Aside (x4.heap[s6]? = some (.cells #[.int .i64 0] 3 (0, 0))) := hN
              have L6 : Aside (W.heap.size ≤ s6) := hL
              clear hN hL hb hK K
              refine norm_ (a' := ?_) ?_ ?_
              rotate_left
              · show Act.put _ (some 16) _ = _
                simp only [Act.put, List.setIfInBounds_toArray, List.set_cons_zero, List.set_cons_succ]
                rfl
              exact norm_ (by simp only [putAll, Act.put, List.setIfInBounds_toArray, List.set_cons_zero, List.set_cons_succ]) (hCont (sv, sb, s5, s6) _ ⟨hHeld, SV.out, SB.out, N5.out, L5.out, N6.out, L6.out⟩)
            · skip
              refine value_ (v := .pointer (some ⟨x2.heap.size, 0, none⟩)) (w1 := x2.alloc (.cells #[.int .i64 0] 3 (0, 0))) (by rfl) rfl (by first | (go_simp; done) | (go_simp; rfl)) ?_
              have hb : Below x2.heap.size x2 (x2.alloc (.cells #[.int .i64 0] 3 (0, 0))) := below_alloc (Below.refl _ _) _
              have hN : (x2.alloc (.cells #[.int .i64 0] 3 (0, 0))).heap[x2.heap.size]? = some (.cells #[.int .i64 0] 3 (0, 0)) := World.alloc_heap_new _ _
              have hL := hHeld.size
              generalize x2.alloc (.cells #[.int .i64 0] 3 (0, 0)) = x3 at hb hN ⊢
              have hHeld2 := below_then hHeld hHeld.size hb
              refine hK.out _ _ hHeld2 (fun hHeld => ?_)
              clear hHeld2
              replace N5 : Aside (x3.heap[s5]? = some (.cells #[.slice none 0 0] 25 (0, 0))) := blk_below N5.out hb
              replace SV : Aside (Kd.S k59 59 x3 sb (fun k => sb ≤ k) sv l0) := Kd.S_below SV.out hb
              generalize x2.heap.size = s6 at hN hL ⊢
              have N6 : Aside (x3.heap[s6]? = some (.cells #[.int .i64 0] 3 (0, 0))) := hN
              have L6 : Aside (W.heap.size ≤ s6) := hL
              clear hN hL hb hK K
              refine norm_ (a' := ?_) ?_ ?_
              rotate_left
              · show Act.put _ (some 16) _ = _
                simp only [Act.put, List.setIfInBounds_toArray, List.set_cons_zero, List.set_cons_succ]
                rfl
              refine one_ (i := 4) (N := some 56) #[true, true, true, true, true, true, true, false, false] rfl rfl (one_of HT_.out (by kernel_rfl)) (by decide) (fun K hK => ?_)
              refine goes_ Try.func15 (by kernel_rfl) rfl #[.agg #[.int .i64 a0, .int .i64 a1, .int .i64 a2, .int .i64 a3, .int .i64 a4, .int .i64 a5], .int .i64 wd] (by rfl) rfl rfl (by (try simp only [List.map_toArray, List.map_cons, List.map_nil]); first | done | rfl) ?_
              refine (GC.out _).mono ?_
              rintro e x4 ⟨rfl, hb⟩
              refine ⟨_, rfl, ?_⟩
              refine hK.out _ _ (below_then hHeld hHeld.size hb) (fun hHeld => ?_)
              replace N5 : Aside (x4.heap[s5]? = some (.cells #[.slice none 0 0] 25 (0, 0))) := blk_below N5.out hb
              replace SV : Aside (Kd.S k59 59 x4 sb (fun k => sb ≤ k) sv l0) := Kd.S_below SV.out hb
              replace N6 : Aside (x4.heap[s6]? = some (.cells #[.int .i64 0] 3 (0, 0))) := blk_below N6.out hb
              clear hb hK K
              refine norm_ (a' := ?_) ?_ ?_
              rotate_left
              · show Act.put _ (some 56) _ = _
                simp only [Act.put, List.setIfInBounds_toArray, List.set_cons_zero, List.set_cons_succ]
                rfl
              exact norm_ (by simp only [putAll, Act.put, List.setIfInBounds_toArray, List.set_cons_zero, List.set_cons_succ]) (hCont (sv, sb, s5, s6) _ ⟨hHeld, SV.out, SB.out, N5.out, L5.out, N6.out, L6.out⟩)
          · skip
            refine value_ (v := .pointer (some ⟨x1.heap.size, 0, none⟩)) (w1 := x1.alloc (.cells #[.int .i64 0] 3 (0, 0))) (by rfl) rfl (by first | (go_simp; done) | (go_simp; rfl)) ?_
            have hb : Below x1.heap.size x1 (x1.alloc (.cells #[.int .i64 0] 3 (0, 0))) := below_alloc (Below.refl _ _) _
            have hN : (x1.alloc (.cells #[.int .i64 0] 3 (0, 0))).heap[x1.heap.size]? = some (.cells #[.int .i64 0] 3 (0, 0)) := World.alloc_heap_new _ _
            have hL := hHeld.size
            generalize x1.alloc (.cells #[.int .i64 0] 3 (0, 0)) = x2 at hb hN ⊢
            have hHeld2 := below_then hHeld hHeld.size hb
            refine hK.out _ _ hHeld2 (fun hHeld => ?_)
            clear hHeld2
            replace N5 : Aside (x2.heap[s5]? = some (.cells #[.slice none 0 0] 25 (0, 0))) := blk_below N5.out hb
            generalize x1.heap.size = s6 at hN hL ⊢
            have N6 : Aside (x2.heap[s6]? = some (.cells #[.int .i64 0] 3 (0, 0))) := hN
            have L6 : Aside (W.heap.size ≤ s6) := hL
            clear hN hL hb hK K
            refine norm_ (a' := ?_) ?_ ?_
            rotate_left
            · show Act.put _ (some 16) _ = _
              simp only [Act.put, List.setIfInBounds_toArray, List.set_cons_zero, List.set_cons_succ]
              rfl
            refine one_ (i := 1) (N := some 53) #[true, true, true, true, false, true, true, false, false] rfl rfl (one_of HT_.out (by kernel_rfl)) (by decide) (fun K hK => ?_)
            refine goes_ Try.func24 (by kernel_rfl) rfl #[.slice A len cap] (by rfl) rfl rfl (by (try simp only [List.map_toArray, List.map_cons, List.map_nil]); first | done | rfl) ?_
            refine (CP.out _ hHeld).mono ?_
            rintro e x3 ⟨sv, rfl, hS, hb⟩
            refine ⟨_, rfl, ?_⟩
            have SB : Aside (W.heap.size ≤ x2.heap.size) := hHeld.size
            obtain ⟨sb, hsb⟩ : ∃ sb, sb = x2.heap.size := ⟨_, rfl⟩
            rw [← hsb] at SB hS
            clear hsb
            have SV : Aside (Kd.S k59 59 x3 sb (fun k => sb ≤ k) sv l0) := hS
            clear hS
            refine hK.out _ _ (below_then hHeld hHeld.size hb) (fun hHeld => ?_)
            replace N5 : Aside (x3.heap[s5]? = some (.cells #[.slice none 0 0] 25 (0, 0))) := blk_below N5.out hb
            replace N6 : Aside (x3.heap[s6]? = some (.cells #[.int .i64 0] 3 (0, 0))) := blk_below N6.out hb
            clear hb hK K
            refine norm_ (a' := ?_) ?_ ?_
            rotate_left
            · show Act.put _ (some 53) _ = _
              simp only [Act.put, List.setIfInBounds_toArray, List.set_cons_zero, List.set_cons_succ]
              rfl
            refine one_ (i := 4) (N := some 56) #[true, true, true, true, true, true, true, false, false] rfl rfl (one_of HT_.out (by kernel_rfl)) (by decide) (fun K hK => ?_)
            refine goes_ Try.func15 (by kernel_rfl) rfl #[.agg #[.int .i64 a0, .int .i64 a1, .int .i64 a2, .int .i64 a3, .int .i64 a4, .int .i64 a5], .int .i64 wd] (by rfl) rfl rfl (by (try simp only [List.map_toArray, List.map_cons, List.map_nil]); first | done | rfl) ?_
            refine (GC.out _).mono ?_
            rintro e x4 ⟨rfl, hb⟩
            refine ⟨_, rfl, ?_⟩
            refine hK.out _ _ (below_then hHeld hHeld.size hb) (fun hHeld => ?_)
            replace N5 : Aside (x4.heap[s5]? = some (.cells #[.slice none 0 0] 25 (0, 0))) := blk_below N5.out hb
            replace N6 : Aside (x4.heap[s6]? = some (.cells #[.int .i64 0] 3 (0, 0))) := blk_below N6.out hb
            replace SV : Aside (Kd.S k59 59 x4 sb (fun k => sb ≤ k) sv l0) := Kd.S_below SV.out hb
            clear hb hK K
            refine norm_ (a' := ?_) ?_ ?_
            rotate_left
            · show Act.put _ (some 56) _ = _
              simp only [Act.put, List.setIfInBounds_toArray, List.set_cons_zero, List.set_cons_succ]
              rfl
            exact norm_ (by simp only [putAll, Act.put, List.setIfInBounds_toArray, List.set_cons_zero, List.set_cons_succ]) (hCont (sv, sb, s5, s6) _ ⟨hHeld, SV.out, SB.out, N5.out, L5.out, N6.out, L6.out⟩)
        · skip
          refine value_ (v := .pointer (some ⟨x0.heap.size, 0, none⟩)) (w1 := x0.alloc (.cells #[.int .i64 0] 3 (0, 0))) (by rfl) rfl (by first | (go_simp; done) | (go_simp; rfl)) ?_
          have hb : Below x0.heap.size x0 (x0.alloc (.cells #[.int .i64 0] 3 (0, 0))) := below_alloc (Below.refl _ _) _
          have hN : (x0.alloc (.cells #[.int .i64 0] 3 (0, 0))).heap[x0.heap.size]? = some (.cells #[.int .i64 0] 3 (0, 0)) := World.alloc_heap_new _ _
          have hL := hHeld.size
          generalize x0.alloc (.cells #[.int .i64 0] 3 (0, 0)) = x1 at hb hN ⊢
          have hHeld2 := below_then hHeld hHeld.size hb
          refine hK.out _ _ hHeld2 (fun hHeld => ?_)
          clear hHeld2
          generalize x0.heap.size = s6 at hN hL ⊢
          have N6 : Aside (x1.heap[s6]? = some (.cells #[.int .i64 0] 3 (0, 0))) := hN
          have L6 : Aside (W.heap.size ≤ s6) := hL
          clear hN hL hb hK K
          refine norm_ (a' := ?_) ?_ ?_
          rotate_left
          · show Act.put _ (some 16) _ = _
            simp only [Act.put, List.setIfInBounds_toArray, List.set_cons_zero, List.set_cons_succ]
            rfl
          refine two_ (i := 1) (j := 5) (Ni := some 53) (Nj := some 15) #[true, true, true, true, false, false, true, false, false] #[true, false, true, true, false, true, true, false, false] rfl rfl rfl rfl (two_of HT_.out (by kernel_rfl)) (by decide) (by decide) (fun K hK => ?_) (fun K hK => ?_)
          · skip
            refine goes_ Try.func24 (by kernel_rfl) rfl #[.slice A len cap] (by rfl) rfl rfl (by (try simp only [List.map_toArray, List.map_cons, List.map_nil]); first | done | rfl) ?_
            refine (CP.out _ hHeld).mono ?_
            rintro e x2 ⟨sv, rfl, hS, hb⟩
            refine ⟨_, rfl, ?_⟩
            have SB : Aside (W.heap.size ≤ x1.heap.size) := hHeld.size
            obtain ⟨sb, hsb⟩ : ∃ sb, sb = x1.heap.size := ⟨_, rfl⟩
            rw [← hsb] at SB hS
            clear hsb
            have SV : Aside (Kd.S k59 59 x2 sb (fun k => sb ≤ k) sv l0) := hS
            clear hS
            refine hK.out _ _ (below_then hHeld hHeld.size hb) (fun hHeld => ?_)
            replace N6 : Aside (x2.heap[s6]? = some (.cells #[.int .i64 0] 3 (0, 0))) := blk_below N6.out hb
            clear hb hK K
            refine norm_ (a' := ?_) ?_ ?_
            rotate_left
            · show Act.put _ (some 53) _ = _
              simp only [Act.put, List.setIfInBounds_toArray, List.set_cons_zero, List.set_cons_succ]
              rfl
            refine two_ (i := 4) (j := 5) (Ni := some 56) (Nj := some 15) #[true, true, true, true, true, false, true, false, false] #[true, true, true, true, false, true, true, false, false] rfl rfl rfl rfl (two_of HT_.out (by kernel_rfl)) (by decide) (by decide) (fun K hK => ?_) (fun K hK => ?_)
            · skip
              refine goes_ Try.func15 (by kernel_rfl) rfl #[.agg #[.int .i64 a0, .int .i64 a1, .int .i64 a2, .int .i64 a3, .int .i64 a4, .int .i64 a5], .int .i64 wd] (by rfl) rfl rfl (by (try simp only [List.map_toArray, List.map_cons, List.map_nil]); first | done | rfl) ?_
              refine (GC.out _).mono ?_
              rintro e x3 ⟨rfl, hb⟩
              refine ⟨_, rfl, ?_⟩
              refine hK.out _ _ (below_then hHeld hHeld.size hb) (fun hHeld => ?_)
              replace N6 : Aside (x3.heap[s6]? = some (.cells #[.int .i64 0] 3 (0, 0))) := blk_below N6.out hb
              replace SV : Aside (Kd.S k59 59 x3 sb (fun k => sb ≤ k) sv l0) := Kd.S_below SV.out hb
              clear hb hK K
              refine norm_ (a' := ?_) ?_ ?_
              rotate_left
              · show Act.put _ (some 56) _ = _
                simp only [Act.put, List.setIfInBounds_toArray, List.set_cons_zero, List.set_cons_succ]
                rfl
              refine one_ (i := 5) (N := some 15) #[true, true, true, true, true, true, true, false, false] rfl rfl (one_of HT_.out (by kernel_rfl)) (by decide) (fun K hK => ?_)
              refine value_ (v := .pointer (some ⟨x3.heap.size, 0, none⟩)) (w1 := x3.alloc (.cells #[.slice none 0 0] 25 (0, 0))) (by rfl) rfl (by first | (go_simp; done) | (go_simp; rfl)) ?_
              have hb : Below x3.heap.size x3 (x3.alloc (.cells #[.slice none 0 0] 25 (0, 0))) := below_alloc (Below.refl _ _) _
              have hN : (x3.alloc (.cells #[.slice none 0 0] 25 (0, 0))).heap[x3.heap.size]? = some (.cells #[.slice none 0 0] 25 (0, 0)) := World.alloc_heap_new _ _
              have hL := hHeld.size
              generalize x3.alloc (.cells #[.slice none 0 0] 25 (0, 0)) = x4 at hb hN ⊢
              have hHeld2 := below_then hHeld hHeld.size hb
              refine hK.out _ _ hHeld2 (fun hHeld => ?_)
              clear hHeld2
              replace N6 : Aside (x4.heap[s6]? = some (.cells #[.int .i64 0] 3 (0, 0))) := blk_below N6.out hb
              replace SV : Aside (Kd.S k59 59 x4 sb (fun k => sb ≤ k) sv l0) := Kd.S_below SV.out hb
              generalize x3.heap.size = s5 at hN hL ⊢
              have N5 : Aside (x4.heap[s5]? = some (.cells #[.slice none 0 0] 25 (0, 0))) := hN
              have L5 : Aside (W.heap.size ≤ s5) := hL
              clear hN hL hb hK K
              refine norm_ (a' := ?_) ?_ ?_
              rotate_left
              · show Act.put _ (some 15) _ = _
                simp only [Act.put, List.setIfInBounds_toArray, List.set_cons_zero, List.set_cons_succ]
                rfl
              exact norm_ (by simp only [putAll, Act.put, List.setIfInBounds_toArray, List.set_cons_zero, List.set_cons_succ]) (hCont (sv, sb, s5, s6) _ ⟨hHeld, SV.out, SB.out, N5.out, L5.out, N6.out, L6.out⟩)
            · skip
              refine value_ (v := .pointer (some ⟨x2.heap.size, 0, none⟩)) (w1 := x2.alloc (.cells #[.slice none 0 0] 25 (0, 0))) (by rfl) rfl (by first | (go_simp; done) | (go_simp; rfl)) ?_
              have hb : Below x2.heap.size x2 (x2.alloc (.cells #[.slice none 0 0] 25 (0, 0))) := below_alloc (Below.refl _ _) _
              have hN : (x2.alloc (.cells #[.slice none 0 0] 25 (0, 0))).heap[x2.heap.size]? = some (.cells #[.slice none 0 0] 25 (0, 0)) := World.alloc_heap_new _ _
              have hL := hHeld.size
              generalize x2.alloc (.cells #[.slice none 0 0] 25 (0, 0)) = x3 at hb hN ⊢
              have hHeld2 := below_then hHeld hHeld.size hb
              refine hK.out _ _ hHeld2 (fun hHeld => ?_)
              clear hHeld2
              replace N6 : Aside (x3.heap[s6]? = some (.cells #[.int .i64 0] 3 (0, 0))) := blk_below N6.out hb
              replace SV : Aside (Kd.S k59 59 x3 sb (fun k => sb ≤ k) sv l0) := Kd.S_below SV.out hb
              generalize x2.heap.size = s5 at hN hL ⊢
              have N5 : Aside (x3.heap[s5]? = some (.cells #[.slice none 0 0] 25 (0, 0))) := hN
              have L5 : Aside (W.heap.size ≤ s5) := hL
              clear hN hL hb hK K
              refine norm_ (a' := ?_) ?_ ?_
              rotate_left
              · show Act.put _ (some 15) _ = _
                simp only [Act.put, List.setIfInBounds_toArray, List.set_cons_zero, List.set_cons_succ]
                rfl
              refine one_ (i := 4) (N := some 56) #[true, true, true, true, true, true, true, false, false] rfl rfl (one_of HT_.out (by kernel_rfl)) (by decide) (fun K hK => ?_)
              refine goes_ Try.func15 (by kernel_rfl) rfl #[.agg #[.int .i64 a0, .int .i64 a1, .int .i64 a2, .int .i64 a3, .int .i64 a4, .int .i64 a5], .int .i64 wd] (by rfl) rfl rfl (by (try simp only [List.map_toArray, List.map_cons, List.map_nil]); first | done | rfl) ?_
              refine (GC.out _).mono ?_
              rintro e x4 ⟨rfl, hb⟩
              refine ⟨_, rfl, ?_⟩
              refine hK.out _ _ (below_then hHeld hHeld.size hb) (fun hHeld => ?_)
              replace N6 : Aside (x4.heap[s6]? = some (.cells #[.int .i64 0] 3 (0, 0))) := blk_below N6.out hb
              replace SV : Aside (Kd.S k59 59 x4 sb (fun k => sb ≤ k) sv l0) := Kd.S_below SV.out hb
              replace N5 : Aside (x4.heap[s5]? = some (.cells #[.slice none 0 0] 25 (0, 0))) := blk_below N5.out hb
              clear hb hK K
              refine norm_ (a' := ?_) ?_ ?_
              rotate_left
              · show Act.put _ (some 56) _ = _
                simp only [Act.put, List.setIfInBounds_toArray, List.set_cons_zero, List.set_cons_succ]
                rfl
              exact norm_ (by simp only [putAll, Act.put, List.setIfInBounds_toArray, List.set_cons_zero, List.set_cons_succ]) (hCont (sv, sb, s5, s6) _ ⟨hHeld, SV.out, SB.out, N5.out, L5.out, N6.out, L6.out⟩)
          · skip
            refine value_ (v := .pointer (some ⟨x1.heap.size, 0, none⟩)) (w1 := x1.alloc (.cells #[.slice none 0 0] 25 (0, 0))) (by rfl) rfl (by first | (go_simp; done) | (go_simp; rfl)) ?_
            have hb : Below x1.heap.size x1 (x1.alloc (.cells #[.slice none 0 0] 25 (0, 0))) := below_alloc (Below.refl _ _) _
            have hN : (x1.alloc (.cells #[.slice none 0 0] 25 (0, 0))).heap[x1.heap.size]? = some (.cells #[.slice none 0 0] 25 (0, 0)) := World.alloc_heap_new _ _
            have hL := hHeld.size
            generalize x1.alloc (.cells #[.slice none 0 0] 25 (0, 0)) = x2 at hb hN ⊢
            have hHeld2 := below_then hHeld hHeld.size hb
            refine hK.out _ _ hHeld2 (fun hHeld => ?_)
            clear hHeld2
            replace N6 : Aside (x2.heap[s6]? = some (.cells #[.int .i64 0] 3 (0, 0))) := blk_below N6.out hb
            generalize x1.heap.size = s5 at hN hL ⊢
            have N5 : Aside (x2.heap[s5]? = some (.cells #[.slice none 0 0] 25 (0, 0))) := hN
            have L5 : Aside (W.heap.size ≤ s5) := hL
            clear hN hL hb hK K
            refine norm_ (a' := ?_) ?_ ?_
            rotate_left
            · show Act.put _ (some 15) _ = _
              simp only [Act.put, List.setIfInBounds_toArray, List.set_cons_zero, List.set_cons_succ]
              rfl
            refine one_ (i := 1) (N := some 53) #[true, true, true, true, false, true, true, false, false] rfl rfl (one_of HT_.out (by kernel_rfl)) (by decide) (fun K hK => ?_)
            refine goes_ Try.func24 (by kernel_rfl) rfl #[.slice A len cap] (by rfl) rfl rfl (by (try simp only [List.map_toArray, List.map_cons, List.map_nil]); first | done | rfl) ?_
            refine (CP.out _ hHeld).mono ?_
            rintro e x3 ⟨sv, rfl, hS, hb⟩
            refine ⟨_, rfl, ?_⟩
            have SB : Aside (W.heap.size ≤ x2.heap.size) := hHeld.size
            obtain ⟨sb, hsb⟩ : ∃ sb, sb = x2.heap.size := ⟨_, rfl⟩
            rw [← hsb] at SB hS
            clear hsb
            have SV : Aside (Kd.S k59 59 x3 sb (fun k => sb ≤ k) sv l0) := hS
            clear hS
            refine hK.out _ _ (below_then hHeld hHeld.size hb) (fun hHeld => ?_)
            replace N6 : Aside (x3.heap[s6]? = some (.cells #[.int .i64 0] 3 (0, 0))) := blk_below N6.out hb
            replace N5 : Aside (x3.heap[s5]? = some (.cells #[.slice none 0 0] 25 (0, 0))) := blk_below N5.out hb
            clear hb hK K
            refine norm_ (a' := ?_) ?_ ?_
            rotate_left
            · show Act.put _ (some 53) _ = _
              simp only [Act.put, List.setIfInBounds_toArray, List.set_cons_zero, List.set_cons_succ]
              rfl
            refine one_ (i := 4) (N := some 56) #[true, true, true, true, true, true, true, false, false] rfl rfl (one_of HT_.out (by kernel_rfl)) (by decide) (fun K hK => ?_)
            refine goes_ Try.func15 (by kernel_rfl) rfl #[.agg #[.int .i64 a0, .int .i64 a1, .int .i64 a2, .int .i64 a3, .int .i64 a4, .int .i64 a5], .int .i64 wd] (by rfl) rfl rfl (by (try simp only [List.map_toArray, List.map_cons, List.map_nil]); first | done | rfl) ?_
            refine (GC.out _).mono ?_
            rintro e x4 ⟨rfl, hb⟩
            refine ⟨_, rfl, ?_⟩
            refine hK.out _ _ (below_then hHeld hHeld.size hb) (fun hHeld => ?_)
            replace N6 : Aside (x4.heap[s6]? = some (.cells #[.int .i64 0] 3 (0, 0))) := blk_below N6.out hb
            replace N5 : Aside (x4.heap[s5]? = some (.cells #[.slice none 0 0] 25 (0, 0))) := blk_below N5.out hb
            replace SV : Aside (Kd.S k59 59 x4 sb (fun k => sb ≤ k) sv l0) := Kd.S_below SV.out hb
            clear hb hK K
            refine norm_ (a' := ?_) ?_ ?_
            rotate_left
            · show Act.put _ (some 56) _ = _
              simp only [Act.put, List.setIfInBounds_toArray, List.set_cons_zero, List.set_cons_succ]
              rfl
            exact norm_ (by simp only [putAll, Act.put, List.setIfInBounds_toArray, List.set_cons_zero, List.set_cons_succ]) (hCont (sv, sb, s5, s6) _ ⟨hHeld, SV.out, SB.out, N5.out, L5.out, N6.out, L6.out⟩)
      rintro ⟨sv, sb, s5, s6⟩ y0 ⟨hHeld, hS, hsb, h5_, hl5, h6_, hl6⟩
      have hne : s5 ≠ s6 := fun e_ => by rw [e_, h6_] at h5_; cases h5_
      have hS2 := hS
      obtain ⟨sA, sc, rfl⟩ := Kd.S_slice hS
      refine norm_ (a' := ?_) ?_ ?_
      rotate_left
      · simp only [putAll, Act.put, List.setIfInBounds_toArray, List.set_cons_zero, List.set_cons_succ]
        rfl
      refine one_ (i := 7) (N := none) #[true, true, true, true, true, true, true, true, false] rfl rfl (one_of HT_.out (by kernel_rfl)) (by decide) (fun K hK => ?_)
      have cG : y0.cell? ⟨s5, 0, none⟩ = some (.slice none 0 0) := (blk_cell h5_ 0).trans rfl
      have fG := blk_frozen h5_ 0
      refine skip_ (w1 := y0.setCell ⟨s5, 0, none⟩ (.slice sA l0.length sc)) (by rfl) rfl (by first | (go_simp; done) | (go_simp; rfl)) ?_
      have hH2 := hHeld.setCell (p := ⟨s5, 0, none⟩) hl5 (.slice sA l0.length sc)
      refine hK.out _ _ hH2 (fun hHeld => ?_)
      have hB5 := blk_put h5_ 0 (.slice sA l0.length sc) rfl
      have hB6 : (y0.setCell ⟨s5, 0, none⟩ (.slice sA l0.length sc)).heap[s6]? = _ := (Below.heap_setCell y0 ⟨s5, 0, none⟩ (.slice sA l0.length sc) s6 (fun e_ => hne e_.symm)).trans h6_
      have hS3 := Kd.S_set hS2 h5_ (by decide) 0 (.slice sA l0.length sc)
      clear cG fG hH2 hS hS2 h5_ h6_ hK K
      generalize y0.setCell ⟨s5, 0, none⟩ (.slice sA l0.length sc) = y1 at hHeld hB5 hB6 hS3 ⊢
      refine one_ (i := 8) (N := none) #[true, true, true, true, true, true, true, true, true] rfl rfl (one_of HT_.out (by kernel_rfl)) (by decide) (fun K hK => ?_)
      have cG : y1.cell? ⟨s6, 0, none⟩ = some (.int .i64 0) := (blk_cell hB6 0).trans rfl
      have fG := blk_frozen hB6 0
      refine skip_ (w1 := y1.setCell ⟨s6, 0, none⟩ (.int .i64 g)) (by rfl) rfl (by first | (go_simp; done) | (go_simp; rfl)) ?_
      have hH2 := hHeld.setCell (p := ⟨s6, 0, none⟩) hl6 (.int .i64 g)
      refine hK.out _ _ hH2 (fun hHeld => ?_)
      refine done_ (done_of HT_.out (by kernel_rfl)) ?_
      exact ⟨rfl, s5, s6, _, sb, rfl, (Below.heap_setCell y1 ⟨s6, 0, none⟩ (.int .i64 g) s5 hne).trans hB5, blk_put hB6 0 (.int .i64 g) rfl, Kd.S_set hS3 hB6 (by decide) 0 (.int .i64 g), hHeld, hsb, hl5, hl6⟩
    case k7 =>
      rintro e a' w' ⟨rfl, Bn, Bg, v, bs, rfl, hMid⟩
      rename_i K7_ hK7_
      refine hK7_ _ _ ?_
      clear hK7_ K7_
      have HF7 : Aside (Fr w' w.heap.size a0 a1 a2 a3 a4 a5 code wd ge gc (.slice none 0 0) 0 0 0) := Fr.below HF3.out hMid.bl
      have HB7 : Aside (Below w.heap.size w w') := below_then HB3.out HB3.out.size hMid.bl
      have HK7 : Aside (w'.heap[D1]? = some (.deferred (some []))) := blk_below HK1.out hMid.bl
      have hD7 : D1 < W.heap.size := blk_lt HK1.out
      have hW7 : W.heap.size ≤ w'.heap.size := hMid.bl.size
      have HM7 : Aside (AlcMid W w' Bn Bg bs v g l0) := hMid
      have hsW : w.heap.size + 7 ≤ W.heap.size := HF3.out.lt
      have c1 : w'.cell? ⟨w.heap.size + 1, 0, none⟩ = some (.int .i64 code) := blk_cell HF7.out.b1 0
      have hDlo : w.heap.size + 7 ≤ D1 := by omega
      clear hMid HF3 HB3 HK1 bC bR hF0 hB0 HF1 HB1 HF HB hR0 hsz hsz1 hD
      gi_wp2_with (gi_at_call 23; refine (of_in Fence.wide 7 trivial rfl _ _ _ _ _).mono ?_; rintro e w2 ⟨rfl, rfl⟩)
      have bR := (Boxed.new w' 25 (.slice A len cap)).alloc (.cells #[.int .i64 code] 3)
      have bC := Boxed.new (w'.alloc (.cells #[.slice A len cap] 25)) 3 (.int .i64 code)
      simp only [World.size_alloc] at bC
      have hbA : Below w'.heap.size w' ((w'.alloc (.cells #[.slice A len cap] 25)).alloc (.cells #[.int .i64 code] 3)) := ((Below.refl _ _).alloc (Nat.le_refl _) _).alloc (by simp) _
      have hB0 : Below w.heap.size w ((w'.alloc (.cells #[.slice A len cap] 25)).alloc (.cells #[.int .i64 code] 3)) := below_then HB7.out HB7.out.size hbA
      have hF0 := Fr.below HF7.out hbA
      have hM0 : AlcMid W _ Bn Bg bs v g l0 := AlcMid.below HM7.out hbA
      have hD0 := blk_below HK7.out hbA
      have hsz7 := HF7.out.lt
      have hsz : ((w'.alloc (.cells #[.slice A len cap] 25)).alloc (.cells #[.int .i64 code] 3)).heap.size = w'.heap.size + 2 := by simp
      obtain ⟨W2, hW2⟩ : ∃ W2, (w'.alloc (.cells #[.slice A len cap] 25)).alloc (.cells #[.int .i64 code] 3) = W2 := ⟨_, rfl⟩
      rw [hW2] at bR bC hB0 hF0 hM0 hD0 hsz ⊢
      clear hW2 hbA c1
      have hR2 := hR.below hB0
      refine wpIn_rangeFunc_ownH rfl (by omega) (gf := 34) (lb := #[.pointer (some ⟨w'.heap.size, 0, none⟩), .pointer (some ⟨w'.heap.size + 1, 0, none⟩)]) rfl h34 (enters_of Try.func34 (by kernel_rfl) rfl)
        (of_stops Fence.wide 7 h34 rfl (by omega) w'.heap.size (w'.heap.size + 1) w.heap.size len cap A code R W2 (by omega) bR bC hR2) kq_t (kq_b (by omega) (by omega)) (Below.refl _ _) (fun _ => rfl)
        (fun pre X => Fr X w.heap.size a0 a1 a2 a3 a4 a5 code wd ge gc (.slice none 0 0) 0 0 0 ∧ Below w.heap.size w X ∧ X.heap[D1]? = some (.deferred (some [])) ∧ AlcMid W X Bn Bg bs v g l0 ∧ ∀ y ∈ pre, ((rA R y.1).x.f2.length : Int) = g)
        (fun c pre X => c = .ret ∧ X.heap[D1]? = some (.deferred (some [])) ∧ ∃ (p0 : List (Jx code R len)) (y : Jx code R len) (v' : Value), (pre = p0 ++ [y] ∧ (∀ z ∈ p0, ((rA R z.1).x.f2.length : Int) = g) ∧ ¬ ((rA R y.1).x.f2.length : Int) = g) ∧
          Fr X w.heap.size a0 a1 a2 a3 a4 a5 code wd ge gc v' (y.1 : Int) (gap0 (rA R y.1).x.f2 : Int) 0 ∧ Below w.heap.size w X ∧ Kd.S k59 59 X bs (fun k => bs ≤ k) v' (putRow l0 y.1 ge gc))
        (OwnFrom.and (Own.from (fr_own _ _ _ _ _ _ _ _ _ _ _ _ _ _ _) _) (OwnFrom.and (ownFrom_below (Nat.le_refl _) (by omega)) (OwnFrom.and (def_own (by omega)) (OwnFrom.and (mid_own (by omega)) (ownFrom_pure _ _)))))
        (fun c => OwnFrom.and (ownFrom_pure _ _) (OwnFrom.and (def_own (by omega)) (exit_own (by omega) (by omega))))
        ⟨hF0, hB0, hD0, hM0, fun y hy => by cases hy⟩
        (fun x a' X => ∃ Bx, w.heap.size + 7 ≤ Bx ∧ X.heap[Bx]? = some (.cells #[.int .i64 (rA R x.1).x.f0, .int .i64 (rA R x.1).x.f1, .slice (rA R x.1).A (rA R x.1).x.f2.length (rA R x.1).c] 59 (0, 0)) ∧ a' = { tmps := #[.agg #[.int .i64 a0, .int .i64 a1, .int .i64 a2, .int .i64 a3, .int .i64 a4, .int .i64 a5], .slice A len cap, .int .i64 code, .int .i64 wd, .agg #[.int .i64 ge, .int .i64 gc], .pointer (some ⟨w.heap.size, 0, none⟩), undef, .pointer (some ⟨w.heap.size + 1, 0, none⟩), .pointer (some ⟨w.heap.size + 1 + 1, 0, none⟩), .pointer (some ⟨w.heap.size + 1 + 1 + 1, 0, none⟩), .pointer (some ⟨w.heap.size + 1 + 1 + 1 + 1, 0, none⟩), .pointer (some ⟨w.heap.size + 1 + 1 + 1 + 1 + 1, 0, none⟩), .pointer (some ⟨w.heap.size + 1 + 1 + 1 + 1 + 1 + 1, 0, none⟩), undef, undef, .pointer (some ⟨Bn, 0, none⟩), .pointer (some ⟨Bg, 0, none⟩), .int .i64 (x.1 : Int), .pointer (some ⟨Bx, 0, none⟩), undef, undef, .int .i64 code, .bool false, .bool false, .int .i64 code, .bool false, .bool false, .bool false, .int .i64 wd, .bool false, .bool false, .bool false, .int .i64 wd, .bool false, .bool false, .bool false, .agg #[.int .i64 a0, .int .i64 a1, .int .i64 a2, .int .i64 a3, .int .i64 a4, .int .i64 a5], .int .i64 wd, .int .i64 g, .bool false, .bool false, undef, .slice A len cap, .int .i64 code, .func (.func 34) #[] #[.pointer (some ⟨w1.heap.size, 0, none⟩), .pointer (some ⟨w1.heap.size + 1, 0, none⟩)], undef, undef, undef, undef, undef, undef, undef, .slice A len cap, v, .agg #[.int .i64 a0, .int .i64 a1, .int .i64 a2, .int .i64 a3, .int .i64 a4, .int .i64 a5], .int .i64 wd, .int .i64 g, .slice A len cap, .int .i64 code, .func (.func 34) #[] #[.pointer (some ⟨w'.heap.size, 0, none⟩), .pointer (some ⟨w'.heap.size + 1, 0, none⟩)], .int .i64 (x.1 : Int), (rA R x.1).val, undef, undef, undef, undef, undef, undef, undef, undef, undef, undef, undef, undef, undef, undef, undef, undef, undef, undef, undef, undef, undef, undef, undef, undef, undef, undef, undef, undef, undef, undef, undef, undef, undef, undef, undef, undef, undef, undef, undef, undef, undef, undef, undef, undef, undef, undef, undef, undef, undef, undef, undef, undef, undef, undef, undef, undef, undef, undef], defers := [] })
        (fun x a' => ax_own _ _ _ _ _)
        ?assign ?body ?done ?stop
      case assign =>
        rintro l pre x X K ⟨hF, hB, hD, hM, hP⟩ hK
        simp only [encO, zip2, RowA.val]
        gi_wp2
        exact hK _ _ ((KeepsOthers.alloc _ _).from _) ⟨(Below.refl _ X).alloc hB.size _, fun v hv => hv.alloc _⟩ ⟨hF.below (below_alloc (Below.refl _ _) _), hB.alloc hB.size _, blk_alloc hD _, hM.below (below_alloc (Below.refl _ _) _), hP⟩ ⟨X.heap.size, hF.lt, World.alloc_heap_new X _, rfl⟩
      case body =>
        rintro l pre x a' X hl _ ⟨hF, hB, hD, hM, hP⟩ ⟨Bx, hBx, bX, rfl⟩ hlt
        obtain ⟨j, hjx⟩ : ∃ j, j = x.1 := ⟨_, rfl⟩
        have hjl : j < len := by rw [hjx]; exact x.2.1
        have hx59 : rd_T59 l0 (j : Int) = (rA R j).x := (rA_x HM.out j).symm
        have hxl : l0[j]? = some (rd_T59 l0 (j : Int)) := by have h := HLL.out; simp [rd_T59, List.getD_eq_getElem?_getD, show j < l0.length by omega]
        have hux := bnd_at HBD.out j _ hxl
        have HC : Aside (Kd.C k37 w (rA R j).A (rA R j).x.f2.length (rA R j).x.f2) := HLS.out j hjl
        obtain ⟨Ar, hAr⟩ : ∃ Ar, Ar = (rA R j).A := ⟨_, rfl⟩
        obtain ⟨cr, hcr⟩ : ∃ cr, cr = (rA R j).c := ⟨_, rfl⟩
        obtain ⟨r, hr⟩ : ∃ r, r = (rA R j).x := ⟨_, rfl⟩
        obtain ⟨m, hm⟩ : ∃ m, m = r.f2.length := ⟨_, rfl⟩
        rw [← hjx, ← hAr, ← hcr, ← hr, ← hm] at bX
        rw [← hr] at hx59
        rw [hx59] at hxl hux
        rw [← hAr, ← hr, ← hm] at HC
        have hX2 : X.cell? ⟨Bx, 2, none⟩ = some (.slice Ar m cr) := (blk_cell bX 2).trans rfl
        have cg := hM.bg.cell
        simp only [RowA.val, ← hjx, ← hAr, ← hcr, ← hr, ← hm]
        have HF8 : Aside (Fr X w.heap.size a0 a1 a2 a3 a4 a5 code wd ge gc (.slice none 0 0) 0 0 0) := hF
        have HB8 : Aside (Below w.heap.size w X) := hB
        have HD8 : Aside (X.heap[D1]? = some (.deferred (some []))) := hD
        have HM8 : Aside (AlcMid W X Bn Bg bs v g l0) := hM
        have HP8 : Aside (∀ y ∈ pre, ((rA R y.1).x.f2.length : Int) = g) := hP
        have HJX := Lib.hid hjx
        have HRR := Lib.hid hr
        have HMM := Lib.hid hm
        have HXL := Lib.hid hxl
        have HX59 := Lib.hid hx59
        have hmb : m ≤ 1000 := by rw [hm]; exact hux
        clear hF hB hD hM hP hjx hAr hcr hr hm hxl hx59 hux bX hl
        by_cases hmg : (m : Int) = g
        · have hqb : ((m : Int) == g) = true := by simp [hmg]
          have HQ2 := Lib.hid hmg
          clear hmg
          gi_wp2
          exact ⟨KeepsFrom.refl _ _, ⟨Below.refl _ _, fun _ h => h⟩, HF8.out, HB8.out, HD8.out, HM8.out, fun y hy => by
            rcases List.mem_append.1 hy with hy | hy
            · exact HP8.out y hy
            · rw [List.mem_singleton.1 hy, ← HJX.out, ← HRR.out, ← HMM.out]; exact HQ2.out⟩
        · have hqb : ((m : Int) == g) = false := by simp [hmg]
          have HQ2 := Lib.hid hmg
          clear hmg
          gi_wp2
          rename_i KE hKE
          have hEnd : ∀ (k : Nat) (t62 t63 t64 t65 t66 t67 t68 t69 t70 t71 t72 t73 t74 t75 t76 t77 t78 t79 t80 t81 t82 t83 : Value), k = gap0 r.f2 → KE { tmps := #[.agg #[.int .i64 a0, .int .i64 a1, .int .i64 a2, .int .i64 a3, .int .i64 a4, .int .i64 a5], .slice A len cap, .int .i64 code, .int .i64 wd, .agg #[.int .i64 ge, .int .i64 gc], .pointer (some ⟨w.heap.size, 0, none⟩), undef, .pointer (some ⟨w.heap.size + 1, 0, none⟩), .pointer (some ⟨w.heap.size + 1 + 1, 0, none⟩), .pointer (some ⟨w.heap.size + 1 + 1 + 1, 0, none⟩), .pointer (some ⟨w.heap.size + 1 + 1 + 1 + 1, 0, none⟩), .pointer (some ⟨w.heap.size + 1 + 1 + 1 + 1 + 1, 0, none⟩), .pointer (some ⟨w.heap.size + 1 + 1 + 1 + 1 + 1 + 1, 0, none⟩), undef, undef, .pointer (some ⟨Bn, 0, none⟩), .pointer (some ⟨Bg, 0, none⟩), .int .i64 (j : Int), .pointer (some ⟨Bx, 0, none⟩), .int .i64 (k : Int), undef, .int .i64 code, .bool false, .bool false, .int .i64 code, .bool false, .bool false, .bool false, .int .i64 wd, .bool false, .bool false, .bool false, .int .i64 wd, .bool false, .bool false, .bool false, .agg #[.int .i64 a0, .int .i64 a1, .int .i64 a2, .int .i64 a3, .int .i64 a4, .int .i64 a5], .int .i64 wd, .int .i64 g, .bool false, .bool false, undef, .slice A len cap, .int .i64 code, .func (.func 34) #[] #[.pointer (some ⟨w1.heap.size, 0, none⟩), .pointer (some ⟨w1.heap.size + 1, 0, none⟩)], undef, undef, undef, undef, undef, undef, undef, .slice A len cap, v, .agg #[.int .i64 a0, .int .i64 a1, .int .i64 a2, .int .i64 a3, .int .i64 a4, .int .i64 a5], .int .i64 wd, .int .i64 g, .slice A len cap, .int .i64 code, .func (.func 34) #[] #[.pointer (some ⟨w'.heap.size, 0, none⟩), .pointer (some ⟨w'.heap.size + 1, 0, none⟩)], .int .i64 (j : Int), .agg #[.int .i64 r.f0, .int .i64 r.f1, .slice Ar m cr], t62, t63, t64, t65, t66, t67, t68, t69, t70, t71, t72, t73, t74, t75, t76, t77, t78, t79, t80, t81, t82, t83, undef, undef, undef, undef, undef, undef, undef, undef, undef, undef, undef, undef, undef, undef, undef, undef, undef, undef, undef, undef, undef, undef, undef, undef, undef, undef, undef, undef, undef, undef, undef, undef, undef, undef, undef, undef], defers := [] } X := by
            intro k t62 t63 t64 t65 t66 t67 t68 t69 t70 t71 t72 t73 t74 t75 t76 t77 t78 t79 t80 t81 t82 t83 hkg
            have HKG := Lib.hid hkg
            have hkm : k ≤ m := by rw [hkg, HMM.out]; exact gap0_le _
            clear hkg
            refine hKE _ _ ?_
            clear hKE KE cg hX2 hqb
            apply wpIn_seq_k
            intro K15 hK15
            refine wpIn_mono (Q := fun e_ a_ y_ => e_ = .normal ∧ ∃ (t84 t85 t86 t87 t88 t89 t90 t91 t92 t93 t94 t95 t96 t97 t98 : Value), a_ = { tmps := #[.agg #[.int .i64 a0, .int .i64 a1, .int .i64 a2, .int .i64 a3, .int .i64 a4, .int .i64 a5], .slice A len cap, .int .i64 code, .int .i64 wd, .agg #[.int .i64 ge, .int .i64 gc], .pointer (some ⟨w.heap.size, 0, none⟩), undef, .pointer (some ⟨w.heap.size + 1, 0, none⟩), .pointer (some ⟨w.heap.size + 1 + 1, 0, none⟩), .pointer (some ⟨w.heap.size + 1 + 1 + 1, 0, none⟩), .pointer (some ⟨w.heap.size + 1 + 1 + 1 + 1, 0, none⟩), .pointer (some ⟨w.heap.size + 1 + 1 + 1 + 1 + 1, 0, none⟩), .pointer (some ⟨w.heap.size + 1 + 1 + 1 + 1 + 1 + 1, 0, none⟩), undef, undef, .pointer (some ⟨Bn, 0, none⟩), .pointer (some ⟨Bg, 0, none⟩), .int .i64 (j : Int), .pointer (some ⟨Bx, 0, none⟩), .int .i64 (k : Int), undef, .int .i64 code, .bool false, .bool false, .int .i64 code, .bool false, .bool false, .bool false, .int .i64 wd, .bool false, .bool false, .bool false, .int .i64 wd, .bool false, .bool false, .bool false, .agg #[.int .i64 a0, .int .i64 a1, .int .i64 a2, .int .i64 a3, .int .i64 a4, .int .i64 a5], .int .i64 wd, .int .i64 g, .bool false, .bool false, undef, .slice A len cap, .int .i64 code, .func (.func 34) #[] #[.pointer (some ⟨w1.heap.size, 0, none⟩), .pointer (some ⟨w1.heap.size + 1, 0, none⟩)], undef, undef, undef, undef, undef, undef, undef, .slice A len cap, v, .agg #[.int .i64 a0, .int .i64 a1, .int .i64 a2, .int .i64 a3, .int .i64 a4, .int .i64 a5], .int .i64 wd, .int .i64 g, .slice A len cap, .int .i64 code, .func (.func 34) #[] #[.pointer (some ⟨w'.heap.size, 0, none⟩), .pointer (some ⟨w'.heap.size + 1, 0, none⟩)], .int .i64 (j : Int), .agg #[.int .i64 r.f0, .int .i64 r.f1, .slice Ar m cr], t62, t63, t64, t65, t66, t67, t68, t69, t70, t71, t72, t73, t74, t75, t76, t77, t78, t79, t80, t81, t82, t83, t84, t85, t86, t87, t88, t89, t90, t91, t92, t93, t94, t95, t96, t97, t98, undef, undef, undef, undef, undef, undef, undef, undef, undef, undef, undef, undef, undef, undef, undef, undef, undef, undef, undef, undef, undef], defers := [] } ∧
              (∀ (k : Nat) (ob : Obj), X.heap[k]? = some ob → (∀ cells, ob ≠ .cells cells 37 (0, 0)) → (∀ cells, ob ≠ .cells cells 59 (0, 0)) → y_.heap[k]? = some ob) ∧ X.heap.size ≤ y_.heap.size ∧ Fr y_ w.heap.size a0 a1 a2 a3 a4 a5 code wd ge gc (.slice none 0 0) 0 0 0 ∧ Below w.heap.size w y_ ∧ y_.heap[D1]? = some (.deferred (some [])) ∧ Boxed y_ Bn 25 v ∧
                Kd.S k59 59 y_ bs (fun k => bs ≤ k) v (l0.set j ⟨r.f0, r.f1, insAt r.f2 k ⟨(k : Int), ⟨ge, gc⟩⟩⟩)) ?r15 ?k15
            case r15 =>
              obtain ⟨gb, cap2, Au, cu, oki, hv, hok, hRU, hcU, hfU, hgl, hbg, hH, hcells⟩ := put_setup (Kd.S_drew HM8.out.cp) HLL.out HXL.out
              subst hv
              rw [← HMM.out] at hcU
              have hjz : (j : Int) < (len : Int) := by omega
              have hn2 := HM8.out.bn.cell
              have hg0_ : X.cell? ⟨w.heap.size + 1 + 1 + 1, 0, none⟩ = some (.int .i64 ge) := blk_cell HF8.out.b3 0
              have hg1_ : X.cell? ⟨w.heap.size + 1 + 1 + 1, 1, none⟩ = some (.int .i64 gc) := blk_cell HF8.out.b3 1
              refine start_in (m := 16) (S := fun w' => w'.cell? ⟨Bn, 0, none⟩ = some (.slice (some ⟨gb, 0, none⟩) len cap2) ∧ w'.cell? ⟨gb, j * 3 + 2, none⟩ = some (.slice Au m cu) ∧ w'.cell? ⟨w.heap.size + 1 + 1 + 1, 0, none⟩ = some (.int .i64 ge) ∧ w'.cell? ⟨w.heap.size + 1 + 1 + 1, 1, none⟩ = some (.int .i64 gc)) (ds := [15]) #[false, false, false, false, false, false, false, false, false, false, false, false, false, false, false, false] (by kernel_rfl) rfl (by kernel_rfl) (by kernel_rfl) (fun ⟨a_, w_, h_⟩ => nomatch h_.1) ⟨hn2, hcU, hg0_, hg1_⟩ (fun hHeld => ?_)
              refine with_tabW alcR15.tab alcR15.bits (fun HT_ HW_ => ?_)
              clear hn2 hg0_ hg1_
              have HX : Aside (Below X.heap.size X X.drew) := below_drew1 (Below.refl _ _)
              have HFd : Aside (Fr X.drew w.heap.size a0 a1 a2 a3 a4 a5 code wd ge gc (.slice none 0 0) 0 0 0) := Fr.below HF8.out HX.out
              have HBd : Aside (Below w.heap.size w X.drew) := below_then HB8.out HB8.out.size HX.out
              have HDd : Aside (X.drew.heap[D1]? = some (.deferred (some []))) := blk_below HD8.out HX.out
              have HMd : Aside (AlcMid W X.drew Bn Bg bs (.slice (some ⟨gb, 0, none⟩) len cap2) g l0) := HM8.out.below HX.out
              have HXs : Aside (∀ (k : Nat) (ob : Obj), X.heap[k]? = some ob → X.drew.heap[k]? = some ob) := fun k ob hk => blk_below hk HX.out
              have HXz : Aside (X.heap.size ≤ X.drew.heap.size) := HX.out.size
              have HOK : Aside (∀ k, oki k → bs ≤ k ∧ k ≠ gb) := hok
              have HRU : Aside (k37.R 37 X.drew bs oki (.slice Au r.f2.length cu) r.f2) := hRU
              have HH : Aside (Kd.H k59 59 X.drew bs (fun k => bs ≤ k) (.slice (some ⟨gb, 0, none⟩) len cap2) l0 (j : Int) oki [.int .i64 r.f0, .int .i64 r.f1, .slice Au r.f2.length cu]) := hH
              have HCL : Aside (∃ cells, X.drew.heap[gb]? = some (.cells cells 59 (0, 0))) := hcells
              have HFU : Aside (X.drew.frozen? ⟨gb, j * 3 + 2, none⟩ = false) := hfU
              have HGL : Aside (gb < X.drew.heap.size) := hgl
              have HBG : Aside (bs ≤ gb) := hbg
              clear hok hRU hH hcells hcU hfU hgl hbg HX
              generalize X.drew = x0 at *
              refine take_ (i := 0) (N := some 84) (v := ?_) (a' := ?_) #[true, false, false, false, false, false, false, false, false, false, false, false, false, false, false, false] rfl rfl (take_ofW HT_.out HW_.out (by kernel_rfl)) (fun _ _ _ h => nomatch h.1) (Or.inl ⟨by rfl, ?_⟩) hHeld ?_ ?_; rotate_left; (rintro w' ⟨s0, s1, s2, s3⟩; go_simp; with_reducible rfl); rotate_left; (simp only [Act.put, List.setIfInBounds_toArray, List.set_cons_zero, List.set_cons_succ]; rfl)
              refine pure_ (i := 1) (N := some 85) (v := ?_) (a' := ?_) #[true, true, false, false, false, false, false, false, false, false, false, false, false, false, false, false] rfl rfl (any_of HT_.out (by kernel_rfl)) (fun _ _ _ h => nomatch h.1) (Or.inl ⟨by rfl, ?_⟩) ?_ ?_; rotate_left; (intro w'; go_simp; with_reducible rfl); rotate_left; (simp only [Act.put, List.setIfInBounds_toArray, List.set_cons_zero, List.set_cons_succ]; rfl)
              refine take_ (i := 2) (N := some 86) (v := ?_) (a' := ?_) #[true, true, true, false, false, false, false, false, false, false, false, false, false, false, false, false] rfl rfl (take_ofW HT_.out HW_.out (by kernel_rfl)) (fun _ _ _ h => nomatch h.1) (Or.inl ⟨by rfl, ?_⟩) hHeld ?_ ?_; rotate_left; (rintro w' ⟨s0, s1, s2, s3⟩; go_simp; with_reducible rfl); rotate_left; (simp only [Act.put, List.setIfInBounds_toArray, List.set_cons_zero, List.set_cons_succ]; rfl)
              refine pure_ (i := 3) (N := some 87) (v := ?_) (a' := ?_) #[true, true, true, true, false, false, false, false, false, false, false, false, false, false, false, false] rfl rfl (any_of HT_.out (by kernel_rfl)) (fun _ _ _ h => nomatch h.1) (Or.inl ⟨by rfl, ?_⟩) ?_ ?_; rotate_left; (intro w'; go_simp; with_reducible rfl); rotate_left; (simp only [Act.put, List.setIfInBounds_toArray, List.set_cons_zero, List.set_cons_succ]; rfl)
              refine pure_ (i := 4) (N := some 88) (v := ?_) (a' := ?_) #[true, true, true, true, true, false, false, false, false, false, false, false, false, false, false, false] rfl rfl (any_of HT_.out (by kernel_rfl)) (fun _ _ _ h => nomatch h.1) (Or.inl ⟨by rfl, ?_⟩) ?_ ?_; rotate_left; (intro w'; go_simp; with_reducible rfl); rotate_left; (simp only [Act.put, List.setIfInBounds_toArray, List.set_cons_zero, List.set_cons_succ]; rfl)
              refine pure_ (i := 5) (N := some 89) (v := ?_) (a' := ?_) #[true, true, true, true, true, true, false, false, false, false, false, false, false, false, false, false] rfl rfl (any_of HT_.out (by kernel_rfl)) (fun _ _ _ h => nomatch h.1) (Or.inl ⟨by rfl, ?_⟩) ?_ ?_; rotate_left; (intro w'; go_simp; with_reducible rfl); rotate_left; (simp only [Act.put, List.setIfInBounds_toArray, List.set_cons_zero, List.set_cons_succ]; rfl)
              refine take_ (i := 6) (N := some 90) (v := ?_) (a' := ?_) #[true, true, true, true, true, true, true, false, false, false, false, false, false, false, false, false] rfl rfl (take_ofW HT_.out HW_.out (by kernel_rfl)) (fun _ _ _ h => nomatch h.1) (Or.inl ⟨by rfl, ?_⟩) hHeld ?_ ?_; rotate_left; (rintro w' ⟨s0, s1, s2, s3⟩; go_simp; with_reducible rfl); rotate_left; (simp only [Act.put, List.setIfInBounds_toArray, List.set_cons_zero, List.set_cons_succ]; rfl)
              refine pure_ (i := 7) (N := some 91) (v := ?_) (a' := ?_) #[true, true, true, true, true, true, true, true, false, false, false, false, false, false, false, false] rfl rfl (any_of HT_.out (by kernel_rfl)) (fun _ _ _ h => nomatch h.1) (Or.inl ⟨by rfl, ?_⟩) ?_ ?_; rotate_left; (intro w'; go_simp; with_reducible rfl); rotate_left; (simp only [Act.put, List.setIfInBounds_toArray, List.set_cons_zero, List.set_cons_succ]; rfl)
              refine pure_ (i := 8) (N := some 92) (v := ?_) (a' := ?_) #[true, true, true, true, true, true, true, true, true, false, false, false, false, false, false, false] rfl rfl (any_of HT_.out (by kernel_rfl)) (fun _ _ _ h => nomatch h.1) (Or.inl ⟨by rfl, ?_⟩) ?_ ?_; rotate_left; (intro w'; go_simp; with_reducible rfl); rotate_left; (simp only [Act.put, List.setIfInBounds_toArray, List.set_cons_zero, List.set_cons_succ]; rfl)
              refine take_ (i := 9) (N := some 93) (v := ?_) (a' := ?_) #[true, true, true, true, true, true, true, true, true, true, false, false, false, false, false, false] rfl rfl (take_ofW HT_.out HW_.out (by kernel_rfl)) (fun _ _ _ h => nomatch h.1) (Or.inl ⟨by rfl, ?_⟩) hHeld ?_ ?_; rotate_left; (rintro w' ⟨s0, s1, s2, s3⟩; go_simp; with_reducible rfl); rotate_left; (simp only [Act.put, List.setIfInBounds_toArray, List.set_cons_zero, List.set_cons_succ]; rfl)
              refine pure_ (i := 10) (N := some 94) (v := ?_) (a' := ?_) #[true, true, true, true, true, true, true, true, true, true, true, false, false, false, false, false] rfl rfl (any_of HT_.out (by kernel_rfl)) (fun _ _ _ h => nomatch h.1) (Or.inl ⟨by rfl, ?_⟩) ?_ ?_; rotate_left; (intro w'; go_simp; with_reducible rfl); rotate_left; (simp only [Act.put, List.setIfInBounds_toArray, List.set_cons_zero, List.set_cons_succ]; rfl)
              refine one_ (i := 11) (N := some 95) #[true, true, true, true, true, true, true, true, true, true, true, true, false, false, false, false] rfl rfl (one_of HT_.out (by kernel_rfl)) (by decide) (fun K hK => ?_)
              refine value_ (v := .slice (some ⟨x0.heap.size, 0, none⟩) 1 1) (w1 := x0.alloc (.cells #[.int .i64 k, .int .i64 ge, .int .i64 gc] 37 (0, 0))) (by rfl) rfl (by first | (go_simp; done) | (go_simp; rfl)) ?_
              have hb : Below x0.heap.size x0 (x0.alloc (.cells #[.int .i64 k, .int .i64 ge, .int .i64 gc] 37 (0, 0))) := below_alloc (Below.refl _ _) _
              have hN : (x0.alloc (.cells #[.int .i64 k, .int .i64 ge, .int .i64 gc] 37 (0, 0))).heap[x0.heap.size]? = some (.cells #[.int .i64 k, .int .i64 ge, .int .i64 gc] 37 (0, 0)) := World.alloc_heap_new _ _
              refine hK.out _ _ ⟨pw_cell_below hb hHeld.1, pw_cell_below hb hHeld.2.1, pw_cell_below hb hHeld.2.2.1, pw_cell_below hb hHeld.2.2.2⟩ (fun hHeld => ?_)
              clear hK K
              refine norm_ (a' := ?_) ?_ ?_
              rotate_left
              · show Act.put _ (some 95) _ = _
                simp only [Act.put, List.setIfInBounds_toArray, List.set_cons_zero, List.set_cons_succ]
                rfl
              refine one_ (i := 12) (N := some 96) #[true, true, true, true, true, true, true, true, true, true, true, true, true, false, false, false] rfl rfl (one_of HT_.out (by kernel_rfl)) (by decide) (fun K hK => ?_)
              refine goes_ Try.func25 (by kernel_rfl) rfl #[.slice Au m cu, .int .i64 k, .slice (some ⟨x0.heap.size, 0, none⟩) 1 1] (by rfl) rfl rfl (by (try simp only [List.map_toArray, List.map_cons, List.map_nil]); first | done | rfl) ?_
              have hsb : bs ≤ x0.heap.size := by have h1 := HGL.out; have h2 := HBG.out; omega
              have hINS := insert_any Au cu r.f2 k ⟨(k : Int), ⟨ge, gc⟩⟩ x0.heap.size bs oki _ (Kd.R_below HRU.out hb) (by rw [← HMM.out]; exact hkm) (by rw [← HMM.out]; omega) hN (fun e_ => by have := Kd.R_lt HRU.out x0.heap.size e_.symm; omega) (by have h1 := hb.size; omega)
              unfold Insd at hINS
              rw [← HMM.out] at hINS
              refine hINS.mono ?_
              rintro e x2 ⟨A', c', rfl, hR, hg, hob⟩
              refine ⟨_, rfl, ?_⟩
              have htyped := Kd.R_typed HRU.out
              rw [← HMM.out] at htyped
              have hnB := own_ne htyped HMd.out.bn (by decide)
              have hn3 := own_ne htyped HFd.out.b3 (by decide)
              obtain ⟨cb, hcb⟩ := HCL.out
              have hnG := own_ne htyped hcb (by decide)
              refine hK.out _ _ ⟨hg.cell hHeld.1 (fun e_ => hnB e_.symm), hg.cell hHeld.2.1 (fun e_ => hnG e_.symm), hg.cell hHeld.2.2.1 (fun e_ => hn3 e_.symm), hg.cell hHeld.2.2.2 (fun e_ => hn3 e_.symm)⟩ (fun hHeld => ?_)
              have hfz : x2.frozen? ⟨gb, j * 3 + 2, none⟩ = false := (World.frozen?_of_block (hg.block gb (by have h1 := HGL.out; have h2 := hb.size; omega) (fun e_ => hnG e_.symm))).trans ((hb.frozen (p := ⟨gb, j * 3 + 2, none⟩) HGL.out).trans HFU.out)
              have HR : Aside (k37.R 37 x2 bs (fun k => some k = (Value.slice A' (m + 1) c').ownBlock) (.slice A' (m + 1) c') (insAt r.f2 k ⟨(k : Int), ⟨ge, gc⟩⟩)) := hR
              have HG : Aside (World.grownBy _ x2 _) := hg
              have HOB : Aside ((Value.slice A' (m + 1) c').ownBlock = (Value.slice Au m cu).ownBlock ∨ ∃ b, (Value.slice A' (m + 1) c').ownBlock = some b ∧ _ ≤ b) := hob
              clear hK K hINS hR hg hob htyped hnB hn3 hnG hb hN
              refine norm_ (a' := ?_) ?_ ?_
              rotate_left
              · show Act.put _ (some 96) _ = _
                simp only [Act.put, List.setIfInBounds_toArray, List.set_cons_zero, List.set_cons_succ]
                rfl
              refine pure_ (i := 13) (N := some 97) (v := ?_) (a' := ?_) #[true, true, true, true, true, true, true, true, true, true, true, true, true, true, false, false] rfl rfl (any_of HT_.out (by kernel_rfl)) (fun _ _ _ h => nomatch h.1) (Or.inl ⟨by rfl, ?_⟩) ?_ ?_; rotate_left; (intro w'; go_simp; with_reducible rfl); rotate_left; (simp only [Act.put, List.setIfInBounds_toArray, List.set_cons_zero, List.set_cons_succ]; rfl)
              refine pure_ (i := 14) (N := some 98) (v := ?_) (a' := ?_) #[true, true, true, true, true, true, true, true, true, true, true, true, true, true, true, false] rfl rfl (any_of HT_.out (by kernel_rfl)) (fun _ _ _ h => nomatch h.1) (Or.inl ⟨by rfl, ?_⟩) ?_ ?_; rotate_left; (intro w'; go_simp; with_reducible rfl); rotate_left; (simp only [Act.put, List.setIfInBounds_toArray, List.set_cons_zero, List.set_cons_succ]; rfl)
              refine last_ (i := 15) (N := none) #[true, true, true, true, true, true, true, true, true, true, true, true, true, true, true, true] rfl rfl (one_of HT_.out (by kernel_rfl)) (by decide) (fun K hK => ?_)
              have hcs := hHeld.2.1
              refine skip_ (w1 := x2.setCell ⟨gb, j * 3 + 2, none⟩ (.slice A' (m + 1) c')) (by rfl) rfl (by first | (go_simp; done) | (go_simp; rfl)) ?_
              refine hK.out _ _ ?_
              refine done_ (done_of HT_.out (by kernel_rfl)) ?_
              have hMP := mid_put (i := k) (u := ⟨(k : Int), ⟨ge, gc⟩⟩) HFd.out HBd.out HDd.out HMd.out hsW (Nat.le_refl _) HLL.out HXL.out rfl HGL.out HBG.out HCL.out hsb HH.out HOK.out HRU.out (by rw [← HMM.out]; exact HR.out) (by rw [← HMM.out]; exact HG.out) (by rw [← HMM.out]; exact HOB.out)
              rw [← HMM.out] at hMP
              obtain ⟨hk_, hz_, hMP⟩ := hMP
              exact ⟨rfl, _, _, _, _, _, _, _, _, _, _, _, _, _, _, _, rfl, fun k ob hk => hk_ k ob (HXs.out k ob hk), Nat.le_trans HXz.out hz_, hMP⟩
            case k15 =>
              rintro e a' x3 ⟨rfl, t84, t85, t86, t87, t88, t89, t90, t91, t92, t93, t94, t95, t96, t97, t98, rfl, hkp, hsz3, hF, hB, hD, hBx2, hS⟩
              refine hK15 _ _ ?_
              clear hK15 K15
              obtain ⟨sA, sn, sc, rfl⟩ : ∃ A n c, v = .slice A n c := by
                obtain ⟨A_, c_, e_⟩ := Kd.S_slice hS
                exact ⟨_, _, _, e_⟩
              have cb := hBx2.cell
              have c4 : x3.cell? ⟨w.heap.size + 1 + 1 + 1 + 1, 0, none⟩ = some (.slice none 0 0) := blk_cell hF.b4 0
              have c5 : x3.cell? ⟨w.heap.size + 1 + 1 + 1 + 1 + 1, 0, none⟩ = some (.int .i64 0) := blk_cell hF.b5 0
              have c5b : x3.cell? ⟨w.heap.size + 1 + 1 + 1 + 1 + 1, 1, none⟩ = some (.int .i64 0) := blk_cell hF.b5 1
              have c6 : x3.cell? ⟨w.heap.size + 1 + 1 + 1 + 1 + 1 + 1, 0, none⟩ = some (.int .i64 0) := blk_cell hF.b6 0
              have f4 := blk_frozen hF.b4 0
              have f5 := blk_frozen hF.b5 0
              have f5b := blk_frozen hF.b5 1
              have f6 := blk_frozen hF.b6 0
              have HKP : Aside (∀ (k : Nat) (ob : Obj), X.heap[k]? = some ob → (∀ cells, ob ≠ .cells cells 37 (0, 0)) → (∀ cells, ob ≠ .cells cells 59 (0, 0)) → x3.heap[k]? = some ob) := hkp
              have HF9 : Aside (Fr x3 w.heap.size a0 a1 a2 a3 a4 a5 code wd ge gc (.slice none 0 0) 0 0 0) := hF
              have HB9 : Aside (Below w.heap.size w x3) := hB
              have HD9 : Aside (x3.heap[D1]? = some (.deferred (some []))) := hD
              have HS9 : Aside (Kd.S k59 59 x3 bs (fun k => bs ≤ k) (.slice sA sn sc) (l0.set j ⟨r.f0, r.f1, insAt r.f2 k ⟨(k : Int), ⟨ge, gc⟩⟩⟩)) := hS
              clear hkp hF hB hD hBx2 hS
              gi_wp2
              have hbs := HM8.out.ns
              have hput : putRow l0 x.1 ge gc = l0.set j ⟨r.f0, r.f1, insAt r.f2 k ⟨(k : Int), ⟨ge, gc⟩⟩⟩ := by
                unfold putRow
                rw [← HJX.out, HX59.out, ← HKG.out]
              have hB5 := ret4_below (u1 := .slice sA sn sc) (u2 := .int .i64 j) (u3 := .int .i64 k) (u4 := .int .i64 0) HB9.out
              have hko : KeepsOthers X x3 := ⟨hsz3, fun q o hq ho => HKP.out q o hq (fun cells e_ => by rw [e_] at ho; cases ho) (fun cells e_ => by rw [e_] at ho; cases ho)⟩
              refine ⟨(ret4_keeps hko).from _, rfl, ret4_far hDlo HD9.out, pre, x, .slice sA sn sc, ⟨rfl, HP8.out, by rw [← HJX.out, ← HRR.out, ← HMM.out]; exact HQ2.out⟩, ?_, hB5, ?_⟩
              · rw [← HJX.out, ← HRR.out, ← HKG.out]
                exact Fr.ret HF9.out (.slice sA sn sc) j k 0
              · rw [hput]
                exact ret4_S (by omega) HS9.out
          clear hKE
          gi_loopw [19] (fun i wr => ∃ k : Nat, k ≤ m ∧ i = .int .i64 k ∧ Hid (wr = X) ∧ gapL (r.f2.drop k) k = gap0 r.f2) (fun i _ => m - (intOf i).toNat)
          case atStart => exact ⟨0, Nat.zero_le _, rfl, Lib.hid rfl, rfl⟩
          case round =>
            obtain ⟨k, hk, rfl, hwr, hgap⟩ := hrel
            have e_ := hwr.out
            subst e_
            clear hwr
            by_cases hkm : k < m
            · have hkz : (k : Int) < (m : Int) := by omega
              have hku : k < r.f2.length := by have := HMM.out; omega
              obtain ⟨ad, rfl, hc0, hc1, hc2⟩ := at_T37 (show Kd.C k37 w Ar r.f2.length r.f2 by rw [← HMM.out]; exact HC.out) (k : Int) (by omega) (by omega)
              rw [Int.toNat_natCast] at hc0 hc1 hc2
              replace hc0 := (HB8.out.cell (block_lt_of_cell hc0)).trans hc0
              clear hc1 hc2
              obtain ⟨y0, hy⟩ : ∃ y0, y0 = (rd_T37 r.f2 (k : Int)).f0 := ⟨_, rfl⟩
              rw [← hy] at hc0
              rw [gapL_drop _ _ hku, ← hy] at hgap
              clear hy
              by_cases hyk : y0 = (k : Int)
              · have hyb : (y0 == (k : Int)) = true := by simp [hyk]
                rw [if_pos hyk] at hgap
                have HG := Lib.hid hgap
                clear hgap hyk
                gi_wp2
                go_roundw
                case rel => exact ⟨k + 1, by omega, by simp, Lib.hid (by first | rfl | trivial), HG.out⟩
                case measure => simp [intOf]; omega
              · have hyb : (y0 == (k : Int)) = false := by simp [hyk]
                rw [if_neg hyk] at hgap
                have HG := Lib.hid hgap
                clear hgap hyk
                gi_wp2
                exact HG.out
            · obtain rfl : k = m := by omega
              have hkz : ¬ (k : Int) < (k : Int) := by omega
              have HG : Hid (k = gap0 r.f2) := Lib.hid (by rw [← hgap, List.drop_of_length_le (by rw [← HMM.out]; exact Nat.le_refl _), gapL])
              clear hgap
              gi_wp2
              exact HG.out
      case done =>
        rintro D2 ys2 X2 hD2 hys2 ⟨hF, hB, hD, hM, hP⟩ hK2
        have HFa : Aside (Fr X2 w.heap.size a0 a1 a2 a3 a4 a5 code wd ge gc (.slice none 0 0) 0 0 0) := hF
        have HBa : Aside (Below w.heap.size w X2) := hB
        have HDa : Aside (X2.heap[D1]? = some (.deferred (some []))) := hD
        have HMa : Aside (AlcMid W X2 Bn Bg bs v g l0) := hM
        have HPa : Aside (∀ y ∈ ys2, ((rA R y.1).x.f2.length : Int) = g) := hP
        have HYa : Aside (ys2.map Subtype.val = ofJ code R len) := hys2
        have HKa : Aside (X2.heap[D2]? = some (.deferred (some []))) := hK2
        have hD2s : D2 < X2.heap.size := blk_lt hK2
        have hWX : W.heap.size ≤ X2.heap.size := hM.bl.size
        have hElo : w.heap.size + 7 ≤ D2 := by omega
        have hDne : D1 ≠ D2 := by omega
        clear hF hB hD hM hP hys2 hK2 bC bR hF0 hB0 hM0 hD0 hR2
        gi_wp2_with (gi_at_call 23; refine (of_in Fence.wide 7 trivial rfl _ _ _ _ _).mono ?_; rintro e w2 ⟨rfl, rfl⟩)
        have bR := (Boxed.new X2 25 (.slice A len cap)).alloc (.cells #[.int .i64 (-1)] 3)
        have bC := Boxed.new (X2.alloc (.cells #[.slice A len cap] 25)) 3 (.int .i64 (-1))
        simp only [World.size_alloc] at bC
        have hbA : Below X2.heap.size X2 ((X2.alloc (.cells #[.slice A len cap] 25)).alloc (.cells #[.int .i64 (-1)] 3)) := ((Below.refl _ _).alloc (Nat.le_refl _) _).alloc (by simp) _
        have hB0 : Below w.heap.size w ((X2.alloc (.cells #[.slice A len cap] 25)).alloc (.cells #[.int .i64 (-1)] 3)) := below_then HBa.out HBa.out.size hbA
        have hF0 := Fr.below HFa.out hbA
        have hM0 : AlcMid W _ Bn Bg bs v g l0 := AlcMid.below HMa.out hbA
        have hD0 := blk_below HDa.out hbA
        have hE0 := blk_below HKa.out hbA
        have hszX := HFa.out.lt
        have hszY : ((X2.alloc (.cells #[.slice A len cap] 25)).alloc (.cells #[.int .i64 (-1)] 3)).heap.size = X2.heap.size + 2 := by simp
        obtain ⟨W3, hW3⟩ : ∃ W3, (X2.alloc (.cells #[.slice A len cap] 25)).alloc (.cells #[.int .i64 (-1)] 3) = W3 := ⟨_, rfl⟩
        rw [hW3] at bR bC hB0 hF0 hM0 hD0 hE0 hszY ⊢
        clear hW3 hbA
        have hR3 := hR.below hB0
        refine wpIn_rangeFunc_ownH rfl (by omega) (gf := 34) (lb := #[.pointer (some ⟨X2.heap.size, 0, none⟩), .pointer (some ⟨X2.heap.size + 1, 0, none⟩)]) rfl h34 (enters_of Try.func34 (by kernel_rfl) rfl)
          (of_stops Fence.wide 7 h34 rfl (by omega) X2.heap.size (X2.heap.size + 1) w.heap.size len cap A (-1) R W3 (by omega) bR bC hR3) kq_t (kq_b (by omega) (by omega)) (Below.refl _ _) (fun _ => rfl)
          (fun pre X => Fr X w.heap.size a0 a1 a2 a3 a4 a5 code wd ge gc (.slice none 0 0) 0 0 0 ∧ Below w.heap.size w X ∧ X.heap[D1]? = some (.deferred (some [])) ∧ X.heap[D2]? = some (.deferred (some [])) ∧ AlcMid W X Bn Bg bs v g l0 ∧ pre = [])
          (fun c pre X => c = .ret ∧ X.heap[D1]? = some (.deferred (some [])) ∧ X.heap[D2]? = some (.deferred (some [])) ∧ NewEx a0 a1 a2 a3 a4 a5 code wd ge gc w bs R len l0 pre X)
          (OwnFrom.and (Own.from (fr_own _ _ _ _ _ _ _ _ _ _ _ _ _ _ _) _) (OwnFrom.and (ownFrom_below (Nat.le_refl _) (by omega)) (OwnFrom.and (def_own (by omega)) (OwnFrom.and (def_own (by omega)) (OwnFrom.and (mid_own (by omega)) (ownFrom_pure _ _))))))
          (fun c => OwnFrom.and (ownFrom_pure _ _) (OwnFrom.and (def_own (by omega)) (OwnFrom.and (def_own (by omega)) (newEx_own (by omega)))))
          ⟨hF0, hB0, hD0, hE0, hM0, rfl⟩
          (fun x a' X => a' = { tmps := #[.agg #[.int .i64 a0, .int .i64 a1, .int .i64 a2, .int .i64 a3, .int .i64 a4, .int .i64 a5], .slice A len cap, .int .i64 code, .int .i64 wd, .agg #[.int .i64 ge, .int .i64 gc], .pointer (some ⟨w.heap.size, 0, none⟩), undef, .pointer (some ⟨w.heap.size + 1, 0, none⟩), .pointer (some ⟨w.heap.size + 1 + 1, 0, none⟩), .pointer (some ⟨w.heap.size + 1 + 1 + 1, 0, none⟩), .pointer (some ⟨w.heap.size + 1 + 1 + 1 + 1, 0, none⟩), .pointer (some ⟨w.heap.size + 1 + 1 + 1 + 1 + 1, 0, none⟩), .pointer (some ⟨w.heap.size + 1 + 1 + 1 + 1 + 1 + 1, 0, none⟩), undef, undef, .pointer (some ⟨Bn, 0, none⟩), .pointer (some ⟨Bg, 0, none⟩), undef, undef, undef, .int .i64 (x.1 : Int), .int .i64 code, .bool false, .bool false, .int .i64 code, .bool false, .bool false, .bool false, .int .i64 wd, .bool false, .bool false, .bool false, .int .i64 wd, .bool false, .bool false, .bool false, .agg #[.int .i64 a0, .int .i64 a1, .int .i64 a2, .int .i64 a3, .int .i64 a4, .int .i64 a5], .int .i64 wd, .int .i64 g, .bool false, .bool false, undef, .slice A len cap, .int .i64 code, .func (.func 34) #[] #[.pointer (some ⟨w1.heap.size, 0, none⟩), .pointer (some ⟨w1.heap.size + 1, 0, none⟩)], undef, undef, undef, undef, undef, undef, undef, .slice A len cap, v, .agg #[.int .i64 a0, .int .i64 a1, .int .i64 a2, .int .i64 a3, .int .i64 a4, .int .i64 a5], .int .i64 wd, .int .i64 g, .slice A len cap, .int .i64 code, .func (.func 34) #[] #[.pointer (some ⟨w'.heap.size, 0, none⟩), .pointer (some ⟨w'.heap.size + 1, 0, none⟩)], undef, undef, undef, undef, undef, undef, undef, undef, undef, undef, undef, undef, undef, undef, undef, undef, undef, undef, undef, undef, undef, undef, undef, undef, undef, undef, undef, undef, undef, undef, undef, undef, undef, undef, undef, undef, undef, undef, undef, undef, undef, undef, undef, .slice A len cap, .func (.func 34) #[] #[.pointer (some ⟨X2.heap.size, 0, none⟩), .pointer (some ⟨X2.heap.size + 1, 0, none⟩)], .int .i64 (x.1 : Int), (rA R x.1).val, undef, undef, undef, undef, undef, undef, undef, undef, undef, undef, undef, undef, undef], defers := [] })
          (fun x a' => ownFrom_pure _ _)
          ?assign3 ?body3 ?done3 ?stop3
        case assign3 =>
          rintro l pre x X K ⟨hF, hB, hD, hE, hM, hP⟩ hK
          simp only [encO, zip2, RowA.val]
          gi_wp2
          exact hK _ _ (KeepsFrom.refl _ _) ⟨Below.refl _ _, fun _ h => h⟩ ⟨hF, hB, hD, hE, hM, hP⟩ rfl
        case body3 =>
          rintro l pre x a' X hl _ ⟨hF, hB, hD, hE, hM, rfl⟩ rfl hlt
          obtain ⟨j, hjx⟩ : ∃ j, j = x.1 := ⟨_, rfl⟩
          have hjl : j < len := by rw [hjx]; exact x.2.1
          have HF8 : Aside (Fr X w.heap.size a0 a1 a2 a3 a4 a5 code wd ge gc (.slice none 0 0) 0 0 0) := hF
          have HB8 : Aside (Below w.heap.size w X) := hB
          have HD8 : Aside (X.heap[D1]? = some (.deferred (some []))) := hD
          have HE8 : Aside (X.heap[D2]? = some (.deferred (some []))) := hE
          have HM8 : Aside (AlcMid W X Bn Bg bs v g l0) := hM
          simp only [← hjx]
          have HJX := Lib.hid hjx
          clear hF hB hD hE hM hjx hl
          apply wpIn_block
          apply wpIn_seq_k
          intro K19 hK19
          obtain ⟨PP, hPP⟩ : ∃ PP : Exit → Act → World → Prop, PP = (fun e_ a_ y_ => e_ = .normal ∧ ∃ (t107 t108 t109 t110 t111 t112 t113 t114 t115 : Value), a_ = { tmps := #[.agg #[.int .i64 a0, .int .i64 a1, .int .i64 a2, .int .i64 a3, .int .i64 a4, .int .i64 a5], .slice A len cap, .int .i64 code, .int .i64 wd, .agg #[.int .i64 ge, .int .i64 gc], .pointer (some ⟨w.heap.size, 0, none⟩), undef, .pointer (some ⟨w.heap.size + 1, 0, none⟩), .pointer (some ⟨w.heap.size + 1 + 1, 0, none⟩), .pointer (some ⟨w.heap.size + 1 + 1 + 1, 0, none⟩), .pointer (some ⟨w.heap.size + 1 + 1 + 1 + 1, 0, none⟩), .pointer (some ⟨w.heap.size + 1 + 1 + 1 + 1 + 1, 0, none⟩), .pointer (some ⟨w.heap.size + 1 + 1 + 1 + 1 + 1 + 1, 0, none⟩), undef, undef, .pointer (some ⟨Bn, 0, none⟩), .pointer (some ⟨Bg, 0, none⟩), undef, undef, undef, .int .i64 (j : Int), .int .i64 code, .bool false, .bool false, .int .i64 code, .bool false, .bool false, .bool false, .int .i64 wd, .bool false, .bool false, .bool false, .int .i64 wd, .bool false, .bool false, .bool false, .agg #[.int .i64 a0, .int .i64 a1, .int .i64 a2, .int .i64 a3, .int .i64 a4, .int .i64 a5], .int .i64 wd, .int .i64 g, .bool false, .bool false, undef, .slice A len cap, .int .i64 code, .func (.func 34) #[] #[.pointer (some ⟨w1.heap.size, 0, none⟩), .pointer (some ⟨w1.heap.size + 1, 0, none⟩)], undef, undef, undef, undef, undef, undef, undef, .slice A len cap, v, .agg #[.int .i64 a0, .int .i64 a1, .int .i64 a2, .int .i64 a3, .int .i64 a4, .int .i64 a5], .int .i64 wd, .int .i64 g, .slice A len cap, .int .i64 code, .func (.func 34) #[] #[.pointer (some ⟨w'.heap.size, 0, none⟩), .pointer (some ⟨w'.heap.size + 1, 0, none⟩)], undef, undef, undef, undef, undef, undef, undef, undef, undef, undef, undef, undef, undef, undef, undef, undef, undef, undef, undef, undef, undef, undef, undef, undef, undef, undef, undef, undef, undef, undef, undef, undef, undef, undef, undef, undef, undef, undef, undef, undef, undef, undef, undef, .slice A len cap, .func (.func 34) #[] #[.pointer (some ⟨X2.heap.size, 0, none⟩), .pointer (some ⟨X2.heap.size + 1, 0, none⟩)], .int .i64 (j : Int), (rA R j).val, t107, t108, t109, t110, t111, t112, t113, t114, t115, undef, undef, undef, undef], defers := [] } ∧
            (∀ (k : Nat) (ob : Obj), X.heap[k]? = some ob → (∀ cells, ob ≠ .cells cells 59 (0, 0)) → y_.heap[k]? = some ob) ∧ X.heap.size ≤ y_.heap.size ∧ Fr y_ w.heap.size a0 a1 a2 a3 a4 a5 code wd ge gc (.slice none 0 0) 0 0 0 ∧ Below w.heap.size w y_ ∧ y_.heap[D1]? = some (.deferred (some [])) ∧ y_.heap[D2]? = some (.deferred (some [])) ∧ Boxed y_ Bn 25 v ∧
              Kd.S k59 59 y_ bs (fun k => bs ≤ k) v (l0.set j ⟨code, wd, [⟨0, ⟨ge, gc⟩⟩]⟩)) := ⟨_, rfl⟩
          have HPP := Lib.hid hPP
          clear hPP
          refine wpIn_mono (Q := PP) ?r19 ?k19
          case r19 =>
            obtain ⟨gb, cap2, cv0, cv1, cv2, hv, hcv0, hcv1, hcv2, hf0, hf1, hf2, hgl, hbg, hcells⟩ := new_setup HM8.out.cp HLL.out hjl
            subst hv
            have hjz : (j : Int) < (len : Int) := by omega
            have hn2 := HM8.out.bn.cell
            have hq1_ : X.cell? ⟨w.heap.size + 1, 0, none⟩ = some (.int .i64 code) := blk_cell HF8.out.b1 0
            have hq2_ : X.cell? ⟨w.heap.size + 1 + 1, 0, none⟩ = some (.int .i64 wd) := blk_cell HF8.out.b2 0
            have hg0_ : X.cell? ⟨w.heap.size + 1 + 1 + 1, 0, none⟩ = some (.int .i64 ge) := blk_cell HF8.out.b3 0
            have hg1_ : X.cell? ⟨w.heap.size + 1 + 1 + 1, 1, none⟩ = some (.int .i64 gc) := blk_cell HF8.out.b3 1
            have hMP := mid_new (code := code) (wd := wd) (ge := ge) (gc := gc) HF8.out HB8.out HD8.out HE8.out HM8.out hsW (Nat.le_refl _) HLL.out hjl rfl hgl hbg hcells (by omega)
            rw [new3_eq hgl] at hMP
            have HMP := Lib.hid hMP
            clear hMP hcells hbg hK19
            gi_wp2
            rw [HPP.out]
            exact ⟨rfl, _, _, _, _, _, _, _, _, _, rfl, HMP.out⟩
          case k19 =>
            rw [HPP.out]
            rintro e a' x3 ⟨rfl, t107, t108, t109, t110, t111, t112, t113, t114, t115, rfl, hkp, hsz3, hF, hB, hD, hE, hBx2, hS⟩
            refine hK19 _ _ ?_
            clear hK19 K19
            obtain ⟨sA, sn, sc, rfl⟩ : ∃ A n c, v = .slice A n c := by
              obtain ⟨A_, c_, e_⟩ := Kd.S_slice hS
              exact ⟨_, _, _, e_⟩
            have cb := hBx2.cell
            have c4 : x3.cell? ⟨w.heap.size + 1 + 1 + 1 + 1, 0, none⟩ = some (.slice none 0 0) := blk_cell hF.b4 0
            have c5 : x3.cell? ⟨w.heap.size + 1 + 1 + 1 + 1 + 1, 0, none⟩ = some (.int .i64 0) := blk_cell hF.b5 0
            have c5b : x3.cell? ⟨w.heap.size + 1 + 1 + 1 + 1 + 1, 1, none⟩ = some (.int .i64 0) := blk_cell hF.b5 1
            have c6 : x3.cell? ⟨w.heap.size + 1 + 1 + 1 + 1 + 1 + 1, 0, none⟩ = some (.int .i64 0) := blk_cell hF.b6 0
            have f4 := blk_frozen hF.b4 0
            have f5 := blk_frozen hF.b5 0
            have f5b := blk_frozen hF.b5 1
            have f6 := blk_frozen hF.b6 0
            have HKP : Aside (∀ (k : Nat) (ob : Obj), X.heap[k]? = some ob → (∀ cells, ob ≠ .cells cells 59 (0, 0)) → x3.heap[k]? = some ob) := hkp
            have HF9 : Aside (Fr x3 w.heap.size a0 a1 a2 a3 a4 a5 code wd ge gc (.slice none 0 0) 0 0 0) := hF
            have HB9 : Aside (Below w.heap.size w x3) := hB
            have HD9 : Aside (x3.heap[D1]? = some (.deferred (some []))) := hD
            have HE9 : Aside (x3.heap[D2]? = some (.deferred (some []))) := hE
            have HS9 : Aside (Kd.S k59 59 x3 bs (fun k => bs ≤ k) (.slice sA sn sc) (l0.set j ⟨code, wd, [⟨0, ⟨ge, gc⟩⟩]⟩)) := hS
            clear hkp hF hB hD hE hBx2 hS
            gi_wp2
            have hbs := HM8.out.ns
            have hB5 := ret4_below (u1 := .slice sA sn sc) (u2 := .int .i64 j) (u3 := .int .i64 0) (u4 := .int .i64 0) HB9.out
            have hko : KeepsOthers X x3 := ⟨hsz3, fun q o hq ho => HKP.out q o hq (fun cells e_ => by rw [e_] at ho; cases ho)⟩
            refine ⟨(ret4_keeps hko).from _, rfl, ret4_far hDlo HD9.out, ret4_far hElo HE9.out, [], x, .slice sA sn sc, ⟨rfl, rfl⟩, ?_, hB5, ?_⟩
            · rw [← HJX.out]
              exact Fr.ret HF9.out (.slice sA sn sc) j 0 0
            · rw [← HJX.out]
              exact ret4_S (by omega) HS9.out
        case done3 =>
          rintro D3 ys3 X hD3 hys3 ⟨hF, hB, hD, hE, hM, rfl⟩ hK3
          have hD3s : D3 < X.heap.size := blk_lt hK3
          have hns := hM.ns
          have hlo3 : w.heap.size + 7 ≤ D3 := by omega
          have hne1 : D1 ≠ D3 := by omega
          have hne2 : D2 ≠ D3 := by omega
          have c4 : X.cell? ⟨w.heap.size + 1 + 1 + 1 + 1, 0, none⟩ = some (.slice none 0 0) := blk_cell hF.b4 0
          have c5 : X.cell? ⟨w.heap.size + 1 + 1 + 1 + 1 + 1, 0, none⟩ = some (.int .i64 0) := blk_cell hF.b5 0
          have c5b : X.cell? ⟨w.heap.size + 1 + 1 + 1 + 1 + 1, 1, none⟩ = some (.int .i64 0) := blk_cell hF.b5 1
          have c6 : X.cell? ⟨w.heap.size + 1 + 1 + 1 + 1 + 1 + 1, 0, none⟩ = some (.int .i64 0) := blk_cell hF.b6 0
          have f4 := blk_frozen hF.b4 0
          have f5 := blk_frozen hF.b5 0
          have f5b := blk_frozen hF.b5 1
          have f6 := blk_frozen hF.b6 0
          have HF9 : Aside (Fr X w.heap.size a0 a1 a2 a3 a4 a5 code wd ge gc (.slice none 0 0) 0 0 0) := hF
          have HB9 : Aside (Below w.heap.size w X) := hB
          have HD9 : Aside (X.heap[D1]? = some (.deferred (some []))) := hD
          have HE9 : Aside (X.heap[D2]? = some (.deferred (some []))) := hE
          have HG9 : Aside (X.heap[D3]? = some (.deferred (some []))) := hK3
          have HY3 : Aside (([] : List (Jx (-1) R len)).map Subtype.val = ofJ (-1) R len) := hys3
          clear hF hB hD hE hM hK3 hys3
          gi_wp2
          have hwid := widths_all HM.out HLL.out HYS.out HW.out
          have hroom := room_none HM.out HLL.out HYa.out HPa.out
          have hfree := free_none HM.out HLL.out HY3.out rfl
          have hpost : AlcPost w (allocG l0 code wd g ge gc) = AlcPost w ([], 0, 0, 16) := by rw [allocG_full hwid hroom hfree]
          rw [HQ.out, hpost]
          exact alc_leaves (bs := w.heap.size) rfl rfl rfl (Nat.le_refl _) [D3, D2, D1] _ (Fr.ret HF9.out (.slice none 0 0) 0 0 16) (ret4_below HB9.out) (Kd.S_nil _ _ _ _ _) (fun E hE => by
            rcases List.mem_cons.1 hE with rfl | hE
            · exact ⟨by omega, ret4_far (by omega) HG9.out⟩
            rcases List.mem_cons.1 hE with rfl | hE
            · exact ⟨by omega, ret4_far (by omega) HE9.out⟩
            · rw [List.mem_singleton.1 hE]; exact ⟨hDlo, ret4_far hDlo HD9.out⟩) (by simp; omega)
        case stop3 =>
          rintro D3 c pre X hD3 ⟨k, hk, hpre⟩ ⟨rfl, hD, hE, p0, y, v', ⟨rfl, rfl⟩, hF, hB, hS⟩ hK
          gi_wp2
          have hD3s : D3 < X.heap.size := blk_lt hK
          have hns := HM7.out.ns
          have hlo3 : w.heap.size + 7 ≤ D3 := by omega
          have hne1 : D1 ≠ D3 := by omega
          have hne2 : D2 ≠ D3 := by omega
          have hwid := widths_all HM.out HLL.out HYS.out HW.out
          have hroom := room_none HM.out HLL.out HYa.out HPa.out
          have hfree := free_some HM.out HLL.out hk (by exact hpre)
          have hpost : AlcPost w (allocG l0 code wd g ge gc) = AlcPost w (l0.set y.1 ⟨code, wd, [⟨0, ⟨ge, gc⟩⟩]⟩, (y.1 : Int), 0, 0) := by rw [allocG_new hwid hroom hfree]
          rw [HQ.out, hpost]
          exact alc_leaves rfl rfl rfl (by omega) [D3, D2, D1] X hF hB hS (fun E hE2 => by
            rcases List.mem_cons.1 hE2 with rfl | hE2
            · exact ⟨by omega, hK⟩
            rcases List.mem_cons.1 hE2 with rfl | hE2
            · exact ⟨by omega, hE⟩
            · rw [List.mem_singleton.1 hE2]; exact ⟨hDlo, hD⟩) (by simp; omega)
      case stop =>
        rintro D c pre X hD ⟨k, hk, hpre⟩ ⟨rfl, hD1, p0, y, v', ⟨rfl, hp0, hy⟩, hF, hB, hS⟩ hK
        gi_wp2
        have hns := HM7.out.ns
        have hroom := room_some HM.out HLL.out hk hpre hp0 hy
        have hwid := widths_all HM.out HLL.out HYS.out HW.out
        have hpost : AlcPost w (allocG l0 code wd g ge gc) = AlcPost w (putRow l0 y.1 ge gc, (y.1 : Int), (gap0 (rA R y.1).x.f2 : Int), 0) := by
          rw [allocG_put hwid hroom, rA_x HM.out]
        rw [HQ.out, hpost]
        exact alc_leaves rfl rfl rfl (by omega) [D, D1] X hF hB hS (fun E hE => by
          rcases List.mem_cons.1 hE with rfl | hE
          · exact ⟨by omega, hK⟩
          · rw [List.mem_singleton.1 hE]; exact ⟨hDlo, hD1⟩) (by simp; omega)

end Go.Proofs.Ytlodlblkmnhaeaa

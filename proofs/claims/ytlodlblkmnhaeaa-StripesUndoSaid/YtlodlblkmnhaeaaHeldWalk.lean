/- The walk of stripes.Held: how many rows a code has. -/
import Derived.Test.YtlodlblkmnhaeaaOfWalk
namespace Go.Proofs.Ytlodlblkmnhaeaa
set_option linter.unusedVariables false
open Go.RowKit Go.Shelf Go.Proofs.Ytlodlblkmnhaeaa.P Go.Proofs.YtlodlblkmnhaeaaW.PrintWords Go.Proofs.YtlodlblkmnhaeaaW.PrintLast Go.Proofs.YtlodlblkmnhaeaaW.PrintMore
attribute [local go_sem] Oper.semAt_some

theorem zip2 (p q : Tmp) (a b : Value) : (#[p, q] : Array Tmp).zip #[a, b] = #[(p, a), (q, b)] := by simp

set_option maxRecDepth 100000 in
set_option maxHeartbeats 4000000 in
theorem held_in (F : Fence) (n : Nat) (h17 : F.fn 17) (h23 : F.fn 23) (h34 : F.fn 34) (hro : F.round = none) (hn : 3 ≤ n) (A : Option Addr) (len cap : Nat) (code : Int) (R : List RowA) (w : World) (hR : RowsAt w.heap.size w A len R) :
    CallsIn F n Try.prog 17 #[.slice A len cap, .int .i64 code] w fun e W' => e = .returned (.int .i64 ((ofJ code R len).length : Int)) ∧ Below w.heap.size w W' := by
  have h1 : 1 ≤ n := by omega
  have hlen := hR.2.1
  refine callsIn_of_wp_marks Try.func17 rfl h17 ?_ hro
  simp only [Try.ntmps17, List.size_toArray, List.length_cons, List.length_nil, Nat.reduceAdd, Nat.reduceSub, Array.replicate_succ, Array.replicate_zero, List.push_toArray, List.append_toArray, List.nil_append, List.cons_append]
  gi_wp2_with (gi_at_call 23; refine (of_in F (n - 1) h23 hro _ _ _ _ _).mono ?_; rintro e w' ⟨rfl, rfl⟩)
  have bS := ((Boxed.new w 3 (.int .i64 0)).alloc (.cells #[.slice A len cap] 25)).alloc (.cells #[.int .i64 code] 3)
  have bR := (Boxed.new (w.alloc (.cells #[.int .i64 0] 3)) 25 (.slice A len cap)).alloc (.cells #[.int .i64 code] 3)
  have bC := Boxed.new ((w.alloc (.cells #[.int .i64 0] 3)).alloc (.cells #[.slice A len cap] 25)) 3 (.int .i64 code)
  simp only [World.size_alloc] at bR bC
  have hB0 : Below w.heap.size w (((w.alloc (.cells #[.int .i64 0] 3)).alloc (.cells #[.slice A len cap] 25)).alloc (.cells #[.int .i64 code] 3)) := (((Below.refl _ w).alloc (Nat.le_refl _) _).alloc (by simp) _).alloc (by simp; omega) _
  have hsz : (((w.alloc (.cells #[.int .i64 0] 3)).alloc (.cells #[.slice A len cap] 25)).alloc (.cells #[.int .i64 code] 3)).heap.size = w.heap.size + 3 := by simp
  obtain ⟨W0, hW0⟩ : ∃ W0, ((w.alloc (.cells #[.int .i64 0] 3)).alloc (.cells #[.slice A len cap] 25)).alloc (.cells #[.int .i64 code] 3) = W0 := ⟨_, rfl⟩
  rw [hW0] at bS bR bC hB0 hsz ⊢
  clear hW0
  have hR0 := hR.below hB0
  refine wpIn_rangeFunc_ownG hro h1 (gf := 34) (lb := #[.pointer (some ⟨w.heap.size + 1, 0, none⟩), .pointer (some ⟨w.heap.size + 1 + 1, 0, none⟩)]) rfl h34 (enters_of Try.func34 (by kernel_rfl) rfl)
    (of_stops F (n - 1) h34 hro (by omega) (w.heap.size + 1) (w.heap.size + 1 + 1) w.heap.size len cap A code R W0 (by omega) bR bC hR0) kq_t (kq_b (by omega) (by omega)) (Below.refl _ _) (fun _ => rfl)
    (fun pre W => Boxed W w.heap.size 3 (.int .i64 (pre.length : Int)) ∧ Below w.heap.size w W)
    (fun _ _ _ => False)
    (OwnFrom.and (Own.from (boxed_own _ _ _) _) (ownFrom_below (Nat.le_refl _) (by omega)))
    (fun _ _ _ _ _ hs _ _ => hs)
    ⟨bS, hB0⟩
    (fun x => { tmps := #[.slice A len cap, .int .i64 code, undef, undef, .int .i64 0, .pointer (some ⟨w.heap.size, 0, none⟩), .slice A len cap, .int .i64 code, .func (.func 34) #[] #[.pointer (some ⟨w.heap.size + 1, 0, none⟩), .pointer (some ⟨w.heap.size + 1 + 1, 0, none⟩)], .int .i64 (x.1 : Int), (rA R x.1).val, undef, undef, undef], defers := [] }) ?assign ?body ?done ?stop
  case assign =>
    intro l x W K hK
    simp only [encO, zip2]
    gi_wp2
    exact hK
  case body =>
    rintro l pre x W ⟨bS1, hB⟩ hlt
    have cS := bS1.cell
    have fS := bS1.frozen
    gi_wp2
    exact ⟨(KeepsOthers.setCell _ _ _).from _, ⟨(Below.refl _ W).setCell (p := ⟨w.heap.size, 0, none⟩) (Nat.le_refl _) _, fun v hv => hv.other (by omega) _⟩, by rw [List.length_append, List.length_singleton]; exact bS1.set _, hB.setCell (p := ⟨w.heap.size, 0, none⟩) (Nat.le_refl _) _⟩
  case done =>
    rintro D ys W hD hys ⟨bS1, hB⟩ hK
    have hl : ys.length = (ofJ code R len).length := by rw [← hys, List.length_map]
    rw [hl] at bS1
    clear hl hys
    have cS := bS1.cell
    gi_wp2
    refine ⟨by simp, .inl ⟨_, _, rfl, run_takeDeferred hK, ?_⟩⟩
    exact ⟨_, results_tmp rfl _ _ _, rfl, hB.trans (belowK_b (w := w) (Nat.le_refl _) W D _ _ (by omega) hK rfl rfl)⟩
  case stop =>
    rintro D c pre W _ _ h _
    exact h.elim


theorem held_any (A : Option Addr) (c : Nat) (l : List S59) (code : Int) (w : World) (hl : Kd.C k59 w A l.length l) (hn : l.length ≤ 1000000) :
    ∃ R : List RowA, R.map RowA.x = l ∧ Calls Try.prog 17 #[.slice A l.length c, .int .i64 code] w fun e w' => e = .returned (.int .i64 ((ofJ code R l.length).length : Int)) ∧ Below w.heap.size w w' := by
  obtain ⟨R, hm, hR, _⟩ := rowsAt_of hl hn
  exact ⟨R, hm, (callsIn_wide (n := 8)).1 (held_in Fence.wide 8 trivial trivial trivial rfl (by omega) A l.length c code R w hR)⟩

end Go.Proofs.Ytlodlblkmnhaeaa

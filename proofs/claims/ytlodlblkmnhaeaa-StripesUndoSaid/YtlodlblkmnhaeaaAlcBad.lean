/- The walk of stripes.Allocate where an argument is not valid. -/
import Derived.Test.YtlodlblkmnhaeaaAlcDefs
namespace Go.Proofs.Ytlodlblkmnhaeaa
set_option linter.unusedVariables false
open Go.RowKit Go.Lib Go.Proofs.Ytlodlblkmnhaeaa.P Go.Proofs.YtlodlblkmnhaeaaW.PrintWords Go.Proofs.YtlodlblkmnhaeaaW.PrintLast Go.Proofs.YtlodlblkmnhaeaaW.PrintMore

set_option maxHeartbeats 8000000 in
theorem alc_bad1 (a0 a1 a2 a3 a4 a5 : Int) (A : Option Addr) (n c : Nat) (code wd ge gc : Int) (w : World)  (h0 : code < 0) :
    Calls Try.prog 9 #[.agg #[.int .i64 a0, .int .i64 a1, .int .i64 a2, .int .i64 a3, .int .i64 a4, .int .i64 a5], .slice A n c, .int .i64 code, .int .i64 wd, .agg #[.int .i64 ge, .int .i64 gc]] w (AlcPost w ([], 0, 0, 1)) := by
  have hd0 : decide (code < 0) = true := decide_eq_true h0
  have hu := Try.underlying23
  have hu29 := Try.underlying29
  have hu27 := Try.underlying27
  obtain ⟨Q, hQ⟩ : ∃ Q, Q = AlcPost w ([], 0, 0, 1) := ⟨_, rfl⟩
  rw [← hQ]
  have HQ := Lib.hid hQ
  clear hQ
  go_enter Try.func9, Try.ntmps9
  go_wp2
  refine bodyPost_ret (v := .tuple #[.slice none 0 0, .agg #[.int .i64 0, .int .i64 0], .int .i64 1]) (by simp [results, Try.results9, go_sem]) rfl ?_
  rw [HQ.out]
  exact ⟨_, rfl, Kd.S_nil _ _ _ _ _, below_alloc (below_alloc (below_alloc (below_alloc (below_alloc (below_alloc (below_alloc (Below.refl _ _) _) _) _) _) _) _) _⟩

set_option maxHeartbeats 8000000 in
theorem alc_bad2 (a0 a1 a2 a3 a4 a5 : Int) (A : Option Addr) (n c : Nat) (code wd ge gc : Int) (w : World) (h0 : ¬ code < 0) (h1 : code ≥ 8) :
    Calls Try.prog 9 #[.agg #[.int .i64 a0, .int .i64 a1, .int .i64 a2, .int .i64 a3, .int .i64 a4, .int .i64 a5], .slice A n c, .int .i64 code, .int .i64 wd, .agg #[.int .i64 ge, .int .i64 gc]] w (AlcPost w ([], 0, 0, 1)) := by
  have hd0 : decide (code < 0) = false := decide_eq_false h0
  have hd1 : decide (8 ≤ code) = true := decide_eq_true h1
  have hu := Try.underlying23
  have hu29 := Try.underlying29
  have hu27 := Try.underlying27
  obtain ⟨Q, hQ⟩ : ∃ Q, Q = AlcPost w ([], 0, 0, 1) := ⟨_, rfl⟩
  rw [← hQ]
  have HQ := Lib.hid hQ
  clear hQ
  go_enter Try.func9, Try.ntmps9
  go_wp2
  refine bodyPost_ret (v := .tuple #[.slice none 0 0, .agg #[.int .i64 0, .int .i64 0], .int .i64 1]) (by simp [results, Try.results9, go_sem]) rfl ?_
  rw [HQ.out]
  exact ⟨_, rfl, Kd.S_nil _ _ _ _ _, below_alloc (below_alloc (below_alloc (below_alloc (below_alloc (below_alloc (below_alloc (Below.refl _ _) _) _) _) _) _) _) _⟩

set_option maxHeartbeats 8000000 in
theorem alc_bad3 (a0 a1 a2 a3 a4 a5 : Int) (A : Option Addr) (n c : Nat) (code wd ge gc : Int) (w : World) (h0 : ¬ code < 0) (h1 : ¬ code ≥ 8) (h2 : wd < 1) :
    Calls Try.prog 9 #[.agg #[.int .i64 a0, .int .i64 a1, .int .i64 a2, .int .i64 a3, .int .i64 a4, .int .i64 a5], .slice A n c, .int .i64 code, .int .i64 wd, .agg #[.int .i64 ge, .int .i64 gc]] w (AlcPost w ([], 0, 0, 1)) := by
  have hd0 : decide (code < 0) = false := decide_eq_false h0
  have hd1 : decide (8 ≤ code) = false := decide_eq_false h1
  have hd2 : decide (wd < 1) = true := decide_eq_true h2
  have hu := Try.underlying23
  have hu29 := Try.underlying29
  have hu27 := Try.underlying27
  obtain ⟨Q, hQ⟩ : ∃ Q, Q = AlcPost w ([], 0, 0, 1) := ⟨_, rfl⟩
  rw [← hQ]
  have HQ := Lib.hid hQ
  clear hQ
  go_enter Try.func9, Try.ntmps9
  go_wp2
  refine bodyPost_ret (v := .tuple #[.slice none 0 0, .agg #[.int .i64 0, .int .i64 0], .int .i64 1]) (by simp [results, Try.results9, go_sem]) rfl ?_
  rw [HQ.out]
  exact ⟨_, rfl, Kd.S_nil _ _ _ _ _, below_alloc (below_alloc (below_alloc (below_alloc (below_alloc (below_alloc (below_alloc (Below.refl _ _) _) _) _) _) _) _) _⟩

set_option maxHeartbeats 8000000 in
theorem alc_bad4 (a0 a1 a2 a3 a4 a5 : Int) (A : Option Addr) (n c : Nat) (code wd ge gc : Int) (w : World) (h0 : ¬ code < 0) (h1 : ¬ code ≥ 8) (h2 : ¬ wd < 1) (h3 : wd > 32) :
    Calls Try.prog 9 #[.agg #[.int .i64 a0, .int .i64 a1, .int .i64 a2, .int .i64 a3, .int .i64 a4, .int .i64 a5], .slice A n c, .int .i64 code, .int .i64 wd, .agg #[.int .i64 ge, .int .i64 gc]] w (AlcPost w ([], 0, 0, 1)) := by
  have hd0 : decide (code < 0) = false := decide_eq_false h0
  have hd1 : decide (8 ≤ code) = false := decide_eq_false h1
  have hd2 : decide (wd < 1) = false := decide_eq_false h2
  have hd3 : decide (32 < wd) = true := decide_eq_true h3
  have hu := Try.underlying23
  have hu29 := Try.underlying29
  have hu27 := Try.underlying27
  obtain ⟨Q, hQ⟩ : ∃ Q, Q = AlcPost w ([], 0, 0, 1) := ⟨_, rfl⟩
  rw [← hQ]
  have HQ := Lib.hid hQ
  clear hQ
  go_enter Try.func9, Try.ntmps9
  go_wp2
  refine bodyPost_ret (v := .tuple #[.slice none 0 0, .agg #[.int .i64 0, .int .i64 0], .int .i64 1]) (by simp [results, Try.results9, go_sem]) rfl ?_
  rw [HQ.out]
  exact ⟨_, rfl, Kd.S_nil _ _ _ _ _, below_alloc (below_alloc (below_alloc (below_alloc (below_alloc (below_alloc (below_alloc (Below.refl _ _) _) _) _) _) _) _) _⟩

/-- The arguments and the results in memory (s: the first of the seven blocks). -/
structure Fr (W : World) (s : Nat) (a0 a1 a2 a3 a4 a5 code wd ge gc : Int) (v : Value) (rj rg er : Int) : Prop where
  b0 : W.heap[s]? = some (.cells #[.int .i64 a0, .int .i64 a1, .int .i64 a2, .int .i64 a3, .int .i64 a4, .int .i64 a5] 23 (0, 0))
  b1 : W.heap[s + 1]? = some (.cells #[.int .i64 code] 3 (0, 0))
  b2 : W.heap[s + 1 + 1]? = some (.cells #[.int .i64 wd] 3 (0, 0))
  b3 : W.heap[s + 1 + 1 + 1]? = some (.cells #[.int .i64 ge, .int .i64 gc] 27 (0, 0))
  b4 : W.heap[s + 1 + 1 + 1 + 1]? = some (.cells #[v] 25 (0, 0))
  b5 : W.heap[s + 1 + 1 + 1 + 1 + 1]? = some (.cells #[.int .i64 rj, .int .i64 rg] 29 (0, 0))
  b6 : W.heap[s + 1 + 1 + 1 + 1 + 1 + 1]? = some (.cells #[.int .i64 er] 33 (0, 0))

theorem Fr.keep {W W' : World} {s : Nat} {a0 a1 a2 a3 a4 a5 code wd ge gc rj rg er : Int} {v : Value} (h : Fr W s a0 a1 a2 a3 a4 a5 code wd ge gc v rj rg er) (hk : ∀ k, s ≤ k → k < s + 7 → W'.heap[k]? = W.heap[k]?) : Fr W' s a0 a1 a2 a3 a4 a5 code wd ge gc v rj rg er :=
  ⟨(hk _ (by omega) (by omega)).trans h.b0, (hk _ (by omega) (by omega)).trans h.b1, (hk _ (by omega) (by omega)).trans h.b2, (hk _ (by omega) (by omega)).trans h.b3, (hk _ (by omega) (by omega)).trans h.b4, (hk _ (by omega) (by omega)).trans h.b5, (hk _ (by omega) (by omega)).trans h.b6⟩
theorem Fr.lt {W : World} {s : Nat} {a0 a1 a2 a3 a4 a5 code wd ge gc rj rg er : Int} {v : Value} (h : Fr W s a0 a1 a2 a3 a4 a5 code wd ge gc v rj rg er) : s + 7 ≤ W.heap.size := by have := blk_lt h.b6; omega
theorem Fr.below {W W' : World} {s : Nat} {a0 a1 a2 a3 a4 a5 code wd ge gc rj rg er : Int} {v : Value} (h : Fr W s a0 a1 a2 a3 a4 a5 code wd ge gc v rj rg er) (hb : Below W.heap.size W W') : Fr W' s a0 a1 a2 a3 a4 a5 code wd ge gc v rj rg er :=
  h.keep (fun k _ hk => hb.block k (by have := h.lt; omega))
/-- The results stored. -/
theorem Fr.ret {W : World} {s : Nat} {a0 a1 a2 a3 a4 a5 code wd ge gc rj rg er : Int} {v : Value} (h : Fr W s a0 a1 a2 a3 a4 a5 code wd ge gc v rj rg er) (v' : Value) (rj' rg' er' : Int) :
    Fr ((((W.setCell ⟨s + 1 + 1 + 1 + 1, 0, none⟩ v').setCell ⟨s + 1 + 1 + 1 + 1 + 1, 0, none⟩ (.int .i64 rj')).setCell ⟨s + 1 + 1 + 1 + 1 + 1, 1, none⟩ (.int .i64 rg')).setCell ⟨s + 1 + 1 + 1 + 1 + 1 + 1, 0, none⟩ (.int .i64 er')) s a0 a1 a2 a3 a4 a5 code wd ge gc v' rj' rg' er' := by
  have far : ∀ (X : World) (g j k : Nat) (u : Value) (o : Obj), k ≠ g → X.heap[k]? = some o → (X.setCell ⟨g, j, none⟩ u).heap[k]? = some o := fun X g j k u o hk hx => (Below.heap_setCell X ⟨g, j, none⟩ u k hk).trans hx
  refine ⟨?_, ?_, ?_, ?_, ?_, ?_, ?_⟩
  · exact far _ _ _ _ _ _ (by omega) (far _ _ _ _ _ _ (by omega) (far _ _ _ _ _ _ (by omega) (far _ _ _ _ _ _ (by omega) h.b0)))
  · exact far _ _ _ _ _ _ (by omega) (far _ _ _ _ _ _ (by omega) (far _ _ _ _ _ _ (by omega) (far _ _ _ _ _ _ (by omega) h.b1)))
  · exact far _ _ _ _ _ _ (by omega) (far _ _ _ _ _ _ (by omega) (far _ _ _ _ _ _ (by omega) (far _ _ _ _ _ _ (by omega) h.b2)))
  · exact far _ _ _ _ _ _ (by omega) (far _ _ _ _ _ _ (by omega) (far _ _ _ _ _ _ (by omega) (far _ _ _ _ _ _ (by omega) h.b3)))
  · exact far _ _ _ _ _ _ (by omega) (far _ _ _ _ _ _ (by omega) (far _ _ _ _ _ _ (by omega) (blk_put h.b4 0 v' rfl)))
  · exact far _ _ _ _ _ _ (by omega) (blk_put (blk_put (far _ _ _ _ _ _ (by omega) h.b5) 0 _ rfl) 1 _ rfl)
  · exact blk_put (far _ _ _ _ _ _ (by omega) (far _ _ _ _ _ _ (by omega) (far _ _ _ _ _ _ (by omega) h.b6))) 0 _ rfl

theorem fr_new (w : World) (a0 a1 a2 a3 a4 a5 code wd ge gc : Int) : Fr (((((((w.alloc (.cells #[.int .i64 a0, .int .i64 a1, .int .i64 a2, .int .i64 a3, .int .i64 a4, .int .i64 a5] 23)).alloc (.cells #[.int .i64 code] 3)).alloc (.cells #[.int .i64 wd] 3)).alloc (.cells #[.int .i64 ge, .int .i64 gc] 27)).alloc (.cells #[.slice none 0 0] 25)).alloc (.cells #[.int .i64 0, .int .i64 0] 29)).alloc (.cells #[.int .i64 0] 33)) w.heap.size a0 a1 a2 a3 a4 a5 code wd ge gc (.slice none 0 0) 0 0 0 := by
  have nw : ∀ (X : World) (o : Obj) (k : Nat), k = X.heap.size → (X.alloc o).heap[k]? = some o := fun X o k hk => by rw [hk]; exact heap_alloc_new X o
  refine ⟨?_, ?_, ?_, ?_, ?_, ?_, ?_⟩
  · exact blk_alloc (blk_alloc (blk_alloc (blk_alloc (blk_alloc (blk_alloc (nw _ _ _ rfl) _) _) _) _) _) _
  · exact blk_alloc (blk_alloc (blk_alloc (blk_alloc (blk_alloc (nw _ _ _ (by simp)) _) _) _) _) _
  · exact blk_alloc (blk_alloc (blk_alloc (blk_alloc (nw _ _ _ (by simp)) _) _) _) _
  · exact blk_alloc (blk_alloc (blk_alloc (nw _ _ _ (by simp)) _) _) _
  · exact blk_alloc (blk_alloc (nw _ _ _ (by simp)) _) _
  · exact blk_alloc (nw _ _ _ (by simp)) _
  · exact nw _ _ _ (by simp)
theorem fr_below (w : World) (a0 a1 a2 a3 a4 a5 code wd ge gc : Int) : Below w.heap.size w (((((((w.alloc (.cells #[.int .i64 a0, .int .i64 a1, .int .i64 a2, .int .i64 a3, .int .i64 a4, .int .i64 a5] 23)).alloc (.cells #[.int .i64 code] 3)).alloc (.cells #[.int .i64 wd] 3)).alloc (.cells #[.int .i64 ge, .int .i64 gc] 27)).alloc (.cells #[.slice none 0 0] 25)).alloc (.cells #[.int .i64 0, .int .i64 0] 29)).alloc (.cells #[.int .i64 0] 33)) := below_alloc (below_alloc (below_alloc (below_alloc (below_alloc (below_alloc (below_alloc (Below.refl _ _) _) _) _) _) _) _) _
theorem fr_size (w : World) (a0 a1 a2 a3 a4 a5 code wd ge gc : Int) : ((((((((w.alloc (.cells #[.int .i64 a0, .int .i64 a1, .int .i64 a2, .int .i64 a3, .int .i64 a4, .int .i64 a5] 23)).alloc (.cells #[.int .i64 code] 3)).alloc (.cells #[.int .i64 wd] 3)).alloc (.cells #[.int .i64 ge, .int .i64 gc] 27)).alloc (.cells #[.slice none 0 0] 25)).alloc (.cells #[.int .i64 0, .int .i64 0] 29)).alloc (.cells #[.int .i64 0] 33))).heap.size = w.heap.size + 7 := by simp

theorem alc_results {W : World} {s : Nat} {a0 a1 a2 a3 a4 a5 code wd ge gc rj rg er : Int} {v : Value} (h : Fr W s a0 a1 a2 a3 a4 a5 code wd ge gc v rj rg er) (hv : ∃ A n c, v = .slice A n c) (tmps : Array Value)
    (h10 : tmps.getD 10 undef = .pointer (some ⟨s + 1 + 1 + 1 + 1, 0, none⟩)) (h11 : tmps.getD 11 undef = .pointer (some ⟨s + 1 + 1 + 1 + 1 + 1, 0, none⟩)) (h12 : tmps.getD 12 undef = .pointer (some ⟨s + 1 + 1 + 1 + 1 + 1 + 1, 0, none⟩)) :
    (results Try.f9 tmps).run Try.prog W = .ok (.tuple #[v, .agg #[.int .i64 rj, .int .i64 rg], .int .i64 er]) W := by
  obtain ⟨A, n, c, rfl⟩ := hv
  have c4 : W.cell? ⟨s + 1 + 1 + 1 + 1, 0, none⟩ = some (.slice A n c) := blk_cell h.b4 0
  have c5 : W.cell? ⟨s + 1 + 1 + 1 + 1 + 1, 0, none⟩ = some (.int .i64 rj) := blk_cell h.b5 0
  have c5b : W.cell? ⟨s + 1 + 1 + 1 + 1 + 1, 1, none⟩ = some (.int .i64 rg) := blk_cell h.b5 1
  have c6 : W.cell? ⟨s + 1 + 1 + 1 + 1 + 1 + 1, 0, none⟩ = some (.int .i64 er) := blk_cell h.b6 0
  have e10 : tmps[10]?.getD undef = .pointer (some ⟨s + 1 + 1 + 1 + 1, 0, none⟩) := by simpa using h10
  have e11 : tmps[11]?.getD undef = .pointer (some ⟨s + 1 + 1 + 1 + 1 + 1, 0, none⟩) := by simpa using h11
  have e12 : tmps[12]?.getD undef = .pointer (some ⟨s + 1 + 1 + 1 + 1 + 1 + 1, 0, none⟩) := by simpa using h12
  clear h h10 h11 h12
  simp [results, Try.results9, go_sem, e10, e11, e12, c4, c5, c5b, c6]

set_option maxHeartbeats 8000000 in
theorem alc_bad5 (a0 a1 a2 a3 a4 a5 : Int) (A : Option Addr) (n c : Nat) (code wd ge gc : Int) (w : World) (h0 : ¬ code < 0) (h1 : ¬ code ≥ 8) (h2 : ¬ wd < 1) (h3 : ¬ wd > 32) (h5 : grpO a0 a1 a2 a3 a4 a5 wd = 0) :
    Calls Try.prog 9 #[.agg #[.int .i64 a0, .int .i64 a1, .int .i64 a2, .int .i64 a3, .int .i64 a4, .int .i64 a5], .slice A n c, .int .i64 code, .int .i64 wd, .agg #[.int .i64 ge, .int .i64 gc]] w (AlcPost w ([], 0, 0, 1)) := by
  have hd0 : decide (code < 0) = false := decide_eq_false h0
  have hd1 : decide (8 ≤ code) = false := decide_eq_false h1
  have hd2 : decide (wd < 1) = false := decide_eq_false h2
  have hd3 : decide (32 < wd) = false := decide_eq_false h3
  have GC : Aside (∀ W, Calls Try.prog 15 #[.agg #[.int .i64 a0, .int .i64 a1, .int .i64 a2, .int .i64 a3, .int .i64 a4, .int .i64 a5], .int .i64 wd] W fun e w' => e = .returned (.int .i64 0) ∧ Below W.heap.size W w') := fun W => by
    have := groups_any a0 a1 a2 a3 a4 a5 wd W
    rwa [h5] at this
  have hF := fr_new w a0 a1 a2 a3 a4 a5 code wd ge gc
  have hB := fr_below w a0 a1 a2 a3 a4 a5 code wd ge gc
  have HF : Aside (Fr _ w.heap.size a0 a1 a2 a3 a4 a5 code wd ge gc _ _ _ _) := hF
  have HB : Aside _ := hB
  clear hF hB h5
  have hu := Try.underlying23
  have hu29 := Try.underlying29
  have hu27 := Try.underlying27
  obtain ⟨Q, hQ⟩ : ∃ Q, Q = AlcPost w ([], 0, 0, 1) := ⟨_, rfl⟩
  rw [← hQ]
  have HQ := Lib.hid hQ
  clear hQ
  go_enter Try.func9, Try.ntmps9
  go_wp2_with (go_at_call 15; refine (GC.out _).mono ?_; rintro e w1 ⟨rfl, hb⟩; have HF1 : Aside (Fr w1 w.heap.size a0 a1 a2 a3 a4 a5 code wd ge gc (.slice none 0 0) 0 0 0) := Fr.below HF.out hb; have HB1 : Aside (Below w.heap.size w w1) := below_then HB.out HB.out.size hb; have c4 : w1.cell? ⟨w.heap.size + 1 + 1 + 1 + 1, 0, none⟩ = some (.slice none 0 0) := blk_cell HF1.out.b4 0; have c5 : w1.cell? ⟨w.heap.size + 1 + 1 + 1 + 1 + 1, 0, none⟩ = some (.int .i64 0) := blk_cell HF1.out.b5 0; have c5b : w1.cell? ⟨w.heap.size + 1 + 1 + 1 + 1 + 1, 1, none⟩ = some (.int .i64 0) := blk_cell HF1.out.b5 1; have c6 : w1.cell? ⟨w.heap.size + 1 + 1 + 1 + 1 + 1 + 1, 0, none⟩ = some (.int .i64 0) := blk_cell HF1.out.b6 0; have f4 := blk_frozen HF1.out.b4 0; have f5 := blk_frozen HF1.out.b5 0; have f5b := blk_frozen HF1.out.b5 1; have f6 := blk_frozen HF1.out.b6 0; clear hb)
  refine bodyPost_ret (alc_results (Fr.ret HF1.out (.slice none 0 0) 0 0 1) ⟨_, _, _, rfl⟩ _ rfl rfl rfl) rfl ?_
  rw [HQ.out]
  exact ⟨_, rfl, Kd.S_nil _ _ _ _ _, below_set (below_set (below_set (below_set HB1.out (by omega)) (by omega)) (by omega)) (by omega)⟩


theorem alc_bad (a0 a1 a2 a3 a4 a5 : Int) (A : Option Addr) (n c : Nat) (code wd ge gc : Int) (w : World) (h : badO a0 a1 a2 a3 a4 a5 code wd = true) :
    Calls Try.prog 9 #[.agg #[.int .i64 a0, .int .i64 a1, .int .i64 a2, .int .i64 a3, .int .i64 a4, .int .i64 a5], .slice A n c, .int .i64 code, .int .i64 wd, .agg #[.int .i64 ge, .int .i64 gc]] w (AlcPost w ([], 0, 0, 1)) := by
  unfold badO at h
  simp only [Bool.or_eq_true, decide_eq_true_eq, beq_iff_eq] at h
  by_cases h0 : code < 0
  · exact alc_bad1 a0 a1 a2 a3 a4 a5 A n c code wd ge gc w h0
  by_cases h1 : code ≥ 8
  · exact alc_bad2 a0 a1 a2 a3 a4 a5 A n c code wd ge gc w h0 h1
  by_cases h2 : wd < 1
  · exact alc_bad3 a0 a1 a2 a3 a4 a5 A n c code wd ge gc w h0 h1 h2
  by_cases h3 : wd > 32
  · exact alc_bad4 a0 a1 a2 a3 a4 a5 A n c code wd ge gc w h0 h1 h2 h3
  · exact alc_bad5 a0 a1 a2 a3 a4 a5 A n c code wd ge gc w h0 h1 h2 h3 (by
      rcases h with (((h | h) | h) | h) | h
      · exact absurd h h0
      · exact absurd h h1
      · exact absurd h h2
      · exact absurd h h3
      · exact h)
end Go.Proofs.Ytlodlblkmnhaeaa

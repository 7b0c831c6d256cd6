/- The walk of schedule.rebuilds: the comparison of two rebuilds. -/
import Derived.Test.YtmpeekkbmfbjeaaMapLit
import Derived.Test.YtmpeekkbmfbjeaaOrdWalk3
import Derived.Test.YtmpeekkbmfbjeaaBestWalk
namespace Go.Proofs.Ytmpeekkbmfbjeaa
open Go.RowKit Go.Lib Go.Shelf Go.Sort Go.Proofs.Ytmpeekkbmfbjeaa.P Go.Proofs.YtmpeekkbmfbjeaaW.PrintWords Go.Proofs.YtmpeekkbmfbjeaaW.PrintLast Go.Proofs.YtmpeekkbmfbjeaaW.PrintMore
set_option linter.unusedVariables false
set_option linter.unusedSimpArgs false
attribute [local go_sem high] eqA78

def rebR1.T : Bool × List (List Nat × List Nat) := (true, [([], []), ([0], [0]), ([], []), ([2], [2]), ([], []), ([4], [4]), ([1, 3, 5], [1, 3, 5]), ([], []), ([7], [7]), ([], []), ([9], [9]), ([], []), ([11], [11]), ([8, 10, 12], [8, 10, 12]), ([], []), ([], []), ([14, 6, 0, 1, 2, 3, 4, 5, 6, 14, 15], [6, 14]), ([15, 13, 16, 0, 1, 2, 3, 4, 5, 6, 7, 8, 9, 10, 11, 12, 13, 14, 15, 16], [13, 15])])
def rebR1.B : List Nat := [0, 1, 0, 4, 0, 16, 63, 0, 128, 0, 512, 0, 2048, 8064, 0, 0, 49279, 131071]
theorem rebR1.tab : rtab .any (opsOf Try.f40 1) = rebR1.T := by kernel_rfl
theorem rebR1.bits : waitsOk rebR1.T.2 rebR1.B = true := by kernel_rfl
def rebR4.T : Bool × List (List Nat × List Nat) := (true, [([], []), ([], []), ([0, 1], [0, 1]), ([2], [2]), ([3], [3]), ([4], [4]), ([], []), ([5, 6], [5, 6])])
def rebR4.B : List Nat := [0, 0, 3, 7, 15, 31, 0, 127]
theorem rebR4.tab : rtab .any (opsOf Try.f40 4) = rebR4.T := by kernel_rfl
theorem rebR4.bits : waitsOk rebR4.T.2 rebR4.B = true := by kernel_rfl

/-- a block of four cells, written whole. -/
def set4 (w : World) (g : Nat) (a b c d : Value) : World := (((w.setCell ⟨g, 0, none⟩ a).setCell ⟨g, 1, none⟩ b).setCell ⟨g, 2, none⟩ c).setCell ⟨g, 3, none⟩ d
theorem set1_at {w : World} {g t : Nat} {cs : Array Value} (h : w.heap[g]? = some (.cells cs t (0, 0))) (i : Nat) (a : Value) : (w.setCell ⟨g, i, none⟩ a).heap[g]? = some (.cells (cs.setIfInBounds i a) t (0, 0)) := by
  simp [World.setCell, Array.getElem?_modify, h]
theorem set4_at {w : World} {g t : Nat} {x0 x1 x2 x3 : Value} (h : w.heap[g]? = some (.cells #[x0, x1, x2, x3] t (0, 0))) (a b c d : Value) : (set4 w g a b c d).heap[g]? = some (.cells #[a, b, c, d] t (0, 0)) := by
  exact set1_at (set1_at (set1_at (set1_at h 0 a) 1 b) 2 c) 3 d
theorem set4_far (w : World) (g : Nat) (a b c d : Value) : ∀ k, k ≠ g → (set4 w g a b c d).heap[k]? = w.heap[k]? := by
  intro k hk
  have : g ≠ k := fun h => hk h.symm
  simp [set4, World.setCell, Array.getElem?_modify, this]
theorem set4_below {B : Nat} {w0 w : World} {g : Nat} (hB : B ≤ g) (a b c d : Value) (h : Below B w0 w) : Below B w0 (set4 w g a b c d) := by
  unfold set4
  exact (((h.setCell hB _).setCell hB _).setCell hB _).setCell hB _
theorem cell_same {w w1 : World} {k : Nat} (h : w1.heap[k]? = w.heap[k]?) (i : Nat) : w1.cell? ⟨k, i, none⟩ = w.cell? ⟨k, i, none⟩ := by
  unfold World.cell?
  rw [h]
theorem cells8 {w : World} {g : Nat} {x y : S78} (h : w.heap[g]? = some (.cells #[.int .i64 x.f0.f0, .int .i64 x.f0.f1, .int .i64 x.f1, .int .i64 x.f2, .int .i64 y.f0.f0, .int .i64 y.f0.f1, .int .i64 y.f1, .int .i64 y.f2] 78 (0, 0))) :
    ∀ j u, (henc x ++ henc y)[j]? = some u → w.cell? ⟨g, 0 + j, none⟩ = some u := by
  intro j u hu
  rw [Nat.zero_add, blk_cell h j]
  rw [← hu, ← List.getElem?_toArray]
  rfl
theorem enters43 : ∀ args w, (callFunc 43 args).run Try.prog w = .ok (.enter 43 args) w := fun args w => enters_ Try.func43 (by kernel_rfl) rfl args w

def hOf (s : S58) : S78 := ⟨s.f1, s.f2, s.f3⟩
def eqB (s t : S58) : Bool := (s.f1.f0 == t.f1.f0 && (s.f1.f1 == t.f1.f1)) && (s.f2 == t.f2 && (s.f3 == t.f3))
def reb (s t : S58) : Int := if eqB s t = true then 0 else if hCmp (hOf t) (hOf s) < 0 then 1 else -1
def ordHd (x y : S78) : S78 := if hCmp y x < 0 then y else x
theorem ordHd_cells {w : World} {g : Nat} {x y : S78} (h : HoldsK henc 4 w g 0 (ord2 x y).toArray) :
    w.cell? ⟨g, 0, none⟩ = some (.int .i64 (ordHd x y).f0.f0) ∧ w.cell? ⟨g, 1, none⟩ = some (.int .i64 (ordHd x y).f0.f1) ∧ w.cell? ⟨g, 2, none⟩ = some (.int .i64 (ordHd x y).f1) ∧ w.cell? ⟨g, 3, none⟩ = some (.int .i64 (ordHd x y).f2) := by
  have e : (ord2 x y).toArray[0]! = ordHd x y := by unfold ord2 ordHd; split <;> rfl
  have hs : 0 < (ord2 x y).toArray.size := by unfold ord2; split <;> (show 0 < 2; decide)
  have q := fun c hc => (HoldsK.cell h (i := 0) (c := c) hs hc).1
  rw [e] at q
  exact ⟨q 0 (by decide), q 1 (by decide), q 2 (by decide), q 3 (by decide)⟩
theorem reb_ne (s t : S58) (h : ¬ eqB s t = true) : reb s t = if ((((ordHd (hOf s) (hOf t)).f0.f0 == s.f1.f0) && ((ordHd (hOf s) (hOf t)).f0.f1 == s.f1.f1)) && (((ordHd (hOf s) (hOf t)).f1 == s.f2) && ((ordHd (hOf s) (hOf t)).f2 == s.f3))) = true then -1 else 1 := by
  unfold reb ordHd
  rw [if_neg h]
  by_cases c : hCmp (hOf t) (hOf s) < 0
  · rw [if_pos c, if_pos c, if_neg]
    intro hh
    apply h
    unfold eqB
    simp only [hOf, Bool.and_eq_true, beq_iff_eq] at hh ⊢
    obtain ⟨⟨h1, h2⟩, h3, h4⟩ := hh
    exact ⟨⟨h1.symm, h2.symm⟩, h3.symm, h4.symm⟩
  · rw [if_neg c, if_neg c, if_pos]
    simp [hOf]

set_option maxHeartbeats 8000000 in
set_option maxRecDepth 1000000 in
theorem rebuilds_any (s t : S58) (w : World) (hps : 0 < (hOf s).f2) (hpt : 0 < (hOf t).f2) :
    Calls Try.prog 40 #[tv s, tv t] w fun e w' => e = .returned (.int .i64 (reb s t)) ∧ Below w.heap.size w w' := by
  have hu58 := Try.underlying58
  have hu50 := Try.underlying50
  have hu78 := Try.underlying78
  obtain ⟨W0, hW0⟩ : ∃ W0, W0 = (w.alloc (.cells #[.int .i64 s.f0, .int .i64 s.f1.f0, .int .i64 s.f1.f1, .int .i64 s.f2, .int .i64 s.f3] 58 (0, 0))).alloc (.cells #[.int .i64 t.f0, .int .i64 t.f1.f0, .int .i64 t.f1.f1, .int .i64 t.f2, .int .i64 t.f3] 58 (0, 0)) := ⟨_, rfl⟩
  have B1 : W0.heap[w.heap.size]? = some (.cells #[.int .i64 s.f0, .int .i64 s.f1.f0, .int .i64 s.f1.f1, .int .i64 s.f2, .int .i64 s.f3] 58 (0, 0)) := by rw [hW0]; exact blk_alloc (blk_new w _) _
  have B2 : W0.heap[w.heap.size + 1]? = some (.cells #[.int .i64 t.f0, .int .i64 t.f1.f0, .int .i64 t.f1.f1, .int .i64 t.f2, .int .i64 t.f3] 58 (0, 0)) := by
    rw [hW0]
    have := blk_new (w.alloc (.cells #[.int .i64 s.f0, .int .i64 s.f1.f0, .int .i64 s.f1.f1, .int .i64 s.f2, .int .i64 s.f3] 58 (0, 0))) (.cells #[.int .i64 t.f0, .int .i64 t.f1.f0, .int .i64 t.f1.f1, .int .i64 t.f2, .int .i64 t.f3] 58 (0, 0))
    simpa using this
  have HB0 : Below w.heap.size w W0 := by rw [hW0]; exact below_alloc (below_alloc (Below.refl _ _) _) _
  have HSz : Aside0 (w.heap.size + 1 < W0.drew.heap.size) := ⟨blk_lt B2⟩
  have BA := Aside0.mk B1
  have BB := Aside0.mk B2
  have HBd := Aside0.mk HB0
  have HW0 := Lib.hid hW0
  clear B1 B2 HB0 hW0
  unfold tv
  go_enter Try.func40, Try.ntmps40
  go_wp2_with fail
  rw [← HW0.out]
  refine start_ (n := 18) (S := fun w' => w'.cell? ⟨w.heap.size, 1, none⟩ = some (.int .i64 s.f1.f0) ∧ w'.cell? ⟨w.heap.size, 2, none⟩ = some (.int .i64 s.f1.f1) ∧ w'.cell? ⟨w.heap.size, 3, none⟩ = some (.int .i64 s.f2) ∧ w'.cell? ⟨w.heap.size, 4, none⟩ = some (.int .i64 s.f3) ∧ w'.cell? ⟨(w.heap.size + 1), 1, none⟩ = some (.int .i64 t.f1.f0) ∧ w'.cell? ⟨(w.heap.size + 1), 2, none⟩ = some (.int .i64 t.f1.f1) ∧ w'.cell? ⟨(w.heap.size + 1), 3, none⟩ = some (.int .i64 t.f2) ∧ w'.cell? ⟨(w.heap.size + 1), 4, none⟩ = some (.int .i64 t.f3)) (ds := []) (bL 18 0) (by kernel_rfl) rfl (by kernel_rfl) ⟨(blk_cell BA.out 1).trans rfl, (blk_cell BA.out 2).trans rfl, (blk_cell BA.out 3).trans rfl, (blk_cell BA.out 4).trans rfl, (blk_cell BB.out 1).trans rfl, (blk_cell BB.out 2).trans rfl, (blk_cell BB.out 3).trans rfl, (blk_cell BB.out 4).trans rfl⟩ (fun hHeld => ?_)
  refine with_tabW rebR1.tab rebR1.bits (fun HT_ HW_ => ?_)
  have HBe := Aside0.mk (below_drew1 HBd.out)
  clear HBd BA BB HW0
  have HBd := HBe
  clear HBe
  generalize W0.drew = wd at HBd HSz hHeld ⊢
  refine pure_ (i := 0) (N := some 7) (v := ?_) (a' := ?_) (bL 18 1) rfl rfl (any_of HT_.out (by kernel_rfl)) (fun _ _ _ h => h) (Or.inl ⟨by rfl, ?_⟩) ?_ ?_; rotate_left; (intro w'; go_simp; with_reducible rfl); rotate_left; (simp only [Act.put, act1, act2, act3, i64_w, i32_w]; rfl)
  refine pure_ (i := 2) (N := some 9) (v := ?_) (a' := ?_) (bL 18 5) rfl rfl (any_of HT_.out (by kernel_rfl)) (fun _ _ _ h => h) (Or.inl ⟨by rfl, ?_⟩) ?_ ?_; rotate_left; (intro w'; go_simp; with_reducible rfl); rotate_left; (simp only [Act.put, act1, act2, act3, i64_w, i32_w]; rfl)
  refine pure_ (i := 4) (N := some 11) (v := ?_) (a' := ?_) (bL 18 21) rfl rfl (any_of HT_.out (by kernel_rfl)) (fun _ _ _ h => h) (Or.inl ⟨by rfl, ?_⟩) ?_ ?_; rotate_left; (intro w'; go_simp; with_reducible rfl); rotate_left; (simp only [Act.put, act1, act2, act3, i64_w, i32_w]; rfl)
  refine pure_ (i := 7) (N := some 14) (v := ?_) (a' := ?_) (bL 18 149) rfl rfl (any_of HT_.out (by kernel_rfl)) (fun _ _ _ h => h) (Or.inl ⟨by rfl, ?_⟩) ?_ ?_; rotate_left; (intro w'; go_simp; with_reducible rfl); rotate_left; (simp only [Act.put, act1, act2, act3, i64_w, i32_w]; rfl)
  refine pure_ (i := 9) (N := some 16) (v := ?_) (a' := ?_) (bL 18 661) rfl rfl (any_of HT_.out (by kernel_rfl)) (fun _ _ _ h => h) (Or.inl ⟨by rfl, ?_⟩) ?_ ?_; rotate_left; (intro w'; go_simp; with_reducible rfl); rotate_left; (simp only [Act.put, act1, act2, act3, i64_w, i32_w]; rfl)
  refine pure_ (i := 11) (N := some 18) (v := ?_) (a' := ?_) (bL 18 2709) rfl rfl (any_of HT_.out (by kernel_rfl)) (fun _ _ _ h => h) (Or.inl ⟨by rfl, ?_⟩) ?_ ?_; rotate_left; (intro w'; go_simp; with_reducible rfl); rotate_left; (simp only [Act.put, act1, act2, act3, i64_w, i32_w]; rfl)
  refine take_ (i := 1) (N := some 8) (v := ?_) (a' := ?_) (bL 18 2711) rfl rfl (take_ofW HT_.out HW_.out (by kernel_rfl)) (fun _ _ _ h => h) (Or.inl ⟨by rfl, ?_⟩) hHeld ?_ ?_; rotate_left; (rintro w' ⟨s0, s1, s2, s3, s4, s5, s6, s7⟩; go_simp; with_reducible rfl); rotate_left; (simp only [Act.put, act1, act2, act3, i64_w, i32_w]; rfl)
  refine take_ (i := 3) (N := some 10) (v := ?_) (a' := ?_) (bL 18 2719) rfl rfl (take_ofW HT_.out HW_.out (by kernel_rfl)) (fun _ _ _ h => h) (Or.inl ⟨by rfl, ?_⟩) hHeld ?_ ?_; rotate_left; (rintro w' ⟨s0, s1, s2, s3, s4, s5, s6, s7⟩; go_simp; with_reducible rfl); rotate_left; (simp only [Act.put, act1, act2, act3, i64_w, i32_w]; rfl)
  refine take_ (i := 5) (N := some 12) (v := ?_) (a' := ?_) (bL 18 2751) rfl rfl (take_ofW HT_.out HW_.out (by kernel_rfl)) (fun _ _ _ h => h) (Or.inl ⟨by rfl, ?_⟩) hHeld ?_ ?_; rotate_left; (rintro w' ⟨s0, s1, s2, s3, s4, s5, s6, s7⟩; go_simp; with_reducible rfl); rotate_left; (simp only [Act.put, act1, act2, act3, i64_w, i32_w]; rfl)
  refine take_ (i := 8) (N := some 15) (v := ?_) (a' := ?_) (bL 18 3007) rfl rfl (take_ofW HT_.out HW_.out (by kernel_rfl)) (fun _ _ _ h => h) (Or.inl ⟨by rfl, ?_⟩) hHeld ?_ ?_; rotate_left; (rintro w' ⟨s0, s1, s2, s3, s4, s5, s6, s7⟩; go_simp; with_reducible rfl); rotate_left; (simp only [Act.put, act1, act2, act3, i64_w, i32_w]; rfl)
  refine take_ (i := 10) (N := some 17) (v := ?_) (a' := ?_) (bL 18 4031) rfl rfl (take_ofW HT_.out HW_.out (by kernel_rfl)) (fun _ _ _ h => h) (Or.inl ⟨by rfl, ?_⟩) hHeld ?_ ?_; rotate_left; (rintro w' ⟨s0, s1, s2, s3, s4, s5, s6, s7⟩; go_simp; with_reducible rfl); rotate_left; (simp only [Act.put, act1, act2, act3, i64_w, i32_w]; rfl)
  refine take_ (i := 12) (N := some 19) (v := ?_) (a' := ?_) (bL 18 8127) rfl rfl (take_ofW HT_.out HW_.out (by kernel_rfl)) (fun _ _ _ h => h) (Or.inl ⟨by rfl, ?_⟩) hHeld ?_ ?_; rotate_left; (rintro w' ⟨s0, s1, s2, s3, s4, s5, s6, s7⟩; go_simp; with_reducible rfl); rotate_left; (simp only [Act.put, act1, act2, act3, i64_w, i32_w]; rfl)
  refine pure_ (i := 6) (N := some 13) (v := ?_) (a' := ?_) (bL 18 8191) rfl rfl (any_of HT_.out (by kernel_rfl)) (fun _ _ _ h => h) (Or.inl ⟨by rfl, ?_⟩) ?_ ?_; rotate_left; (intro w'; go_simp; with_reducible rfl); rotate_left; (simp only [Act.put, act1, act2, act3, i64_w, i32_w]; rfl)
  refine pure_ (i := 13) (N := some 20) (v := ?_) (a' := ?_) (bL 18 16383) rfl rfl (any_of HT_.out (by kernel_rfl)) (fun _ _ _ h => h) (Or.inl ⟨by rfl, ?_⟩) ?_ ?_; rotate_left; (intro w'; go_simp; with_reducible rfl); rotate_left; (simp only [Act.put, act1, act2, act3, i64_w, i32_w]; rfl)
  refine join_ (σ := Nat × Nat) 2 #[true, true, true, true, true, true, true, true, true, true, true, true, true, true, true, true, false, false] (fun s_ => [(5, .pointer (some ⟨s_.1, 0, none⟩)), (6, .pointer (some ⟨s_.2, 0, none⟩))]) (fun s_ w' => (w'.cell? ⟨w.heap.size, 1, none⟩ = some (.int .i64 s.f1.f0) ∧ w'.cell? ⟨w.heap.size, 2, none⟩ = some (.int .i64 s.f1.f1) ∧ w'.cell? ⟨w.heap.size, 3, none⟩ = some (.int .i64 s.f2) ∧ w'.cell? ⟨w.heap.size, 4, none⟩ = some (.int .i64 s.f3) ∧ w'.cell? ⟨(w.heap.size + 1), 1, none⟩ = some (.int .i64 t.f1.f0) ∧ w'.cell? ⟨(w.heap.size + 1), 2, none⟩ = some (.int .i64 t.f1.f1) ∧ w'.cell? ⟨(w.heap.size + 1), 3, none⟩ = some (.int .i64 t.f2) ∧ w'.cell? ⟨(w.heap.size + 1), 4, none⟩ = some (.int .i64 t.f3)) ∧ w'.heap[s_.1]? = some (.cells #[.int .i64 0, .int .i64 0, .int .i64 0, .int .i64 0] 78 (0, 0)) ∧ w'.heap[s_.2]? = some (.cells #[.int .i64 0, .int .i64 0, .int .i64 0, .int .i64 0] 78 (0, 0)) ∧ s_.1 ≠ s_.2 ∧ w.heap.size + 1 < s_.1 ∧ w.heap.size + 1 < s_.2 ∧ Below w.heap.size w w') ?_ ?_
  rotate_left
  · intro hCont
    have hsz : w.heap.size + 1 < wd.heap.size := HSz.out
    refine two_ (i := 14) (j := 15) (Ni := some 5) (Nj := some 6) #[true, true, true, true, true, true, true, true, true, true, true, true, true, true, true, false, false, false] #[true, true, true, true, true, true, true, true, true, true, true, true, true, true, false, true, false, false] rfl rfl rfl rfl (two_of HT_.out (by kernel_rfl)) (by decide) (by decide) (fun K hK => ?_) (fun K hK => ?_)
    · skip
      refine value_ (v := .pointer (some ⟨wd.heap.size, 0, none⟩)) (w1 := wd.alloc (.cells #[.int .i64 0, .int .i64 0, .int .i64 0, .int .i64 0] 78 (0, 0))) (by rfl) rfl (by first | (go_simp; done) | (go_simp; rfl)) ?_
      have q1 : Below wd.heap.size wd (wd.alloc (.cells #[.int .i64 0, .int .i64 0, .int .i64 0, .int .i64 0] 78 (0, 0))) := below_alloc (Below.refl _ _) _
      have r1 := blk_new wd (.cells #[.int .i64 0, .int .i64 0, .int .i64 0, .int .i64 0] 78 (0, 0))
      have b1 := below_then HBd.out HBd.out.size q1
      have z1 : (wd.alloc (.cells #[.int .i64 0, .int .i64 0, .int .i64 0, .int .i64 0] 78 (0, 0))).heap.size = wd.heap.size + 1 := by simp
      refine hK.out _ _ ⟨pw_cell_below q1 hHeld.1, pw_cell_below q1 hHeld.2.1, pw_cell_below q1 hHeld.2.2.1, pw_cell_below q1 hHeld.2.2.2.1, pw_cell_below q1 hHeld.2.2.2.2.1, pw_cell_below q1 hHeld.2.2.2.2.2.1, pw_cell_below q1 hHeld.2.2.2.2.2.2.1, pw_cell_below q1 hHeld.2.2.2.2.2.2.2⟩ (fun hHeld => ?_)
      clear hK K
      generalize wd.alloc (.cells #[.int .i64 0, .int .i64 0, .int .i64 0, .int .i64 0] 78 (0, 0)) = w2 at q1 r1 b1 z1 hHeld ⊢
      refine norm_ (a' := ?_) ?_ ?_
      rotate_left
      · show Act.put _ (some 5) _ = _
        simp only [Act.put, List.setIfInBounds_toArray, List.set_cons_zero, List.set_cons_succ, i64_w, i32_w]
        rfl
      refine one_ (i := 15) (N := some 6) (bL 18 65535) rfl rfl (one_of HT_.out (by kernel_rfl)) (by decide) (fun K hK => ?_)
      refine value_ (v := .pointer (some ⟨w2.heap.size, 0, none⟩)) (w1 := w2.alloc (.cells #[.int .i64 0, .int .i64 0, .int .i64 0, .int .i64 0] 78 (0, 0))) (by rfl) rfl (by first | (go_simp; done) | (go_simp; rfl)) ?_
      have q2 : Below w2.heap.size w2 (w2.alloc (.cells #[.int .i64 0, .int .i64 0, .int .i64 0, .int .i64 0] 78 (0, 0))) := below_alloc (Below.refl _ _) _
      have r2 := blk_new w2 (.cells #[.int .i64 0, .int .i64 0, .int .i64 0, .int .i64 0] 78 (0, 0))
      have r3 := blk_below r1 q2
      have b2 := below_then b1 b1.size q2
      refine hK.out _ _ ⟨pw_cell_below q2 hHeld.1, pw_cell_below q2 hHeld.2.1, pw_cell_below q2 hHeld.2.2.1, pw_cell_below q2 hHeld.2.2.2.1, pw_cell_below q2 hHeld.2.2.2.2.1, pw_cell_below q2 hHeld.2.2.2.2.2.1, pw_cell_below q2 hHeld.2.2.2.2.2.2.1, pw_cell_below q2 hHeld.2.2.2.2.2.2.2⟩ (fun hHeld => ?_)
      clear hK K
      refine norm_ (a' := ?_) ?_ ?_
      rotate_left
      · show Act.put _ (some 6) _ = _
        simp only [Act.put, List.setIfInBounds_toArray, List.set_cons_zero, List.set_cons_succ, i64_w, i32_w]
        rfl
      exact norm_ (by simp only [putAll, Act.put, List.setIfInBounds_toArray, List.set_cons_zero, List.set_cons_succ]) (hCont (wd.heap.size, w2.heap.size) _ ⟨hHeld, r3, r2, by show _ ≠ _; omega, by show _ < _; omega, by show _ < _; omega, b2⟩)
    · skip
      refine value_ (v := .pointer (some ⟨wd.heap.size, 0, none⟩)) (w1 := wd.alloc (.cells #[.int .i64 0, .int .i64 0, .int .i64 0, .int .i64 0] 78 (0, 0))) (by rfl) rfl (by first | (go_simp; done) | (go_simp; rfl)) ?_
      have q1 : Below wd.heap.size wd (wd.alloc (.cells #[.int .i64 0, .int .i64 0, .int .i64 0, .int .i64 0] 78 (0, 0))) := below_alloc (Below.refl _ _) _
      have r1 := blk_new wd (.cells #[.int .i64 0, .int .i64 0, .int .i64 0, .int .i64 0] 78 (0, 0))
      have b1 := below_then HBd.out HBd.out.size q1
      have z1 : (wd.alloc (.cells #[.int .i64 0, .int .i64 0, .int .i64 0, .int .i64 0] 78 (0, 0))).heap.size = wd.heap.size + 1 := by simp
      refine hK.out _ _ ⟨pw_cell_below q1 hHeld.1, pw_cell_below q1 hHeld.2.1, pw_cell_below q1 hHeld.2.2.1, pw_cell_below q1 hHeld.2.2.2.1, pw_cell_below q1 hHeld.2.2.2.2.1, pw_cell_below q1 hHeld.2.2.2.2.2.1, pw_cell_below q1 hHeld.2.2.2.2.2.2.1, pw_cell_below q1 hHeld.2.2.2.2.2.2.2⟩ (fun hHeld => ?_)
      clear hK K
      generalize wd.alloc (.cells #[.int .i64 0, .int .i64 0, .int .i64 0, .int .i64 0] 78 (0, 0)) = w2 at q1 r1 b1 z1 hHeld ⊢
      refine norm_ (a' := ?_) ?_ ?_
      rotate_left
      · show Act.put _ (some 6) _ = _
        simp only [Act.put, List.setIfInBounds_toArray, List.set_cons_zero, List.set_cons_succ, i64_w, i32_w]
        rfl
      refine one_ (i := 14) (N := some 5) (bL 18 65535) rfl rfl (one_of HT_.out (by kernel_rfl)) (by decide) (fun K hK => ?_)
      refine value_ (v := .pointer (some ⟨w2.heap.size, 0, none⟩)) (w1 := w2.alloc (.cells #[.int .i64 0, .int .i64 0, .int .i64 0, .int .i64 0] 78 (0, 0))) (by rfl) rfl (by first | (go_simp; done) | (go_simp; rfl)) ?_
      have q2 : Below w2.heap.size w2 (w2.alloc (.cells #[.int .i64 0, .int .i64 0, .int .i64 0, .int .i64 0] 78 (0, 0))) := below_alloc (Below.refl _ _) _
      have r2 := blk_new w2 (.cells #[.int .i64 0, .int .i64 0, .int .i64 0, .int .i64 0] 78 (0, 0))
      have r3 := blk_below r1 q2
      have b2 := below_then b1 b1.size q2
      refine hK.out _ _ ⟨pw_cell_below q2 hHeld.1, pw_cell_below q2 hHeld.2.1, pw_cell_below q2 hHeld.2.2.1, pw_cell_below q2 hHeld.2.2.2.1, pw_cell_below q2 hHeld.2.2.2.2.1, pw_cell_below q2 hHeld.2.2.2.2.2.1, pw_cell_below q2 hHeld.2.2.2.2.2.2.1, pw_cell_below q2 hHeld.2.2.2.2.2.2.2⟩ (fun hHeld => ?_)
      clear hK K
      refine norm_ (a' := ?_) ?_ ?_
      rotate_left
      · show Act.put _ (some 5) _ = _
        simp only [Act.put, List.setIfInBounds_toArray, List.set_cons_zero, List.set_cons_succ, i64_w, i32_w]
        rfl
      exact norm_ (by simp only [putAll, Act.put, List.setIfInBounds_toArray, List.set_cons_zero, List.set_cons_succ]) (hCont (w2.heap.size, wd.heap.size) _ ⟨hHeld, r2, r3, by show _ ≠ _; omega, by show _ < _; omega, by show _ < _; omega, b2⟩)
  rintro ⟨g1, g2⟩ w3 ⟨hHeld, k1, k2, k3, k4, k5, k6⟩
  have n1 : g1 ≠ w.heap.size := by show g1 ≠ _; have : w.heap.size + 1 < g1 := k4; omega
  have n2 : g1 ≠ w.heap.size + 1 := by have : w.heap.size + 1 < g1 := k4; omega
  have n3 : g2 ≠ w.heap.size := by have : w.heap.size + 1 < g2 := k5; omega
  have n4 : g2 ≠ w.heap.size + 1 := by have : w.heap.size + 1 < g2 := k5; omega
  have K1 : Aside0 (w3.heap[g1]? = some (.cells #[.int .i64 0, .int .i64 0, .int .i64 0, .int .i64 0] 78 (0, 0))) := ⟨k1⟩
  have K2 : Aside0 (w3.heap[g2]? = some (.cells #[.int .i64 0, .int .i64 0, .int .i64 0, .int .i64 0] 78 (0, 0))) := ⟨k2⟩
  have K3 : Aside0 (g1 ≠ g2) := ⟨k3⟩
  have K6 : Aside0 (Below w.heap.size w w3) := ⟨k6⟩
  have K4 : Aside0 (w.heap.size + 1 < g1) := ⟨k4⟩
  have K5 : Aside0 (w.heap.size + 1 < g2) := ⟨k5⟩
  clear k1 k2 k3 k4 k5 k6 HBd
  refine norm_ (a' := ?_) ?_ ?_
  rotate_left
  · simp only [putAll, Act.put, List.setIfInBounds_toArray, List.set_cons_zero, List.set_cons_succ]
    rfl
  refine one_ (i := 16) (N := none) (bL 18 131071) rfl rfl (one_of HT_.out (by kernel_rfl)) (by decide) (fun K hK => ?_)
  have c0 : w3.cell? ⟨g1, 0, none⟩ = some (.int .i64 0) := (blk_cell K1.out 0).trans rfl
  have c1 : w3.cell? ⟨g1, 1, none⟩ = some (.int .i64 0) := (blk_cell K1.out 1).trans rfl
  have c2 : w3.cell? ⟨g1, 2, none⟩ = some (.int .i64 0) := (blk_cell K1.out 2).trans rfl
  have c3 : w3.cell? ⟨g1, 3, none⟩ = some (.int .i64 0) := (blk_cell K1.out 3).trans rfl
  have f0 := blk_frozen K1.out 0
  have f1 := blk_frozen K1.out 1
  have f2 := blk_frozen K1.out 2
  have f3 := blk_frozen K1.out 3
  refine skip_ (w1 := set4 w3 g1 (.int .i64 s.f1.f0) (.int .i64 s.f1.f1) (.int .i64 s.f2) (.int .i64 s.f3)) (by rfl) rfl ?_ ?_
  · unfold set4
    first | (go_simp; done) | (go_simp; rfl)
  clear c0 c1 c2 c3 f0 f1 f2 f3
  have t1 := set4_at (t := 78) K1.out (.int .i64 s.f1.f0) (.int .i64 s.f1.f1) (.int .i64 s.f2) (.int .i64 s.f3)
  have t2 := set4_far w3 g1 (.int .i64 s.f1.f0) (.int .i64 s.f1.f1) (.int .i64 s.f2) (.int .i64 s.f3)
  have t3 := (t2 g2 (fun h => K3.out h.symm)).trans K2.out
  have t4 := set4_below (B := w.heap.size) (g := g1) (by have := K4.out; omega) (.int .i64 s.f1.f0) (.int .i64 s.f1.f1) (.int .i64 s.f2) (.int .i64 s.f3) K6.out
  refine hK.out _ _ ⟨(cell_same (t2 _ n1.symm) _).trans hHeld.1, (cell_same (t2 _ n1.symm) _).trans hHeld.2.1, (cell_same (t2 _ n1.symm) _).trans hHeld.2.2.1, (cell_same (t2 _ n1.symm) _).trans hHeld.2.2.2.1, (cell_same (t2 _ n2.symm) _).trans hHeld.2.2.2.2.1, (cell_same (t2 _ n2.symm) _).trans hHeld.2.2.2.2.2.1, (cell_same (t2 _ n2.symm) _).trans hHeld.2.2.2.2.2.2.1, (cell_same (t2 _ n2.symm) _).trans hHeld.2.2.2.2.2.2.2⟩ (fun hHeld => ?_)
  generalize set4 w3 g1 (.int .i64 s.f1.f0) (.int .i64 s.f1.f1) (.int .i64 s.f2) (.int .i64 s.f3) = w4 at t1 t2 t3 t4 hHeld ⊢
  clear K1 K2 K6 t2
  have K1 := Aside0.mk t1
  have K2 := Aside0.mk t3
  have K6 := Aside0.mk t4
  clear t1 t3 t4
  clear hK K
  refine one_ (i := 17) (N := none) (bL 18 262143) rfl rfl (one_of HT_.out (by kernel_rfl)) (by decide) (fun K hK => ?_)
  have c0 : w4.cell? ⟨g2, 0, none⟩ = some (.int .i64 0) := (blk_cell K2.out 0).trans rfl
  have c1 : w4.cell? ⟨g2, 1, none⟩ = some (.int .i64 0) := (blk_cell K2.out 1).trans rfl
  have c2 : w4.cell? ⟨g2, 2, none⟩ = some (.int .i64 0) := (blk_cell K2.out 2).trans rfl
  have c3 : w4.cell? ⟨g2, 3, none⟩ = some (.int .i64 0) := (blk_cell K2.out 3).trans rfl
  have f0 := blk_frozen K2.out 0
  have f1 := blk_frozen K2.out 1
  have f2 := blk_frozen K2.out 2
  have f3 := blk_frozen K2.out 3
  refine skip_ (w1 := set4 w4 g2 (.int .i64 t.f1.f0) (.int .i64 t.f1.f1) (.int .i64 t.f2) (.int .i64 t.f3)) (by rfl) rfl ?_ ?_
  · unfold set4
    first | (go_simp; done) | (go_simp; rfl)
  clear c0 c1 c2 c3 f0 f1 f2 f3
  have t1 := set4_at (t := 78) K2.out (.int .i64 t.f1.f0) (.int .i64 t.f1.f1) (.int .i64 t.f2) (.int .i64 t.f3)
  have t2 := set4_far w4 g2 (.int .i64 t.f1.f0) (.int .i64 t.f1.f1) (.int .i64 t.f2) (.int .i64 t.f3)
  have t3 := (t2 g1 (fun h => K3.out h)).trans K1.out
  have t4 := set4_below (B := w.heap.size) (g := g2) (by have := K5.out; omega) (.int .i64 t.f1.f0) (.int .i64 t.f1.f1) (.int .i64 t.f2) (.int .i64 t.f3) K6.out
  refine hK.out _ _ ⟨(cell_same (t2 _ n3.symm) _).trans hHeld.1, (cell_same (t2 _ n3.symm) _).trans hHeld.2.1, (cell_same (t2 _ n3.symm) _).trans hHeld.2.2.1, (cell_same (t2 _ n3.symm) _).trans hHeld.2.2.2.1, (cell_same (t2 _ n4.symm) _).trans hHeld.2.2.2.2.1, (cell_same (t2 _ n4.symm) _).trans hHeld.2.2.2.2.2.1, (cell_same (t2 _ n4.symm) _).trans hHeld.2.2.2.2.2.2.1, (cell_same (t2 _ n4.symm) _).trans hHeld.2.2.2.2.2.2.2⟩ (fun hHeld => ?_)
  generalize set4 w4 g2 (.int .i64 t.f1.f0) (.int .i64 t.f1.f1) (.int .i64 t.f2) (.int .i64 t.f3) = w5 at t1 t2 t3 t4 hHeld ⊢
  clear K2 K1 K6 t2
  have K2 := Aside0.mk t1
  have K1 := Aside0.mk t3
  have K6 := Aside0.mk t4
  clear t1 t3 t4
  clear hK K
  refine done_ (done_of HT_.out (by kernel_rfl)) ?_
  clear hHeld HT_ HW_ n1 n2 n3 n4
  have u0 : w5.cell? ⟨g1, 0, none⟩ = some (.int .i64 s.f1.f0) := (blk_cell K1.out 0).trans rfl
  have u1 : w5.cell? ⟨g1, 1, none⟩ = some (.int .i64 s.f1.f1) := (blk_cell K1.out 1).trans rfl
  have u2 : w5.cell? ⟨g1, 2, none⟩ = some (.int .i64 s.f2) := (blk_cell K1.out 2).trans rfl
  have u3 : w5.cell? ⟨g1, 3, none⟩ = some (.int .i64 s.f3) := (blk_cell K1.out 3).trans rfl
  have v0 : w5.cell? ⟨g2, 0, none⟩ = some (.int .i64 t.f1.f0) := (blk_cell K2.out 0).trans rfl
  have v1 : w5.cell? ⟨g2, 1, none⟩ = some (.int .i64 t.f1.f1) := (blk_cell K2.out 1).trans rfl
  have v2 : w5.cell? ⟨g2, 2, none⟩ = some (.int .i64 t.f2) := (blk_cell K2.out 2).trans rfl
  have v3 : w5.cell? ⟨g2, 3, none⟩ = some (.int .i64 t.f3) := (blk_cell K2.out 3).trans rfl
  by_cases he : eqB s t = true
  · have heb := he
    unfold eqB at heb
    have hr : reb s t = 0 := by unfold reb; rw [if_pos he]
    have HR := Lib.hid hr
    clear hr he
    go_wp2
    go_ret
    exact ⟨by rw [HR.out]; rfl, K6.out⟩
  · have heb : eqB s t = false := by simpa using he
    unfold eqB at heb
    have HN := Lib.hid he
    clear he
    go_wp2_with fail
    refine start_ (n := 8) (S := fun w' => w'.cell? ⟨g1, 0, none⟩ = some (.int .i64 s.f1.f0) ∧ w'.cell? ⟨g1, 1, none⟩ = some (.int .i64 s.f1.f1) ∧ w'.cell? ⟨g1, 2, none⟩ = some (.int .i64 s.f2) ∧ w'.cell? ⟨g1, 3, none⟩ = some (.int .i64 s.f3) ∧ w'.cell? ⟨g2, 0, none⟩ = some (.int .i64 t.f1.f0) ∧ w'.cell? ⟨g2, 1, none⟩ = some (.int .i64 t.f1.f1) ∧ w'.cell? ⟨g2, 2, none⟩ = some (.int .i64 t.f2) ∧ w'.cell? ⟨g2, 3, none⟩ = some (.int .i64 t.f3)) (ds := []) (bL 8 0) (by kernel_rfl) rfl (by kernel_rfl) ⟨u0, u1, u2, u3, v0, v1, v2, v3⟩ (fun hHeld => ?_)
    refine with_tab rebR4.tab (fun HT_ => ?_)
    have HBe := Aside0.mk (below_drew1 K6.out)
    clear K6 u0 u1 u2 u3 v0 v1 v2 v3 K1 K2
    have K6 := HBe
    clear HBe
    generalize w5.drew = w6 at K6 hHeld ⊢
    refine take_ (i := 0) (N := some 24) (v := ?_) (a' := ?_) (bL 8 1) rfl rfl (take_of HT_.out (by kernel_rfl)) (fun _ _ _ h => h) (Or.inl ⟨by rfl, ?_⟩) hHeld ?_ ?_; rotate_left; (rintro w' ⟨s0, s1, s2, s3, s4, s5, s6, s7⟩; go_simp; with_reducible rfl); rotate_left; (simp only [Act.put, act1, act2, act3, i64_w, i32_w]; rfl)
    refine take_ (i := 1) (N := some 25) (v := ?_) (a' := ?_) (bL 8 3) rfl rfl (take_of HT_.out (by kernel_rfl)) (fun _ _ _ h => h) (Or.inl ⟨by rfl, ?_⟩) hHeld ?_ ?_; rotate_left; (rintro w' ⟨s0, s1, s2, s3, s4, s5, s6, s7⟩; go_simp; with_reducible rfl); rotate_left; (simp only [Act.put, act1, act2, act3, i64_w, i32_w]; rfl)
    refine take_ (i := 6) (N := some 30) (v := ?_) (a' := ?_) (bL 8 67) rfl rfl (take_of HT_.out (by kernel_rfl)) (fun _ _ _ h => h) (Or.inl ⟨by rfl, ?_⟩) hHeld ?_ ?_; rotate_left; (rintro w' ⟨s0, s1, s2, s3, s4, s5, s6, s7⟩; go_simp; with_reducible rfl); rotate_left; (simp only [Act.put, act1, act2, act3, i64_w, i32_w]; rfl)
    refine one_ (i := 2) (N := some 26) (bL 8 71) rfl rfl (one_of HT_.out (by kernel_rfl)) (by decide) (fun K hK => ?_)
    refine value_ (v := .slice (some ⟨w6.heap.size, 0, none⟩) 2 2) (w1 := w6.alloc (.cells #[.int .i64 s.f1.f0, .int .i64 s.f1.f1, .int .i64 s.f2, .int .i64 s.f3, .int .i64 t.f1.f0, .int .i64 t.f1.f1, .int .i64 t.f2, .int .i64 t.f3] 78 (0, 0))) (by rfl) rfl (by first | (go_simp; done) | (go_simp; rfl)) ?_
    have q2 : Below w6.heap.size w6 (w6.alloc (.cells #[.int .i64 s.f1.f0, .int .i64 s.f1.f1, .int .i64 s.f2, .int .i64 s.f3, .int .i64 t.f1.f0, .int .i64 t.f1.f1, .int .i64 t.f2, .int .i64 t.f3] 78 (0, 0))) := below_alloc (Below.refl _ _) _
    have hO := order2_any w6.heap.size 2 (hOf s) (hOf t) (w6.alloc (.cells #[.int .i64 s.f1.f0, .int .i64 s.f1.f1, .int .i64 s.f2, .int .i64 s.f3, .int .i64 t.f1.f0, .int .i64 t.f1.f1, .int .i64 t.f2, .int .i64 t.f3] 78 (0, 0))) (cells8 (blk_new w6 _)) hps hpt
    have HO := Lib.hid hO
    clear hO
    have b2 := below_then K6.out K6.out.size q2
    refine hK.out _ _ ⟨pw_cell_below q2 hHeld.1, pw_cell_below q2 hHeld.2.1, pw_cell_below q2 hHeld.2.2.1, pw_cell_below q2 hHeld.2.2.2.1, pw_cell_below q2 hHeld.2.2.2.2.1, pw_cell_below q2 hHeld.2.2.2.2.2.1, pw_cell_below q2 hHeld.2.2.2.2.2.2.1, pw_cell_below q2 hHeld.2.2.2.2.2.2.2⟩ (fun hHeld => ?_)
    clear K6 q2
    have K6 := Aside0.mk b2
    clear b2
    generalize w6.alloc (.cells #[.int .i64 s.f1.f0, .int .i64 s.f1.f1, .int .i64 s.f2, .int .i64 s.f3, .int .i64 t.f1.f0, .int .i64 t.f1.f1, .int .i64 t.f2, .int .i64 t.f3] 78 (0, 0)) = w7 at K6 HO hHeld ⊢
    clear hK K
    refine norm_ (a' := ?_) ?_ ?_
    rotate_left
    · show Act.put _ (some 26) _ = _
      simp only [Act.put, List.setIfInBounds_toArray, List.set_cons_zero, List.set_cons_succ, i64_w, i32_w]
      rfl
    refine one_ (i := 3) (N := some 27) (bL 8 79) rfl rfl (one_of HT_.out (by kernel_rfl)) (by decide) (fun K hK => ?_)
    refine call_ 43 #[.slice (some ⟨w6.heap.size, 0, none⟩) 2 2] (by rfl) rfl ?_ ?_
    · unfold execOp
      simp [resolve, Deferred.ofValue, invoke, Act.eval, enters43]
    refine HO.out.mono ?_
    rintro e w8 ⟨g3, c3, rfl, hH, hb⟩
    refine ⟨_, rfl, ?_⟩
    have HH := Lib.hid hH
    clear hH HO
    have b2 := below_then K6.out K6.out.size hb
    refine hK.out _ _ ⟨pw_cell_below hb hHeld.1, pw_cell_below hb hHeld.2.1, pw_cell_below hb hHeld.2.2.1, pw_cell_below hb hHeld.2.2.2.1, pw_cell_below hb hHeld.2.2.2.2.1, pw_cell_below hb hHeld.2.2.2.2.2.1, pw_cell_below hb hHeld.2.2.2.2.2.2.1, pw_cell_below hb hHeld.2.2.2.2.2.2.2⟩ (fun hHeld => ?_)
    clear K6 hb
    have K6 := Aside0.mk b2
    clear b2
    clear hK K
    refine norm_ (a' := ?_) ?_ ?_
    rotate_left
    · show Act.put _ (some 27) _ = _
      simp only [Act.put, List.setIfInBounds_toArray, List.set_cons_zero, List.set_cons_succ, i64_w, i32_w]
      rfl
    refine pure_ (i := 4) (N := some 28) (v := ?_) (a' := ?_) (bL 8 95) rfl rfl (any_of HT_.out (by kernel_rfl)) (fun _ _ _ h => h) (Or.inl ⟨by rfl, ?_⟩) ?_ ?_; rotate_left; (intro w'; go_simp; with_reducible rfl); rotate_left; (simp only [Act.put, act1, act2, act3, i64_w, i32_w]; rfl)
    refine one_ (i := 5) (N := some 29) (bL 8 127) rfl rfl (one_of HT_.out (by kernel_rfl)) (by decide) (fun K hK => ?_)
    obtain ⟨z0, z1, z2, z3⟩ := ordHd_cells HH.out
    clear HH
    refine value_ (v := .agg #[.int .i64 (ordHd (hOf s) (hOf t)).f0.f0, .int .i64 (ordHd (hOf s) (hOf t)).f0.f1, .int .i64 (ordHd (hOf s) (hOf t)).f1, .int .i64 (ordHd (hOf s) (hOf t)).f2]) (w1 := w8) (by rfl) rfl (by first | (go_simp; done) | (go_simp; rfl)) ?_
    refine hK.out _ _ hHeld (fun hHeld => ?_)
    clear z0 z1 z2 z3
    clear hK K
    refine norm_ (a' := ?_) ?_ ?_
    rotate_left
    · show Act.put _ (some 29) _ = _
      simp only [Act.put, List.setIfInBounds_toArray, List.set_cons_zero, List.set_cons_succ, i64_w, i32_w]
      rfl
    refine pure_ (i := 7) (N := some 31) (v := ?_) (a' := ?_) (bL 8 255) rfl rfl (any_of HT_.out (by kernel_rfl)) (fun _ _ _ h => h) (Or.inl ⟨by rfl, ?_⟩) ?_ ?_; rotate_left; (intro w'; go_simp; with_reducible rfl); rotate_left; (simp only [Act.put, act1, act2, act3, i64_w, i32_w]; rfl)
    refine done_ (done_of HT_.out (by kernel_rfl)) ?_
    clear hHeld HT_
    have hfin : reb s t = if ((((ordHd (hOf s) (hOf t)).f0.f0 == s.f1.f0) && ((ordHd (hOf s) (hOf t)).f0.f1 == s.f1.f1)) && (((ordHd (hOf s) (hOf t)).f1 == s.f2) && ((ordHd (hOf s) (hOf t)).f2 == s.f3))) = true then -1 else 1 := reb_ne s t HN.out
    generalize (ordHd (hOf s) (hOf t)) = q at hfin ⊢
    generalize (((q.f0.f0 == s.f1.f0) && (q.f0.f1 == s.f1.f1)) && ((q.f1 == s.f2) && (q.f2 == s.f3))) = bb at hfin ⊢
    have HR := Lib.hid hfin
    clear hfin HN
    cases bb
    all_goals
      go_wp2
      go_ret
      exact ⟨by rw [HR.out]; rfl, K6.out⟩

end Go.Proofs.Ytmpeekkbmfbjeaa

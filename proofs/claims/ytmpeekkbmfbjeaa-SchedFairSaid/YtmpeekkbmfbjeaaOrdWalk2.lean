/- The walk of health.byLoss's comparison of two stripes. -/
import Derived.Test.YtmpeekkbmfbjeaaMapLit
import Derived.Test.YtmpeekkbmfbjeaaOrdWalk1
import Derived.Lib.Small
namespace Go.Proofs.Ytmpeekkbmfbjeaa
open Go.RowKit Go.Lib Go.Proofs.Ytmpeekkbmfbjeaa.P Go.Proofs.YtmpeekkbmfbjeaaW.PrintWords Go.Proofs.YtmpeekkbmfbjeaaW.PrintLast Go.Proofs.YtmpeekkbmfbjeaaW.PrintMore
set_option linter.unusedVariables false
set_option linter.unusedSimpArgs false

theorem compare_any (x y : Int) (w : World) : Calls Try.prog 45 #[.int .i64 x, .int .i64 y] w fun e w' => e = .returned (.int .i64 (Lib.compareInt x y)) ∧ w' = w := by
  go_enter Try.func45, Try.ntmps45
  go_wp2
  all_goals (go_ret; refine ⟨?_, rfl⟩; unfold Lib.compareInt; (repeat' split) <;> first | rfl | (exfalso; omega))

def cmpR.T : Bool × List (List Nat × List Nat) := (true, [([], []), ([], []), ([0, 1], [0, 1]), ([], []), ([], []), ([3, 4, 2], [3, 4]), ([2, 5, 5], [2, 5]), ([], []), ([7], [7]), ([], []), ([9], [9]), ([8, 10, 6], [8, 10]), ([], []), ([12], [12]), ([], []), ([14], [14]), ([13, 15, 11], [13, 15]), ([], []), ([17], [17]), ([18], [18]), ([], []), ([20], [20]), ([21], [21]), ([19, 22, 16], [19, 22]), ([], []), ([24], [24]), ([25], [25]), ([], []), ([27], [27]), ([28], [28]), ([26, 29, 23], [26, 29]), ([6, 11, 16, 23, 30], [6, 11, 16, 23, 30]), ([31, 30], [31]), ([32, 32, 0, 1, 2, 3, 4, 5, 6, 7, 8, 9, 10, 11, 12, 13, 14, 15, 16, 17, 18, 19, 20, 21, 22, 23, 24, 25, 26, 27, 28, 29, 30, 31, 32], [32])])
def cmpR.B : List Nat := [0, 0, 3, 0, 0, 31, 63, 0, 128, 0, 512, 2047, 0, 4096, 0, 16384, 65535, 0, 131072, 393216, 0, 1048576, 3145728, 8388607, 0, 16777216, 50331648, 0, 134217728, 402653184, 1073741823, 2147483647, 4294967295, 8589934591]
theorem cmpR.tab : rtab .any (opsOf Try.f56 1) = cmpR.T := by kernel_rfl
theorem cmpR.bits : waitsOk cmpR.T.2 cmpR.B = true := by kernel_rfl

theorem enters55 : ∀ args w, (callFunc 55 args).run Try.prog w = .ok (.enter 55 args) w := fun args w => enters_ Try.func55 (by kernel_rfl) rfl args w

theorem drawn_of0 {w w' : World} (h : Drawn0 w w') : w.drawn ≤ w'.drawn := by
  obtain ⟨n, rfl⟩ := h.out
  exact Nat.le_add_right _ _

def cmpOr : List Int → Int
  | [] => 0
  | a :: r => if a = 0 then cmpOr r else a
def hCmp (x y : S78) : Int := cmpOr [Lib.compareInt (hLost x) (hLost y), Lib.compareInt x.f1 y.f1, Lib.compareInt y.f2 x.f2, Lib.compareInt x.f0.f0 y.f0.f0, Lib.compareInt x.f0.f1 y.f0.f1]

theorem C_fresh (w : World) (l : List Int) (h : l.length ≤ 100) : Kd.C (Kd.int .i64) (w.alloc (.cells (l.map (Value.int .i64)).toArray 3 (0, 0))) (some ⟨w.heap.size, 0, none⟩) l.length l := by
  refine ⟨rfl, by omega, fun _ => ⟨_, rfl, fun j p hp => ⟨[.int .i64 p], rfl, rfl, fun i u hu => ?_⟩⟩⟩
  cases i with
  | zero =>
    simp at hu
    subst hu
    rw [show j * (Kd.int .i64).sz + 0 = j from by show j * 1 + 0 = j; omega, add_plain, blk_cell (blk_new w _) j]
    simp [hp]
  | succ i => simp at hu
theorem wrap_in (x : Int) (h0 : -9223372036854775808 ≤ x) (h1 : x ≤ 9223372036854775807) : wrap64 x = x := by unfold wrap64; omega
theorem or_l0 (l : List Int) (hl : l.length ≤ 100) : ∀ (d k i : Nat), i + d = l.length → d < k → cmp_Or_int.l0 k 0 l (l.length : Int) (i : Int) = some (cmpOr (l.drop i))
  | 0, k, i, hd, hk => by
    obtain ⟨k, rfl⟩ : ∃ m, k = m + 1 := ⟨k - 1, by omega⟩
    rw [cmp_Or_int.l0, if_neg (by omega), List.drop_eq_nil_of_le (by omega)]
    rfl
  | d + 1, k, i, hd, hk => by
    obtain ⟨k, rfl⟩ : ∃ m, k = m + 1 := ⟨k - 1, by omega⟩
    have hi : i < l.length := by omega
    have e1 : rd l (i : Int) = l[i] := by simp [rd, List.getD_eq_getElem?_getD, hi]
    have e2 : wrap64 ((i : Int) + 1) = ((i + 1 : Nat) : Int) := wrap_in _ (by omega) (by omega)
    rw [cmp_Or_int.l0, if_pos (by omega), if_pos (by omega), if_pos (by omega), e1, List.drop_eq_getElem_cons hi, cmpOr]
    by_cases c : l[i] = 0
    · rw [if_pos c, if_pos c, e2]
      exact or_l0 l hl d k (i + 1) (by omega) (by omega)
    · rw [if_neg c, if_neg c]

set_option maxHeartbeats 8000000 in
set_option maxRecDepth 1000000 in
theorem cmpH_any (x y : S78) (bf : Nat) (w : World) (hf : w.cell? ⟨bf, 0, none⟩ = some (.func (.func 55) #[] #[])) :
    Calls Try.prog 56 #[hv x, hv y, .pointer (some ⟨bf, 0, none⟩)] w fun e w' => e = .returned (.int .i64 (hCmp x y)) ∧ Below w.heap.size w w' ∧ w.drawn ≤ w'.drawn := by
  have hu78 := Try.underlying78
  have hu50 := Try.underlying50
  have e55 := enters55
  obtain ⟨W0, hW0⟩ : ∃ W0, W0 = (w.alloc (.cells #[.int .i64 x.f0.f0, .int .i64 x.f0.f1, .int .i64 x.f1, .int .i64 x.f2] 78 (0, 0))).alloc (.cells #[.int .i64 y.f0.f0, .int .i64 y.f0.f1, .int .i64 y.f1, .int .i64 y.f2] 78 (0, 0)) := ⟨_, rfl⟩
  have B1 : W0.heap[w.heap.size]? = some (.cells #[.int .i64 x.f0.f0, .int .i64 x.f0.f1, .int .i64 x.f1, .int .i64 x.f2] 78 (0, 0)) := by rw [hW0]; exact blk_alloc (blk_new w _) _
  have B2 : W0.heap[w.heap.size + 1]? = some (.cells #[.int .i64 y.f0.f0, .int .i64 y.f0.f1, .int .i64 y.f1, .int .i64 y.f2] 78 (0, 0)) := by
    rw [hW0]
    have := blk_new (w.alloc (.cells #[.int .i64 x.f0.f0, .int .i64 x.f0.f1, .int .i64 x.f1, .int .i64 x.f2] 78 (0, 0))) (.cells #[.int .i64 y.f0.f0, .int .i64 y.f0.f1, .int .i64 y.f1, .int .i64 y.f2] 78 (0, 0))
    simpa using this
  have HB0 : Below w.heap.size w W0 := by rw [hW0]; exact below_alloc (below_alloc (Below.refl _ _) _) _
  have HD0 : Aside0 (w.drawn ≤ W0.drew.drawn) := ⟨by rw [hW0]; exact Nat.le_succ _⟩
  have HF : Aside0 (W0.cell? ⟨bf, 0, none⟩ = some (.func (.func 55) #[] #[])) := ⟨pw_cell_below HB0 hf⟩
  have BA := Aside0.mk B1
  have BB := Aside0.mk B2
  have HBd := Aside0.mk HB0
  have HW0 := Lib.hid hW0
  clear B1 B2 HB0 hf hW0
  unfold hv
  go_enter Try.func56, Try.ntmps56
  go_wp2_with fail
  rw [← HW0.out]
  refine start_ (n := 34) (S := fun w' => w'.cell? ⟨w.heap.size, 0, none⟩ = some (.int .i64 x.f0.f0) ∧ w'.cell? ⟨w.heap.size, 1, none⟩ = some (.int .i64 x.f0.f1) ∧ w'.cell? ⟨w.heap.size, 2, none⟩ = some (.int .i64 x.f1) ∧ w'.cell? ⟨w.heap.size, 3, none⟩ = some (.int .i64 x.f2) ∧ w'.cell? ⟨(w.heap.size + 1), 0, none⟩ = some (.int .i64 y.f0.f0) ∧ w'.cell? ⟨(w.heap.size + 1), 1, none⟩ = some (.int .i64 y.f0.f1) ∧ w'.cell? ⟨(w.heap.size + 1), 2, none⟩ = some (.int .i64 y.f1) ∧ w'.cell? ⟨(w.heap.size + 1), 3, none⟩ = some (.int .i64 y.f2) ∧ w'.cell? ⟨bf, 0, none⟩ = some (.func (.func 55) #[] #[])) (ds := []) (bL 34 0) (by kernel_rfl) rfl (by kernel_rfl) ⟨(blk_cell BA.out 0).trans rfl, (blk_cell BA.out 1).trans rfl, (blk_cell BA.out 2).trans rfl, (blk_cell BA.out 3).trans rfl, (blk_cell BB.out 0).trans rfl, (blk_cell BB.out 1).trans rfl, (blk_cell BB.out 2).trans rfl, (blk_cell BB.out 3).trans rfl, HF.out⟩ (fun hHeld => ?_)
  refine with_tabW cmpR.tab cmpR.bits (fun HT_ HW_ => ?_)
  have HBe := Aside0.mk (below_drew1 HBd.out)
  clear HBd BA BB HF HW0
  have HBd := HBe
  clear HBe
  have HDd := HD0
  clear HD0
  generalize W0.drew = wd at HBd HDd hHeld ⊢
  refine take_ (i := 0) (N := some 6) (v := ?_) (a' := ?_) (bL 34 1) rfl rfl (take_ofW HT_.out HW_.out (by kernel_rfl)) (fun _ _ _ h => h) (Or.inl ⟨by rfl, ?_⟩) hHeld ?_ ?_; rotate_left; (rintro w' ⟨s0, s1, s2, s3, s4, s5, s6, s7, s8⟩; go_simp; with_reducible rfl); rotate_left; (simp only [Act.put, act1, act2, act3, i64_w, i32_w]; rfl)
  refine take_ (i := 1) (N := some 7) (v := ?_) (a' := ?_) (bL 34 3) rfl rfl (take_ofW HT_.out HW_.out (by kernel_rfl)) (fun _ _ _ h => h) (Or.inl ⟨by rfl, ?_⟩) hHeld ?_ ?_; rotate_left; (rintro w' ⟨s0, s1, s2, s3, s4, s5, s6, s7, s8⟩; go_simp; with_reducible rfl); rotate_left; (simp only [Act.put, act1, act2, act3, i64_w, i32_w]; rfl)
  refine take_ (i := 3) (N := some 9) (v := ?_) (a' := ?_) (bL 34 11) rfl rfl (take_ofW HT_.out HW_.out (by kernel_rfl)) (fun _ _ _ h => h) (Or.inl ⟨by rfl, ?_⟩) hHeld ?_ ?_; rotate_left; (rintro w' ⟨s0, s1, s2, s3, s4, s5, s6, s7, s8⟩; go_simp; with_reducible rfl); rotate_left; (simp only [Act.put, act1, act2, act3, i64_w, i32_w]; rfl)
  refine take_ (i := 4) (N := some 10) (v := ?_) (a' := ?_) (bL 34 27) rfl rfl (take_ofW HT_.out HW_.out (by kernel_rfl)) (fun _ _ _ h => h) (Or.inl ⟨by rfl, ?_⟩) hHeld ?_ ?_; rotate_left; (rintro w' ⟨s0, s1, s2, s3, s4, s5, s6, s7, s8⟩; go_simp; with_reducible rfl); rotate_left; (simp only [Act.put, act1, act2, act3, i64_w, i32_w]; rfl)
  refine pure_ (i := 7) (N := some 13) (v := ?_) (a' := ?_) (bL 34 155) rfl rfl (any_of HT_.out (by kernel_rfl)) (fun _ _ _ h => h) (Or.inl ⟨by rfl, ?_⟩) ?_ ?_; rotate_left; (intro w'; go_simp; with_reducible rfl); rotate_left; (simp only [Act.put, act1, act2, act3, i64_w, i32_w]; rfl)
  refine take_ (i := 8) (N := some 14) (v := ?_) (a' := ?_) (bL 34 411) rfl rfl (take_ofW HT_.out HW_.out (by kernel_rfl)) (fun _ _ _ h => h) (Or.inl ⟨by rfl, ?_⟩) hHeld ?_ ?_; rotate_left; (rintro w' ⟨s0, s1, s2, s3, s4, s5, s6, s7, s8⟩; go_simp; with_reducible rfl); rotate_left; (simp only [Act.put, act1, act2, act3, i64_w, i32_w]; rfl)
  refine pure_ (i := 9) (N := some 15) (v := ?_) (a' := ?_) (bL 34 923) rfl rfl (any_of HT_.out (by kernel_rfl)) (fun _ _ _ h => h) (Or.inl ⟨by rfl, ?_⟩) ?_ ?_; rotate_left; (intro w'; go_simp; with_reducible rfl); rotate_left; (simp only [Act.put, act1, act2, act3, i64_w, i32_w]; rfl)
  refine take_ (i := 10) (N := some 16) (v := ?_) (a' := ?_) (bL 34 1947) rfl rfl (take_ofW HT_.out HW_.out (by kernel_rfl)) (fun _ _ _ h => h) (Or.inl ⟨by rfl, ?_⟩) hHeld ?_ ?_; rotate_left; (rintro w' ⟨s0, s1, s2, s3, s4, s5, s6, s7, s8⟩; go_simp; with_reducible rfl); rotate_left; (simp only [Act.put, act1, act2, act3, i64_w, i32_w]; rfl)
  refine pure_ (i := 12) (N := some 18) (v := ?_) (a' := ?_) (bL 34 6043) rfl rfl (any_of HT_.out (by kernel_rfl)) (fun _ _ _ h => h) (Or.inl ⟨by rfl, ?_⟩) ?_ ?_; rotate_left; (intro w'; go_simp; with_reducible rfl); rotate_left; (simp only [Act.put, act1, act2, act3, i64_w, i32_w]; rfl)
  refine take_ (i := 13) (N := some 19) (v := ?_) (a' := ?_) (bL 34 14235) rfl rfl (take_ofW HT_.out HW_.out (by kernel_rfl)) (fun _ _ _ h => h) (Or.inl ⟨by rfl, ?_⟩) hHeld ?_ ?_; rotate_left; (rintro w' ⟨s0, s1, s2, s3, s4, s5, s6, s7, s8⟩; go_simp; with_reducible rfl); rotate_left; (simp only [Act.put, act1, act2, act3, i64_w, i32_w]; rfl)
  refine pure_ (i := 14) (N := some 20) (v := ?_) (a' := ?_) (bL 34 30619) rfl rfl (any_of HT_.out (by kernel_rfl)) (fun _ _ _ h => h) (Or.inl ⟨by rfl, ?_⟩) ?_ ?_; rotate_left; (intro w'; go_simp; with_reducible rfl); rotate_left; (simp only [Act.put, act1, act2, act3, i64_w, i32_w]; rfl)
  refine take_ (i := 15) (N := some 21) (v := ?_) (a' := ?_) (bL 34 63387) rfl rfl (take_ofW HT_.out HW_.out (by kernel_rfl)) (fun _ _ _ h => h) (Or.inl ⟨by rfl, ?_⟩) hHeld ?_ ?_; rotate_left; (rintro w' ⟨s0, s1, s2, s3, s4, s5, s6, s7, s8⟩; go_simp; with_reducible rfl); rotate_left; (simp only [Act.put, act1, act2, act3, i64_w, i32_w]; rfl)
  refine pure_ (i := 17) (N := some 23) (v := ?_) (a' := ?_) (bL 34 194459) rfl rfl (any_of HT_.out (by kernel_rfl)) (fun _ _ _ h => h) (Or.inl ⟨by rfl, ?_⟩) ?_ ?_; rotate_left; (intro w'; go_simp; with_reducible rfl); rotate_left; (simp only [Act.put, act1, act2, act3, i64_w, i32_w]; rfl)
  refine pure_ (i := 18) (N := some 24) (v := ?_) (a' := ?_) (bL 34 456603) rfl rfl (any_of HT_.out (by kernel_rfl)) (fun _ _ _ h => h) (Or.inl ⟨by rfl, ?_⟩) ?_ ?_; rotate_left; (intro w'; go_simp; with_reducible rfl); rotate_left; (simp only [Act.put, act1, act2, act3, i64_w, i32_w]; rfl)
  refine take_ (i := 19) (N := some 25) (v := ?_) (a' := ?_) (bL 34 980891) rfl rfl (take_ofW HT_.out HW_.out (by kernel_rfl)) (fun _ _ _ h => h) (Or.inl ⟨by rfl, ?_⟩) hHeld ?_ ?_; rotate_left; (rintro w' ⟨s0, s1, s2, s3, s4, s5, s6, s7, s8⟩; go_simp; with_reducible rfl); rotate_left; (simp only [Act.put, act1, act2, act3, i64_w, i32_w]; rfl)
  refine pure_ (i := 20) (N := some 26) (v := ?_) (a' := ?_) (bL 34 2029467) rfl rfl (any_of HT_.out (by kernel_rfl)) (fun _ _ _ h => h) (Or.inl ⟨by rfl, ?_⟩) ?_ ?_; rotate_left; (intro w'; go_simp; with_reducible rfl); rotate_left; (simp only [Act.put, act1, act2, act3, i64_w, i32_w]; rfl)
  refine pure_ (i := 21) (N := some 27) (v := ?_) (a' := ?_) (bL 34 4126619) rfl rfl (any_of HT_.out (by kernel_rfl)) (fun _ _ _ h => h) (Or.inl ⟨by rfl, ?_⟩) ?_ ?_; rotate_left; (intro w'; go_simp; with_reducible rfl); rotate_left; (simp only [Act.put, act1, act2, act3, i64_w, i32_w]; rfl)
  refine take_ (i := 22) (N := some 28) (v := ?_) (a' := ?_) (bL 34 8320923) rfl rfl (take_ofW HT_.out HW_.out (by kernel_rfl)) (fun _ _ _ h => h) (Or.inl ⟨by rfl, ?_⟩) hHeld ?_ ?_; rotate_left; (rintro w' ⟨s0, s1, s2, s3, s4, s5, s6, s7, s8⟩; go_simp; with_reducible rfl); rotate_left; (simp only [Act.put, act1, act2, act3, i64_w, i32_w]; rfl)
  refine pure_ (i := 24) (N := some 30) (v := ?_) (a' := ?_) (bL 34 25098139) rfl rfl (any_of HT_.out (by kernel_rfl)) (fun _ _ _ h => h) (Or.inl ⟨by rfl, ?_⟩) ?_ ?_; rotate_left; (intro w'; go_simp; with_reducible rfl); rotate_left; (simp only [Act.put, act1, act2, act3, i64_w, i32_w]; rfl)
  refine pure_ (i := 25) (N := some 31) (v := ?_) (a' := ?_) (bL 34 58652571) rfl rfl (any_of HT_.out (by kernel_rfl)) (fun _ _ _ h => h) (Or.inl ⟨by rfl, ?_⟩) ?_ ?_; rotate_left; (intro w'; go_simp; with_reducible rfl); rotate_left; (simp only [Act.put, act1, act2, act3, i64_w, i32_w]; rfl)
  refine take_ (i := 26) (N := some 32) (v := ?_) (a' := ?_) (bL 34 125761435) rfl rfl (take_ofW HT_.out HW_.out (by kernel_rfl)) (fun _ _ _ h => h) (Or.inl ⟨by rfl, ?_⟩) hHeld ?_ ?_; rotate_left; (rintro w' ⟨s0, s1, s2, s3, s4, s5, s6, s7, s8⟩; go_simp; with_reducible rfl); rotate_left; (simp only [Act.put, act1, act2, act3, i64_w, i32_w]; rfl)
  refine pure_ (i := 27) (N := some 33) (v := ?_) (a' := ?_) (bL 34 259979163) rfl rfl (any_of HT_.out (by kernel_rfl)) (fun _ _ _ h => h) (Or.inl ⟨by rfl, ?_⟩) ?_ ?_; rotate_left; (intro w'; go_simp; with_reducible rfl); rotate_left; (simp only [Act.put, act1, act2, act3, i64_w, i32_w]; rfl)
  refine pure_ (i := 28) (N := some 34) (v := ?_) (a' := ?_) (bL 34 528414619) rfl rfl (any_of HT_.out (by kernel_rfl)) (fun _ _ _ h => h) (Or.inl ⟨by rfl, ?_⟩) ?_ ?_; rotate_left; (intro w'; go_simp; with_reducible rfl); rotate_left; (simp only [Act.put, act1, act2, act3, i64_w, i32_w]; rfl)
  refine take_ (i := 29) (N := some 35) (v := ?_) (a' := ?_) (bL 34 1065285531) rfl rfl (take_ofW HT_.out HW_.out (by kernel_rfl)) (fun _ _ _ h => h) (Or.inl ⟨by rfl, ?_⟩) hHeld ?_ ?_; rotate_left; (rintro w' ⟨s0, s1, s2, s3, s4, s5, s6, s7, s8⟩; go_simp; with_reducible rfl); rotate_left; (simp only [Act.put, act1, act2, act3, i64_w, i32_w]; rfl)
  refine one_ (i := 2) (N := some 8) (bL 34 1065285535) rfl rfl (one_of HT_.out (by kernel_rfl)) (by decide) (fun K hK => ?_)
  refine call_ 55 #[.agg #[.int .i64 x.f0.f0, .int .i64 x.f0.f1, .int .i64 x.f1, .int .i64 x.f2]] (by rfl) rfl ?_ ?_
  · unfold execOp
    simp [resolve, Deferred.ofValue, invoke, Act.eval, e55]
  refine (lost_any x _).mono ?_
  rintro e w2 ⟨rfl, hb_w2, hd_w2⟩
  refine ⟨_, rfl, ?_⟩
  refine hK.out _ _ ⟨pw_cell_below hb_w2 hHeld.1, pw_cell_below hb_w2 hHeld.2.1, pw_cell_below hb_w2 hHeld.2.2.1, pw_cell_below hb_w2 hHeld.2.2.2.1, pw_cell_below hb_w2 hHeld.2.2.2.2.1, pw_cell_below hb_w2 hHeld.2.2.2.2.2.1, pw_cell_below hb_w2 hHeld.2.2.2.2.2.2.1, pw_cell_below hb_w2 hHeld.2.2.2.2.2.2.2.1, pw_cell_below hb_w2 hHeld.2.2.2.2.2.2.2.2⟩ (fun hHeld => ?_)
  clear hK K
  refine norm_ (a' := ?_) ?_ ?_
  rotate_left
  · show Act.put _ (some 8) _ = _
    simp only [Act.put, List.setIfInBounds_toArray, List.set_cons_zero, List.set_cons_succ, i64_w, i32_w]
    rfl
  have HB_w2 := Aside0.mk (below_then HBd.out HBd.out.size hb_w2)
  have HD_w2 := Aside0.mk (Nat.le_trans HDd.out hd_w2)
  clear HBd HDd hb_w2 hd_w2
  have HBd := HB_w2
  have HDd := HD_w2
  clear HB_w2 HD_w2
  refine one_ (i := 5) (N := some 11) (bL 34 1065285567) rfl rfl (one_of HT_.out (by kernel_rfl)) (by decide) (fun K hK => ?_)
  refine call_ 55 #[.agg #[.int .i64 y.f0.f0, .int .i64 y.f0.f1, .int .i64 y.f1, .int .i64 y.f2]] (by rfl) rfl ?_ ?_
  · unfold execOp
    simp [resolve, Deferred.ofValue, invoke, Act.eval, e55]
  refine (lost_any y _).mono ?_
  rintro e w3 ⟨rfl, hb_w3, hd_w3⟩
  refine ⟨_, rfl, ?_⟩
  refine hK.out _ _ ⟨pw_cell_below hb_w3 hHeld.1, pw_cell_below hb_w3 hHeld.2.1, pw_cell_below hb_w3 hHeld.2.2.1, pw_cell_below hb_w3 hHeld.2.2.2.1, pw_cell_below hb_w3 hHeld.2.2.2.2.1, pw_cell_below hb_w3 hHeld.2.2.2.2.2.1, pw_cell_below hb_w3 hHeld.2.2.2.2.2.2.1, pw_cell_below hb_w3 hHeld.2.2.2.2.2.2.2.1, pw_cell_below hb_w3 hHeld.2.2.2.2.2.2.2.2⟩ (fun hHeld => ?_)
  clear hK K
  refine norm_ (a' := ?_) ?_ ?_
  rotate_left
  · show Act.put _ (some 11) _ = _
    simp only [Act.put, List.setIfInBounds_toArray, List.set_cons_zero, List.set_cons_succ, i64_w, i32_w]
    rfl
  have HB_w3 := Aside0.mk (below_then HBd.out HBd.out.size hb_w3)
  have HD_w3 := Aside0.mk (Nat.le_trans HDd.out hd_w3)
  clear HBd HDd hb_w3 hd_w3
  have HBd := HB_w3
  have HDd := HD_w3
  clear HB_w3 HD_w3
  refine one_ (i := 6) (N := some 12) (bL 34 1065285631) rfl rfl (one_of HT_.out (by kernel_rfl)) (by decide) (fun K hK => ?_)
  refine goes_ Try.func45 (by kernel_rfl) rfl #[.int .i64 (hLost x), .int .i64 (hLost y)] (by rfl) rfl rfl (by (try simp only [List.map_toArray, List.map_cons, List.map_nil]); first | done | rfl) ?_
  refine (compare_any _ _ _).mono ?_
  rintro e wz ⟨rfl, rfl⟩
  refine ⟨_, rfl, ?_⟩
  refine hK.out _ _ ⟨hHeld.1, hHeld.2.1, hHeld.2.2.1, hHeld.2.2.2.1, hHeld.2.2.2.2.1, hHeld.2.2.2.2.2.1, hHeld.2.2.2.2.2.2.1, hHeld.2.2.2.2.2.2.2.1, hHeld.2.2.2.2.2.2.2.2⟩ (fun hHeld => ?_)
  clear hK K
  refine norm_ (a' := ?_) ?_ ?_
  rotate_left
  · show Act.put _ (some 12) _ = _
    simp only [Act.put, List.setIfInBounds_toArray, List.set_cons_zero, List.set_cons_succ, i64_w, i32_w]
    rfl
  refine one_ (i := 11) (N := some 17) (bL 34 1065287679) rfl rfl (one_of HT_.out (by kernel_rfl)) (by decide) (fun K hK => ?_)
  refine goes_ Try.func45 (by kernel_rfl) rfl #[.int .i64 x.f1, .int .i64 y.f1] (by rfl) rfl rfl (by (try simp only [List.map_toArray, List.map_cons, List.map_nil]); first | done | rfl) ?_
  refine (compare_any _ _ _).mono ?_
  rintro e wz ⟨rfl, rfl⟩
  refine ⟨_, rfl, ?_⟩
  refine hK.out _ _ ⟨hHeld.1, hHeld.2.1, hHeld.2.2.1, hHeld.2.2.2.1, hHeld.2.2.2.2.1, hHeld.2.2.2.2.2.1, hHeld.2.2.2.2.2.2.1, hHeld.2.2.2.2.2.2.2.1, hHeld.2.2.2.2.2.2.2.2⟩ (fun hHeld => ?_)
  clear hK K
  refine norm_ (a' := ?_) ?_ ?_
  rotate_left
  · show Act.put _ (some 17) _ = _
    simp only [Act.put, List.setIfInBounds_toArray, List.set_cons_zero, List.set_cons_succ, i64_w, i32_w]
    rfl
  refine one_ (i := 16) (N := some 22) (bL 34 1065353215) rfl rfl (one_of HT_.out (by kernel_rfl)) (by decide) (fun K hK => ?_)
  refine goes_ Try.func45 (by kernel_rfl) rfl #[.int .i64 y.f2, .int .i64 x.f2] (by rfl) rfl rfl (by (try simp only [List.map_toArray, List.map_cons, List.map_nil]); first | done | rfl) ?_
  refine (compare_any _ _ _).mono ?_
  rintro e wz ⟨rfl, rfl⟩
  refine ⟨_, rfl, ?_⟩
  refine hK.out _ _ ⟨hHeld.1, hHeld.2.1, hHeld.2.2.1, hHeld.2.2.2.1, hHeld.2.2.2.2.1, hHeld.2.2.2.2.2.1, hHeld.2.2.2.2.2.2.1, hHeld.2.2.2.2.2.2.2.1, hHeld.2.2.2.2.2.2.2.2⟩ (fun hHeld => ?_)
  clear hK K
  refine norm_ (a' := ?_) ?_ ?_
  rotate_left
  · show Act.put _ (some 22) _ = _
    simp only [Act.put, List.setIfInBounds_toArray, List.set_cons_zero, List.set_cons_succ, i64_w, i32_w]
    rfl
  refine one_ (i := 23) (N := some 29) (bL 34 1073741823) rfl rfl (one_of HT_.out (by kernel_rfl)) (by decide) (fun K hK => ?_)
  refine goes_ Try.func45 (by kernel_rfl) rfl #[.int .i64 x.f0.f0, .int .i64 y.f0.f0] (by rfl) rfl rfl (by (try simp only [List.map_toArray, List.map_cons, List.map_nil]); first | done | rfl) ?_
  refine (compare_any _ _ _).mono ?_
  rintro e wz ⟨rfl, rfl⟩
  refine ⟨_, rfl, ?_⟩
  refine hK.out _ _ ⟨hHeld.1, hHeld.2.1, hHeld.2.2.1, hHeld.2.2.2.1, hHeld.2.2.2.2.1, hHeld.2.2.2.2.2.1, hHeld.2.2.2.2.2.2.1, hHeld.2.2.2.2.2.2.2.1, hHeld.2.2.2.2.2.2.2.2⟩ (fun hHeld => ?_)
  clear hK K
  refine norm_ (a' := ?_) ?_ ?_
  rotate_left
  · show Act.put _ (some 29) _ = _
    simp only [Act.put, List.setIfInBounds_toArray, List.set_cons_zero, List.set_cons_succ, i64_w, i32_w]
    rfl
  refine one_ (i := 30) (N := some 36) (bL 34 2147483647) rfl rfl (one_of HT_.out (by kernel_rfl)) (by decide) (fun K hK => ?_)
  refine goes_ Try.func45 (by kernel_rfl) rfl #[.int .i64 x.f0.f1, .int .i64 y.f0.f1] (by rfl) rfl rfl (by (try simp only [List.map_toArray, List.map_cons, List.map_nil]); first | done | rfl) ?_
  refine (compare_any _ _ _).mono ?_
  rintro e wz ⟨rfl, rfl⟩
  refine ⟨_, rfl, ?_⟩
  refine hK.out _ _ ⟨hHeld.1, hHeld.2.1, hHeld.2.2.1, hHeld.2.2.2.1, hHeld.2.2.2.2.1, hHeld.2.2.2.2.2.1, hHeld.2.2.2.2.2.2.1, hHeld.2.2.2.2.2.2.2.1, hHeld.2.2.2.2.2.2.2.2⟩ (fun hHeld => ?_)
  clear hK K
  refine norm_ (a' := ?_) ?_ ?_
  rotate_left
  · show Act.put _ (some 36) _ = _
    simp only [Act.put, List.setIfInBounds_toArray, List.set_cons_zero, List.set_cons_succ, i64_w, i32_w]
    rfl
  refine one_ (i := 31) (N := some 37) (bL 34 4294967295) rfl rfl (one_of HT_.out (by kernel_rfl)) (by decide) (fun K hK => ?_)
  refine value_ (v := .slice (some ⟨wz.heap.size, 0, none⟩) 5 5) (w1 := wz.alloc (.cells #[.int .i64 (Lib.compareInt (hLost x) (hLost y)), .int .i64 (Lib.compareInt x.f1 y.f1), .int .i64 (Lib.compareInt y.f2 x.f2), .int .i64 (Lib.compareInt x.f0.f0 y.f0.f0), .int .i64 (Lib.compareInt x.f0.f1 y.f0.f1)] 3 (0, 0))) (by rfl) rfl (by first | (go_simp; done) | (go_simp; rfl)) ?_
  have hb_w9 : Below wz.heap.size wz (wz.alloc (.cells #[.int .i64 (Lib.compareInt (hLost x) (hLost y)), .int .i64 (Lib.compareInt x.f1 y.f1), .int .i64 (Lib.compareInt y.f2 x.f2), .int .i64 (Lib.compareInt x.f0.f0 y.f0.f0), .int .i64 (Lib.compareInt x.f0.f1 y.f0.f1)] 3 (0, 0))) := below_alloc (Below.refl _ _) _
  have HC5 := Aside0.mk (C_fresh wz [Lib.compareInt (hLost x) (hLost y), Lib.compareInt x.f1 y.f1, Lib.compareInt y.f2 x.f2, Lib.compareInt x.f0.f0 y.f0.f0, Lib.compareInt x.f0.f1 y.f0.f1] (by simp))
  have HBt := Aside0.mk (below_then HBd.out HBd.out.size hb_w9)
  refine hK.out _ _ ⟨pw_cell_below hb_w9 hHeld.1, pw_cell_below hb_w9 hHeld.2.1, pw_cell_below hb_w9 hHeld.2.2.1, pw_cell_below hb_w9 hHeld.2.2.2.1, pw_cell_below hb_w9 hHeld.2.2.2.2.1, pw_cell_below hb_w9 hHeld.2.2.2.2.2.1, pw_cell_below hb_w9 hHeld.2.2.2.2.2.2.1, pw_cell_below hb_w9 hHeld.2.2.2.2.2.2.2.1, pw_cell_below hb_w9 hHeld.2.2.2.2.2.2.2.2⟩ (fun hHeld => ?_)
  clear hK K
  refine norm_ (a' := ?_) ?_ ?_
  rotate_left
  · show Act.put _ (some 37) _ = _
    simp only [Act.put, List.setIfInBounds_toArray, List.set_cons_zero, List.set_cons_succ, i64_w, i32_w]
    rfl
  refine one_ (i := 32) (N := some 38) (bL 34 8589934591) rfl rfl (one_of HT_.out (by kernel_rfl)) (by decide) (fun K hK => ?_)
  refine goes_ Try.func44 (by kernel_rfl) rfl #[.slice (some ⟨wz.heap.size, 0, none⟩) 5 5] (by rfl) rfl rfl (by (try simp only [List.map_toArray, List.map_cons, List.map_nil]); first | done | rfl) ?_
  refine (cmp_Or_int.calls 10 _ 5 [Lib.compareInt (hLost x) (hLost y), Lib.compareInt x.f1 y.f1, Lib.compareInt y.f2 x.f2, Lib.compareInt x.f0.f0 y.f0.f0, Lib.compareInt x.f0.f1 y.f0.f1] (hCmp x y) _ HC5.out (Nat.le_refl _) (or_l0 _ (by simp) 5 10 0 rfl (by decide))).mono ?_
  rintro e w8 ⟨rfl, hd8⟩
  have hb8 := hd8.below
  have hdr8 := drawn_of0 hd8
  refine ⟨_, rfl, ?_⟩
  refine hK.out _ _ ⟨pw_cell_below hb8 hHeld.1, pw_cell_below hb8 hHeld.2.1, pw_cell_below hb8 hHeld.2.2.1, pw_cell_below hb8 hHeld.2.2.2.1, pw_cell_below hb8 hHeld.2.2.2.2.1, pw_cell_below hb8 hHeld.2.2.2.2.2.1, pw_cell_below hb8 hHeld.2.2.2.2.2.2.1, pw_cell_below hb8 hHeld.2.2.2.2.2.2.2.1, pw_cell_below hb8 hHeld.2.2.2.2.2.2.2.2⟩ (fun hHeld => ?_)
  clear hK K
  have HBu := Aside0.mk (below_then HBt.out HBt.out.size hb8)
  refine norm_ (a' := ?_) ?_ ?_
  rotate_left
  · show Act.put _ (some 38) _ = _
    simp only [Act.put, List.setIfInBounds_toArray, List.set_cons_zero, List.set_cons_succ, i64_w, i32_w]
    rfl
  refine pure_ (i := 33) (N := some 5) (v := ?_) (a' := ?_) (bL 34 17179869183) rfl rfl (any_of HT_.out (by kernel_rfl)) (fun _ _ _ h => h) (Or.inl ⟨by rfl, ?_⟩) ?_ ?_; rotate_left; (intro w'; go_simp; with_reducible rfl); rotate_left; (simp only [Act.put, act1, act2, act3, i64_w, i32_w]; rfl)
  refine done_ (done_of HT_.out (by kernel_rfl)) ?_
  clear hHeld HT_ HW_
  go_wp2_with fail
  go_ret
  exact ⟨rfl, HBu.out, Nat.le_trans HDd.out hdr8⟩

end Go.Proofs.Ytmpeekkbmfbjeaa

/- The walk of solventref37.better. -/
import Derived.Test.YtmpeekkbmfbjeaaPx5
import Derived.Test.YtmpeekkbmfbjeaaBestWalk
import Derived.Test.YtmpeekkbmfbjeaaRunPure
import Derived.Test.YtmpeekkbmfbjeaaMapLit
namespace Go.Proofs.Ytmpeekkbmfbjeaa
open Go.RowKit Go.Lib Go.Proofs.Ytmpeekkbmfbjeaa.P Go.Proofs.YtmpeekkbmfbjeaaW.PrintWords Go.Proofs.YtmpeekkbmfbjeaaW.PrintLast Go.Proofs.YtmpeekkbmfbjeaaW.PrintMore
set_option linter.unusedVariables false
set_option linter.unusedSimpArgs false
attribute [local go_sem high] eqA78 eqA50

def befV (x y : S78) : Bool := if ((decide (x.f1 < 0)) != (decide (y.f1 < 0))) = true then decide (y.f1 < 0) else if x.f1 = y.f1 then (if x.f2 = y.f2 then (if x.f0.f0 = y.f0.f0 then decide (x.f0.f1 < y.f0.f1) else decide (x.f0.f0 < y.f0.f0)) else decide (x.f2 > y.f2)) else decide (x.f1 < y.f1)
theorem before_f (x y : S78) : solventref36_before.f x.f0.f0 x.f0.f1 x.f1 x.f2 y.f0.f0 y.f0.f1 y.f1 y.f2 = some (befV x y) := by
  unfold solventref36_before.f befV
  (repeat' split) <;> rfl
def rOrd (y x : S78) : List S78 := if befV x y = true then [x, y] else [y, x]
theorem wr0 (x : Int) (h : -1000 ≤ x ∧ x ≤ 1000) : wrap64 x = x := wrap_in _ (by omega) (by omega)

theorem rorder_f (y x : S78) (hy : 0 < y.f2) (hx : 0 < x.f2) : solventref36_Order.f 10 [y, x] = some (rOrd y x) := by
  have e0 : rd_T78 [y, x] 0 = y := rfl
  have e1 : rd_T78 [y, x] 1 = x := rfl
  have e2 : rd_T78 [y] 0 = y := rfl
  have w1 : wrap64 (0 + 1) = 1 := wr0 _ (by decide)
  have w2 : wrap64 (1 + 1) = 2 := wr0 _ (by decide)
  have w3 : wrap64 (1 - 1) = 0 := wr0 _ (by decide)
  have l2 : (([y, x] : List S78).length : Int) = 2 := rfl
  have l1 : (([y] : List S78).length : Int) = 1 := rfl
  have l0 : (([] : List S78).length : Int) = 0 := rfl
  unfold solventref36_Order.f
  rw [solventref36_Order.l0, l2, if_pos (by decide), if_pos (by decide), e0, if_neg (by omega), solventref36_Order.l1, l0, if_neg (by decide)]
  simp only [Option.bind_some, e0, l0, l2, w1, List.length_nil, List.length_cons, List.take_nil, List.drop_nil, List.append_nil, List.nil_append, Int.toNat_zero, List.take_zero, List.drop_zero]
  simp only [show (0 : Int) ≤ 0 from by decide, show (0 : Int) < 2 from by decide, show (0 : Nat) + 0 < 4398046511104 from by decide, show (0 : Nat) < 4398046511104 from by decide, show (0 + 1 : Nat) + 0 < 4398046511104 from by decide, show (0 : Int) ≤ (0 : Nat) from by decide, if_true]
  rw [if_pos (by omega), show ([⟨⟨y.f0.f0, y.f0.f1⟩, y.f1, y.f2⟩] : List S78) = [y] from rfl, solventref36_Order.l0, l2, if_pos (by decide), if_pos (by decide), e1, if_neg (by omega), l1, solventref36_Order.l1, if_pos (by decide), if_pos (by decide), l2, if_pos (by decide), w3, if_pos (by decide), l1, if_pos (by decide), e1, e2, before_f, Option.bind_some]
  by_cases b : befV x y = true
  · rw [if_pos b, solventref36_Order.l1, if_neg (by decide), if_pos (by decide), l1, if_pos (by decide)]
    simp only [Option.bind_some, e1, l2, w2, List.length_nil, List.length_cons, Int.toNat_zero, List.take_zero, List.drop_zero, List.nil_append, List.append_nil]
    unfold rOrd
    rw [if_pos b]
    simp [solventref36_Order.l0]
  · rw [if_neg b, if_pos (by decide), if_pos (by decide)]
    simp only [Option.bind_some, e1, l2, w2, List.length_nil, List.length_cons, show (1 : Int).toNat = 1 from rfl, List.take_succ_cons, List.take_zero, List.drop_succ_cons, List.drop_zero, List.drop_nil, List.take_nil, List.nil_append, List.append_nil]
    unfold rOrd
    rw [if_neg b]
    simp [solventref36_Order.l0]

def tv2 (t : S52) : Value := .agg #[.int .i64 t.f0, .int .i64 t.f1.f0, .int .i64 t.f1.f1, .int .i64 t.f2, .int .i64 t.f3]
def h2 (t : S52) : S78 := ⟨t.f1, t.f2, t.f3⟩
def plc2 (a b : S52) : Bool := if a.f1.f0 = b.f1.f0 then decide (a.f1.f1 < b.f1.f1) else decide (a.f1.f0 < b.f1.f0)
def rHd (a b : S52) : S78 := if befV (h2 a) (h2 b) = true then h2 a else h2 b
def betV (a b : S52) : Bool := (((rHd a b).f0.f0 == a.f1.f0 && ((rHd a b).f0.f1 == a.f1.f1)) && ((rHd a b).f1 == a.f2 && ((rHd a b).f2 == a.f3))) && (!(a.f1.f0 == b.f1.f0 && (a.f1.f1 == b.f1.f1)) || (a.f2 != b.f2 || a.f3 != b.f3))

def betR.T : Bool × List (List Nat × List Nat) := (true, [([], []), ([0], [0]), ([1], [1]), ([], []), ([2, 3], [2, 3]), ([4], [4]), ([5], [5]), ([6, 5], [5, 6]), ([5], [5]), ([8, 5], [5, 8]), ([7, 9, 5], [5, 7, 9]), ([10, 5, 5], [5, 10]), ([11], [11]), ([12, 11], [11, 12]), ([11], [11]), ([14, 11], [11, 14]), ([13, 15, 11], [11, 13, 15]), ([11, 16, 5], [5, 11, 16]), ([17, 11, 5], [5, 17]), ([18], [18]), ([19, 18], [18, 19]), ([18], [18]), ([21, 18], [18, 21]), ([20, 22, 18], [18, 20, 22]), ([18, 23, 5], [5, 18, 23]), ([5, 24], [5, 24]), ([25, 18, 0, 1, 2, 3, 4, 5, 6, 7, 8, 9, 10, 11, 12, 13, 14, 15, 16, 17, 18, 19, 20, 21, 22, 23, 24, 25], [25])])
def betR.B : List Nat := [0, 1, 3, 0, 15, 31, 63, 127, 63, 319, 1023, 2047, 4095, 8191, 4095, 20479, 65535, 131071, 262143, 524287, 1048575, 524287, 2621439, 8388607, 16777215, 33554431, 67108863]
theorem betR.tab : rtab .any (opsOf Try.f39 4) = betR.T := by kernel_rfl
theorem betR.bits : waitsOk betR.T.2 betR.B = true := by kernel_rfl

set_option maxHeartbeats 8000000 in
set_option maxRecDepth 1000000 in
theorem better_plc (a b : S52) (w : World) (hk : ¬ a.f0 = 1) : Calls Try.prog 39 #[tv2 a, tv2 b] w fun e w' => e = .returned (.bool (plc2 a b)) ∧ Below w.heap.size w w' := by
  have hu52 := Try.underlying52
  have hu50 := Try.underlying50
  have hkb : (a.f0 == 1) = false := by simp [hk]
  have HB : Aside0 (Below w.heap.size w ((w.alloc (.cells #[.int .i64 a.f0, .int .i64 a.f1.f0, .int .i64 a.f1.f1, .int .i64 a.f2, .int .i64 a.f3] 52 (0, 0))).alloc (.cells #[.int .i64 b.f0, .int .i64 b.f1.f0, .int .i64 b.f1.f1, .int .i64 b.f2, .int .i64 b.f3] 52 (0, 0)))) := ⟨below_alloc (below_alloc (Below.refl _ _) _) _⟩
  unfold tv2
  by_cases h : a.f1.f0 = b.f1.f0
  · have HR : Hid (plc2 a b = decide (a.f1.f1 < b.f1.f1)) := Lib.hid (by unfold plc2; rw [if_pos h])
    have hb2 : (a.f1.f0 != b.f1.f0) = false := by simp [h]
    clear h
    go_enter Try.func39, Try.ntmps39
    go_wp2
    go_ret
    exact ⟨by rw [HR.out]; rfl, HB.out⟩
  · have HR : Hid (plc2 a b = decide (a.f1.f0 < b.f1.f0)) := Lib.hid (by unfold plc2; rw [if_neg h])
    have hb2 : (a.f1.f0 != b.f1.f0) = true := by simp [h]
    clear h
    go_enter Try.func39, Try.ntmps39
    go_wp2
    go_ret
    exact ⟨by rw [HR.out]; rfl, HB.out⟩

set_option maxHeartbeats 8000000 in
set_option maxRecDepth 1000000 in
theorem better_one (a b : S52) (w : World) (hk : a.f0 = 1) (hpa : 0 < a.f3) (hpb : 0 < b.f3) : Calls Try.prog 39 #[tv2 a, tv2 b] w fun e w' => e = .returned (.bool (betV a b)) ∧ Below w.heap.size w w' := by
  have hu52 := Try.underlying52
  have hu50 := Try.underlying50
  have hu78 := Try.underlying78
  have hkb : (a.f0 == 1) = true := by simp [hk]
  have HO : Aside0 (∀ (W : World) (g : Nat), W.heap[g]? = some (.cells #[.int .i64 b.f1.f0, .int .i64 b.f1.f1, .int .i64 b.f2, .int .i64 b.f3, .int .i64 a.f1.f0, .int .i64 a.f1.f1, .int .i64 a.f2, .int .i64 a.f3] 78 (0, 0)) → Calls Try.prog 42 #[.slice (some ⟨g, 0, none⟩) 2 2] W fun e w' => ∃ ad c, e = .returned (.slice (some ad) 2 c) ∧
      w'.cell? ad = some (.int .i64 (rHd a b).f0.f0) ∧ w'.cell? ⟨ad.block, ad.off + 1, none⟩ = some (.int .i64 (rHd a b).f0.f1) ∧ w'.cell? ⟨ad.block, ad.off + 2, none⟩ = some (.int .i64 (rHd a b).f1) ∧ w'.cell? ⟨ad.block, ad.off + 3, none⟩ = some (.int .i64 (rHd a b).f2) ∧ Below W.heap.size W w') := ⟨fun W g hg => by
    have hl : (rOrd (h2 b) (h2 a)).length = 2 := by unfold rOrd; split <;> rfl
    have hr : rd_T78 (rOrd (h2 b) (h2 a)) 0 = rHd a b := by unfold rOrd rHd; split <;> rfl
    refine (solventref36_Order.calls 10 (some ⟨g, 0, none⟩) 2 [h2 b, h2 a] (rOrd (h2 b) (h2 a)) W ?_ (Nat.le_refl _) (rorder_f _ _ hpb hpa)).mono ?_
    · refine ⟨rfl, (show 2 ≤ 9223372036854775807 by decide), fun _ => ⟨_, rfl, fun j p hp => ?_⟩⟩
      have hj : j < 2 := (List.getElem?_eq_some_iff.1 hp).1
      refine ⟨_, rfl, k78_mk W p, fun i u hu => ?_⟩
      have hi : i < 4 := (List.getElem?_eq_some_iff.1 hu).1
      rw [show (k78.sz : Nat) = 4 from rfl, add_plain, blk_cell hg]
      rcases j with _ | _ | j
      · cases hp
        rcases i with _ | _ | _ | _ | i
        all_goals first | exact hu | omega
      · cases hp
        rcases i with _ | _ | _ | _ | i
        all_goals first | exact hu | omega
      · omega
    · rintro e w' ⟨v, rfl, hR, hb⟩
      obtain ⟨A, c, rfl, hc, hC⟩ := Kd.R_reads hR
      obtain ⟨ad, rfl, c0, c1, c2, c3⟩ := at_T78 hC 0 (by decide) (by rw [hl]; decide)
      rw [hr, show (0 : Int).toNat = 0 from rfl, Nat.zero_mul, Addr.add_zero'] at c0 c1 c2 c3
      rw [hl]
      exact ⟨ad, c, rfl, c0, c1, c2, c3, hb⟩⟩
  clear hpa hpb hk
  obtain ⟨W0, hW0⟩ : ∃ W0, W0 = (((w.alloc (.cells #[.int .i64 a.f0, .int .i64 a.f1.f0, .int .i64 a.f1.f1, .int .i64 a.f2, .int .i64 a.f3] 52 (0, 0))).alloc (.cells #[.int .i64 b.f0, .int .i64 b.f1.f0, .int .i64 b.f1.f1, .int .i64 b.f2, .int .i64 b.f3] 52 (0, 0))).alloc (.cells #[.int .i64 a.f1.f0, .int .i64 a.f1.f1, .int .i64 a.f2, .int .i64 a.f3] 78 (0, 0))).alloc (.cells #[.int .i64 b.f1.f0, .int .i64 b.f1.f1, .int .i64 b.f2, .int .i64 b.f3, .int .i64 a.f1.f0, .int .i64 a.f1.f1, .int .i64 a.f2, .int .i64 a.f3] 78 (0, 0)) := ⟨_, rfl⟩
  have s1 : (w.alloc (.cells #[.int .i64 a.f0, .int .i64 a.f1.f0, .int .i64 a.f1.f1, .int .i64 a.f2, .int .i64 a.f3] 52 (0, 0))).heap.size = w.heap.size + 1 := by simp
  have s2 : ((w.alloc (.cells #[.int .i64 a.f0, .int .i64 a.f1.f0, .int .i64 a.f1.f1, .int .i64 a.f2, .int .i64 a.f3] 52 (0, 0))).alloc (.cells #[.int .i64 b.f0, .int .i64 b.f1.f0, .int .i64 b.f1.f1, .int .i64 b.f2, .int .i64 b.f3] 52 (0, 0))).heap.size = w.heap.size + 2 := by simp
  have s3 : (((w.alloc (.cells #[.int .i64 a.f0, .int .i64 a.f1.f0, .int .i64 a.f1.f1, .int .i64 a.f2, .int .i64 a.f3] 52 (0, 0))).alloc (.cells #[.int .i64 b.f0, .int .i64 b.f1.f0, .int .i64 b.f1.f1, .int .i64 b.f2, .int .i64 b.f3] 52 (0, 0))).alloc (.cells #[.int .i64 a.f1.f0, .int .i64 a.f1.f1, .int .i64 a.f2, .int .i64 a.f3] 78 (0, 0))).heap.size = w.heap.size + 3 := by simp
  have B1 : Aside0 (W0.heap[w.heap.size]? = some (.cells #[.int .i64 a.f0, .int .i64 a.f1.f0, .int .i64 a.f1.f1, .int .i64 a.f2, .int .i64 a.f3] 52 (0, 0))) := ⟨by rw [hW0]; exact blk_alloc (blk_alloc (blk_alloc (blk_new w _) _) _) _⟩
  have B2 : Aside0 (W0.heap[w.heap.size + 1]? = some (.cells #[.int .i64 b.f0, .int .i64 b.f1.f0, .int .i64 b.f1.f1, .int .i64 b.f2, .int .i64 b.f3] 52 (0, 0))) := ⟨by rw [hW0, ← s1]; exact blk_alloc (blk_alloc (blk_new _ _) _) _⟩
  have B3 : Aside0 (W0.heap[w.heap.size + 2]? = some (.cells #[.int .i64 a.f1.f0, .int .i64 a.f1.f1, .int .i64 a.f2, .int .i64 a.f3] 78 (0, 0))) := ⟨by rw [hW0, ← s2]; exact blk_alloc (blk_new _ _) _⟩
  have B4 : Aside0 (W0.heap[w.heap.size + 3]? = some (.cells #[.int .i64 b.f1.f0, .int .i64 b.f1.f1, .int .i64 b.f2, .int .i64 b.f3, .int .i64 a.f1.f0, .int .i64 a.f1.f1, .int .i64 a.f2, .int .i64 a.f3] 78 (0, 0))) := ⟨by rw [hW0, ← s3]; exact blk_new _ _⟩
  have HB : Aside0 (Below w.heap.size w W0) := ⟨by rw [hW0]; exact below_alloc (below_alloc (below_alloc (below_alloc (Below.refl _ _) _) _) _) _⟩
  have HW0 := Lib.hid hW0
  clear hW0 s1 s2 s3
  unfold tv2
  go_enter Try.func39, Try.ntmps39
  go_wp2_with fail
  rw [← HW0.out]
  refine (HO.out W0 _ B4.out).mono ?_
  rintro e w1 ⟨ad, c, rfl, c0, c1, c2, c3, hb⟩
  have HB1 := Aside0.mk (below_then HB.out HB.out.size hb)
  have K1 := blk_below B1.out hb
  have K2 := blk_below B2.out hb
  have K3 := blk_below B3.out hb
  clear B1 B2 B3 B4 HW0 HO hb HB
  have a1 := (blk_cell K1 1).trans rfl
  have a2 := (blk_cell K1 2).trans rfl
  have a3 := (blk_cell K1 3).trans rfl
  have a4 := (blk_cell K1 4).trans rfl
  have b1 := (blk_cell K2 1).trans rfl
  have b2 := (blk_cell K2 2).trans rfl
  have b3 := (blk_cell K2 3).trans rfl
  have b4 := (blk_cell K2 4).trans rfl
  have x0 := (blk_cell K3 0).trans rfl
  have x1 := (blk_cell K3 1).trans rfl
  have x2 := (blk_cell K3 2).trans rfl
  have x3 := (blk_cell K3 3).trans rfl
  clear K1 K2 K3
  obtain ⟨ev, hev⟩ : ∃ ev, ev = (((rHd a b).f0.f0 == a.f1.f0 && ((rHd a b).f0.f1 == a.f1.f1)) && ((rHd a b).f1 == a.f2 && ((rHd a b).f2 == a.f3))) := ⟨_, rfl⟩
  obtain ⟨nv, hnv⟩ : ∃ nv, nv = (a.f1.f0 == b.f1.f0 && (a.f1.f1 == b.f1.f1)) := ⟨_, rfl⟩
  obtain ⟨lv, hlv⟩ : ∃ lv, lv = (a.f2 == b.f2) := ⟨_, rfl⟩
  have HR : Hid (betV a b = (ev && (!nv || (!lv || a.f3 != b.f3)))) := Lib.hid (by unfold betV; rw [hev, hnv, hlv]; rfl)
  have HEV := Lib.hid hev
  have HNV := Lib.hid hnv
  have HLV := Lib.hid hlv
  clear hev hnv hlv
  go_wp2_with fail
  -- BEGIN the region, by gen_bet.py
  refine start_ (n := 27) (S := fun w' => w'.cell? ad = some (.int .i64 (rHd a b).f0.f0) ∧ w'.cell? ⟨ad.block, ad.off + 1, none⟩ = some (.int .i64 (rHd a b).f0.f1) ∧ w'.cell? ⟨ad.block, ad.off + 2, none⟩ = some (.int .i64 (rHd a b).f1) ∧ w'.cell? ⟨ad.block, ad.off + 3, none⟩ = some (.int .i64 (rHd a b).f2) ∧ w'.cell? ⟨w.heap.size, 1, none⟩ = some (.int .i64 a.f1.f0) ∧ w'.cell? ⟨w.heap.size, 2, none⟩ = some (.int .i64 a.f1.f1) ∧ w'.cell? ⟨w.heap.size, 3, none⟩ = some (.int .i64 a.f2) ∧ w'.cell? ⟨w.heap.size, 4, none⟩ = some (.int .i64 a.f3) ∧ w'.cell? ⟨w.heap.size + 1, 1, none⟩ = some (.int .i64 b.f1.f0) ∧ w'.cell? ⟨w.heap.size + 1, 2, none⟩ = some (.int .i64 b.f1.f1) ∧ w'.cell? ⟨w.heap.size + 1, 3, none⟩ = some (.int .i64 b.f2) ∧ w'.cell? ⟨w.heap.size + 1, 4, none⟩ = some (.int .i64 b.f3) ∧ w'.cell? ⟨w.heap.size + 2, 0, none⟩ = some (.int .i64 a.f1.f0) ∧ w'.cell? ⟨w.heap.size + 2, 1, none⟩ = some (.int .i64 a.f1.f1) ∧ w'.cell? ⟨w.heap.size + 2, 2, none⟩ = some (.int .i64 a.f2) ∧ w'.cell? ⟨w.heap.size + 2, 3, none⟩ = some (.int .i64 a.f3)) (ds := []) (bL 27 0) (by kernel_rfl) rfl (by kernel_rfl) ⟨c0, c1, c2, c3, a1, a2, a3, a4, b1, b2, b3, b4, x0, x1, x2, x3⟩ (fun hHeld => ?_)
  refine with_tabW betR.tab betR.bits (fun HT_ HW_ => ?_)
  have HB2 := Aside0.mk (below_drew1 HB1.out)
  clear HB1 c0 c1 c2 c3 a1 a2 a3 a4 b1 b2 b3 b4 x0 x1 x2 x3
  generalize w1.drew = wd at HB2 hHeld ⊢
  refine pure_ (i := 0) (N := some 27) (v := ?_) (a' := ?_) (bL 27 1) rfl rfl (any_of HT_.out (by kernel_rfl)) (fun _ _ _ h => h) (Or.inl ⟨by rfl, ?_⟩) ?_ ?_; rotate_left; (intro w'; go_simp; with_reducible rfl); rotate_left; (simp only [Act.put, act1, act2, act3, i64_w, i32_w]; rfl)
  refine pure_ (i := 1) (N := some 28) (v := ?_) (a' := ?_) (bL 27 3) rfl rfl (any_of HT_.out (by kernel_rfl)) (fun _ _ _ h => h) (Or.inl ⟨by rfl, ?_⟩) ?_ ?_; rotate_left; (intro w'; go_simp; with_reducible rfl); rotate_left; (simp only [Act.put, act1, act2, act3, i64_w, i32_w]; rfl)
  refine take_ (i := 2) (N := some 29) (v := ?_) (a' := ?_) (bL 27 7) rfl rfl (take_ofW HT_.out HW_.out (by kernel_rfl)) (fun _ _ _ h => h) (Or.inl ⟨by rfl, ?_⟩) hHeld ?_ ?_; rotate_left; (rintro w' ⟨s0, s1, s2, s3, s4, s5, s6, s7, s8, s9, s10, s11, s12, s13, s14, s15⟩; go_simp; with_reducible rfl); rotate_left; (simp only [Act.put, act1, act2, act3, i64_w, i32_w]; rfl)
  refine take_ (i := 3) (N := some 30) (v := ?_) (a' := ?_) (bL 27 15) rfl rfl (take_ofW HT_.out HW_.out (by kernel_rfl)) (fun _ _ _ h => h) (Or.inl ⟨by rfl, ?_⟩) hHeld ?_ ?_; rotate_left; (rintro w' ⟨s0, s1, s2, s3, s4, s5, s6, s7, s8, s9, s10, s11, s12, s13, s14, s15⟩; go_simp; with_reducible rfl); rotate_left; (simp only [Act.put, act1, act2, act3, i64_w, i32_w]; rfl)
  cases ev
  · skip
    refine pure_ (i := 4) (N := some 31) (v := .bool false) (a' := ?_) (bL 27 31) rfl rfl (any_of HT_.out (by kernel_rfl)) (fun _ _ _ h => h) (Or.inl ⟨by rfl, ?_⟩) ?_ ?_
    · intro w'
      go_simp
      first | done | (with_reducible rfl) | (rw [← HEV.out]; done) | (rw [← HEV.out]; rfl) | (have h_ := HEV.out; simp at h_; exact h_) | (have h_ := HEV.out; simp at h_; simp [h_]) | (have h_ := HEV.out; simp [bne, ← h_]; done) | (simp [bne, ← HEV.out]; done) | (have h_ := HEV.out; by_cases z : a.f1.f0 = b.f1.f0; (simp [z] at h_; exact Or.inr h_); exact Or.inl z)
    rotate_left
    · simp only [Act.put, List.setIfInBounds_toArray, List.set_cons_zero, List.set_cons_succ, i64_w, i32_w]
      rfl
    refine pure_ (i := 5) (N := some 32) (v := ?_) (a' := ?_) (bL 27 63) rfl rfl (any_of HT_.out (by kernel_rfl)) (fun _ _ _ h => h) (Or.inl ⟨by rfl, ?_⟩) ?_ ?_; rotate_left; (intro w'; go_simp; with_reducible rfl); rotate_left; (simp only [Act.put, act1, act2, act3, i64_w, i32_w]; rfl)
    refine pure_ (i := 6) (N := some 33) (v := undef) (a' := ?_) (bL 27 127) rfl rfl (any_of HT_.out (by kernel_rfl)) (fun _ _ _ h => h) (Or.inr ⟨by rfl, rfl⟩) ?_ ?_
    rotate_left
    · simp only [Act.put, List.setIfInBounds_toArray, List.set_cons_zero, List.set_cons_succ, i64_w, i32_w]
      rfl
    refine pure_ (i := 7) (N := some 34) (v := undef) (a' := ?_) (bL 27 255) rfl rfl (any_of HT_.out (by kernel_rfl)) (fun _ _ _ h => h) (Or.inr ⟨by rfl, rfl⟩) ?_ ?_
    rotate_left
    · simp only [Act.put, List.setIfInBounds_toArray, List.set_cons_zero, List.set_cons_succ, i64_w, i32_w]
      rfl
    refine pure_ (i := 8) (N := some 35) (v := undef) (a' := ?_) (bL 27 511) rfl rfl (any_of HT_.out (by kernel_rfl)) (fun _ _ _ h => h) (Or.inr ⟨by rfl, rfl⟩) ?_ ?_
    rotate_left
    · simp only [Act.put, List.setIfInBounds_toArray, List.set_cons_zero, List.set_cons_succ, i64_w, i32_w]
      rfl
    refine pure_ (i := 9) (N := some 36) (v := undef) (a' := ?_) (bL 27 1023) rfl rfl (any_of HT_.out (by kernel_rfl)) (fun _ _ _ h => h) (Or.inr ⟨by rfl, rfl⟩) ?_ ?_
    rotate_left
    · simp only [Act.put, List.setIfInBounds_toArray, List.set_cons_zero, List.set_cons_succ, i64_w, i32_w]
      rfl
    refine pure_ (i := 10) (N := some 37) (v := undef) (a' := ?_) (bL 27 2047) rfl rfl (any_of HT_.out (by kernel_rfl)) (fun _ _ _ h => h) (Or.inr ⟨by rfl, rfl⟩) ?_ ?_
    rotate_left
    · simp only [Act.put, List.setIfInBounds_toArray, List.set_cons_zero, List.set_cons_succ, i64_w, i32_w]
      rfl
    refine pure_ (i := 11) (N := some 38) (v := undef) (a' := ?_) (bL 27 4095) rfl rfl (any_of HT_.out (by kernel_rfl)) (fun _ _ _ h => h) (Or.inr ⟨by rfl, rfl⟩) ?_ ?_
    rotate_left
    · simp only [Act.put, List.setIfInBounds_toArray, List.set_cons_zero, List.set_cons_succ, i64_w, i32_w]
      rfl
    refine pure_ (i := 12) (N := some 39) (v := undef) (a' := ?_) (bL 27 8191) rfl rfl (any_of HT_.out (by kernel_rfl)) (fun _ _ _ h => h) (Or.inr ⟨by rfl, rfl⟩) ?_ ?_
    rotate_left
    · simp only [Act.put, List.setIfInBounds_toArray, List.set_cons_zero, List.set_cons_succ, i64_w, i32_w]
      rfl
    refine pure_ (i := 13) (N := some 40) (v := undef) (a' := ?_) (bL 27 16383) rfl rfl (any_of HT_.out (by kernel_rfl)) (fun _ _ _ h => h) (Or.inr ⟨by rfl, rfl⟩) ?_ ?_
    rotate_left
    · simp only [Act.put, List.setIfInBounds_toArray, List.set_cons_zero, List.set_cons_succ, i64_w, i32_w]
      rfl
    refine pure_ (i := 14) (N := some 41) (v := undef) (a' := ?_) (bL 27 32767) rfl rfl (any_of HT_.out (by kernel_rfl)) (fun _ _ _ h => h) (Or.inr ⟨by rfl, rfl⟩) ?_ ?_
    rotate_left
    · simp only [Act.put, List.setIfInBounds_toArray, List.set_cons_zero, List.set_cons_succ, i64_w, i32_w]
      rfl
    refine pure_ (i := 15) (N := some 42) (v := undef) (a' := ?_) (bL 27 65535) rfl rfl (any_of HT_.out (by kernel_rfl)) (fun _ _ _ h => h) (Or.inr ⟨by rfl, rfl⟩) ?_ ?_
    rotate_left
    · simp only [Act.put, List.setIfInBounds_toArray, List.set_cons_zero, List.set_cons_succ, i64_w, i32_w]
      rfl
    refine pure_ (i := 16) (N := some 43) (v := undef) (a' := ?_) (bL 27 131071) rfl rfl (any_of HT_.out (by kernel_rfl)) (fun _ _ _ h => h) (Or.inr ⟨by rfl, rfl⟩) ?_ ?_
    rotate_left
    · simp only [Act.put, List.setIfInBounds_toArray, List.set_cons_zero, List.set_cons_succ, i64_w, i32_w]
      rfl
    refine pure_ (i := 17) (N := some 44) (v := undef) (a' := ?_) (bL 27 262143) rfl rfl (any_of HT_.out (by kernel_rfl)) (fun _ _ _ h => h) (Or.inr ⟨by rfl, rfl⟩) ?_ ?_
    rotate_left
    · simp only [Act.put, List.setIfInBounds_toArray, List.set_cons_zero, List.set_cons_succ, i64_w, i32_w]
      rfl
    refine pure_ (i := 18) (N := some 45) (v := undef) (a' := ?_) (bL 27 524287) rfl rfl (any_of HT_.out (by kernel_rfl)) (fun _ _ _ h => h) (Or.inr ⟨by rfl, rfl⟩) ?_ ?_
    rotate_left
    · simp only [Act.put, List.setIfInBounds_toArray, List.set_cons_zero, List.set_cons_succ, i64_w, i32_w]
      rfl
    refine pure_ (i := 19) (N := some 46) (v := undef) (a' := ?_) (bL 27 1048575) rfl rfl (any_of HT_.out (by kernel_rfl)) (fun _ _ _ h => h) (Or.inr ⟨by rfl, rfl⟩) ?_ ?_
    rotate_left
    · simp only [Act.put, List.setIfInBounds_toArray, List.set_cons_zero, List.set_cons_succ, i64_w, i32_w]
      rfl
    refine pure_ (i := 20) (N := some 47) (v := undef) (a' := ?_) (bL 27 2097151) rfl rfl (any_of HT_.out (by kernel_rfl)) (fun _ _ _ h => h) (Or.inr ⟨by rfl, rfl⟩) ?_ ?_
    rotate_left
    · simp only [Act.put, List.setIfInBounds_toArray, List.set_cons_zero, List.set_cons_succ, i64_w, i32_w]
      rfl
    refine pure_ (i := 21) (N := some 48) (v := undef) (a' := ?_) (bL 27 4194303) rfl rfl (any_of HT_.out (by kernel_rfl)) (fun _ _ _ h => h) (Or.inr ⟨by rfl, rfl⟩) ?_ ?_
    rotate_left
    · simp only [Act.put, List.setIfInBounds_toArray, List.set_cons_zero, List.set_cons_succ, i64_w, i32_w]
      rfl
    refine pure_ (i := 22) (N := some 49) (v := undef) (a' := ?_) (bL 27 8388607) rfl rfl (any_of HT_.out (by kernel_rfl)) (fun _ _ _ h => h) (Or.inr ⟨by rfl, rfl⟩) ?_ ?_
    rotate_left
    · simp only [Act.put, List.setIfInBounds_toArray, List.set_cons_zero, List.set_cons_succ, i64_w, i32_w]
      rfl
    refine pure_ (i := 23) (N := some 50) (v := undef) (a' := ?_) (bL 27 16777215) rfl rfl (any_of HT_.out (by kernel_rfl)) (fun _ _ _ h => h) (Or.inr ⟨by rfl, rfl⟩) ?_ ?_
    rotate_left
    · simp only [Act.put, List.setIfInBounds_toArray, List.set_cons_zero, List.set_cons_succ, i64_w, i32_w]
      rfl
    refine pure_ (i := 24) (N := some 51) (v := undef) (a' := ?_) (bL 27 33554431) rfl rfl (any_of HT_.out (by kernel_rfl)) (fun _ _ _ h => h) (Or.inr ⟨by rfl, rfl⟩) ?_ ?_
    rotate_left
    · simp only [Act.put, List.setIfInBounds_toArray, List.set_cons_zero, List.set_cons_succ, i64_w, i32_w]
      rfl
    refine pure_ (i := 25) (N := some 52) (v := ?_) (a' := ?_) (bL 27 67108863) rfl rfl (any_of HT_.out (by kernel_rfl)) (fun _ _ _ h => h) (Or.inl ⟨by rfl, ?_⟩) ?_ ?_; rotate_left; (intro w'; go_simp; with_reducible rfl); rotate_left; (simp only [Act.put, act1, act2, act3, i64_w, i32_w]; rfl)
    refine pure_ (i := 26) (N := some 4) (v := ?_) (a' := ?_) (bL 27 134217727) rfl rfl (any_of HT_.out (by kernel_rfl)) (fun _ _ _ h => h) (Or.inl ⟨by rfl, ?_⟩) ?_ ?_; rotate_left; (intro w'; go_simp; with_reducible rfl); rotate_left; (simp only [Act.put, act1, act2, act3, i64_w, i32_w]; rfl)
    refine done_ (done_of HT_.out (by kernel_rfl)) ?_
    clear hHeld HT_ HW_
    go_wp2_with fail
    go_ret
    exact ⟨by rw [HR.out]; rfl, HB2.out⟩
  · skip
    refine pure_ (i := 4) (N := some 31) (v := .bool true) (a' := ?_) (bL 27 31) rfl rfl (any_of HT_.out (by kernel_rfl)) (fun _ _ _ h => h) (Or.inl ⟨by rfl, ?_⟩) ?_ ?_
    · intro w'
      go_simp
      first | done | (with_reducible rfl) | (rw [← HEV.out]; done) | (rw [← HEV.out]; rfl) | (have h_ := HEV.out; simp at h_; exact h_) | (have h_ := HEV.out; simp at h_; simp [h_]) | (have h_ := HEV.out; simp [bne, ← h_]; done) | (simp [bne, ← HEV.out]; done) | (have h_ := HEV.out; by_cases z : a.f1.f0 = b.f1.f0; (simp [z] at h_; exact Or.inr h_); exact Or.inl z)
    rotate_left
    · simp only [Act.put, List.setIfInBounds_toArray, List.set_cons_zero, List.set_cons_succ, i64_w, i32_w]
      rfl
    refine pure_ (i := 5) (N := some 32) (v := ?_) (a' := ?_) (bL 27 63) rfl rfl (any_of HT_.out (by kernel_rfl)) (fun _ _ _ h => h) (Or.inl ⟨by rfl, ?_⟩) ?_ ?_; rotate_left; (intro w'; go_simp; with_reducible rfl); rotate_left; (simp only [Act.put, act1, act2, act3, i64_w, i32_w]; rfl)
    refine pure_ (i := 6) (N := some 33) (v := ?_) (a' := ?_) (bL 27 127) rfl rfl (any_of HT_.out (by kernel_rfl)) (fun _ _ _ h => h) (Or.inl ⟨by rfl, ?_⟩) ?_ ?_; rotate_left; (intro w'; go_simp; with_reducible rfl); rotate_left; (simp only [Act.put, act1, act2, act3, i64_w, i32_w]; rfl)
    refine take_ (i := 7) (N := some 34) (v := ?_) (a' := ?_) (bL 27 255) rfl rfl (take_ofW HT_.out HW_.out (by kernel_rfl)) (fun _ _ _ h => h) (Or.inl ⟨by rfl, ?_⟩) hHeld ?_ ?_; rotate_left; (rintro w' ⟨s0, s1, s2, s3, s4, s5, s6, s7, s8, s9, s10, s11, s12, s13, s14, s15⟩; go_simp; with_reducible rfl); rotate_left; (simp only [Act.put, act1, act2, act3, i64_w, i32_w]; rfl)
    refine pure_ (i := 8) (N := some 35) (v := ?_) (a' := ?_) (bL 27 511) rfl rfl (any_of HT_.out (by kernel_rfl)) (fun _ _ _ h => h) (Or.inl ⟨by rfl, ?_⟩) ?_ ?_; rotate_left; (intro w'; go_simp; with_reducible rfl); rotate_left; (simp only [Act.put, act1, act2, act3, i64_w, i32_w]; rfl)
    refine take_ (i := 9) (N := some 36) (v := ?_) (a' := ?_) (bL 27 1023) rfl rfl (take_ofW HT_.out HW_.out (by kernel_rfl)) (fun _ _ _ h => h) (Or.inl ⟨by rfl, ?_⟩) hHeld ?_ ?_; rotate_left; (rintro w' ⟨s0, s1, s2, s3, s4, s5, s6, s7, s8, s9, s10, s11, s12, s13, s14, s15⟩; go_simp; with_reducible rfl); rotate_left; (simp only [Act.put, act1, act2, act3, i64_w, i32_w]; rfl)
    cases nv
    · skip
      refine pure_ (i := 10) (N := some 37) (v := .bool true) (a' := ?_) (bL 27 2047) rfl rfl (any_of HT_.out (by kernel_rfl)) (fun _ _ _ h => h) (Or.inl ⟨by rfl, ?_⟩) ?_ ?_
      · intro w'
        go_simp
        first | done | (with_reducible rfl) | (rw [← HNV.out]; done) | (rw [← HNV.out]; rfl) | (have h_ := HNV.out; simp at h_; exact h_) | (have h_ := HNV.out; simp at h_; simp [h_]) | (have h_ := HNV.out; simp [bne, ← h_]; done) | (simp [bne, ← HNV.out]; done) | (have h_ := HNV.out; by_cases z : a.f1.f0 = b.f1.f0; (simp [z] at h_; exact Or.inr h_); exact Or.inl z)
      rotate_left
      · simp only [Act.put, List.setIfInBounds_toArray, List.set_cons_zero, List.set_cons_succ, i64_w, i32_w]
        rfl
      refine pure_ (i := 11) (N := some 38) (v := ?_) (a' := ?_) (bL 27 4095) rfl rfl (any_of HT_.out (by kernel_rfl)) (fun _ _ _ h => h) (Or.inl ⟨by rfl, ?_⟩) ?_ ?_; rotate_left; (intro w'; go_simp; with_reducible rfl); rotate_left; (simp only [Act.put, act1, act2, act3, i64_w, i32_w]; rfl)
      refine pure_ (i := 12) (N := some 39) (v := undef) (a' := ?_) (bL 27 8191) rfl rfl (any_of HT_.out (by kernel_rfl)) (fun _ _ _ h => h) (Or.inr ⟨by rfl, rfl⟩) ?_ ?_
      rotate_left
      · simp only [Act.put, List.setIfInBounds_toArray, List.set_cons_zero, List.set_cons_succ, i64_w, i32_w]
        rfl
      refine pure_ (i := 13) (N := some 40) (v := undef) (a' := ?_) (bL 27 16383) rfl rfl (any_of HT_.out (by kernel_rfl)) (fun _ _ _ h => h) (Or.inr ⟨by rfl, rfl⟩) ?_ ?_
      rotate_left
      · simp only [Act.put, List.setIfInBounds_toArray, List.set_cons_zero, List.set_cons_succ, i64_w, i32_w]
        rfl
      refine pure_ (i := 14) (N := some 41) (v := undef) (a' := ?_) (bL 27 32767) rfl rfl (any_of HT_.out (by kernel_rfl)) (fun _ _ _ h => h) (Or.inr ⟨by rfl, rfl⟩) ?_ ?_
      rotate_left
      · simp only [Act.put, List.setIfInBounds_toArray, List.set_cons_zero, List.set_cons_succ, i64_w, i32_w]
        rfl
      refine pure_ (i := 15) (N := some 42) (v := undef) (a' := ?_) (bL 27 65535) rfl rfl (any_of HT_.out (by kernel_rfl)) (fun _ _ _ h => h) (Or.inr ⟨by rfl, rfl⟩) ?_ ?_
      rotate_left
      · simp only [Act.put, List.setIfInBounds_toArray, List.set_cons_zero, List.set_cons_succ, i64_w, i32_w]
        rfl
      refine pure_ (i := 16) (N := some 43) (v := undef) (a' := ?_) (bL 27 131071) rfl rfl (any_of HT_.out (by kernel_rfl)) (fun _ _ _ h => h) (Or.inr ⟨by rfl, rfl⟩) ?_ ?_
      rotate_left
      · simp only [Act.put, List.setIfInBounds_toArray, List.set_cons_zero, List.set_cons_succ, i64_w, i32_w]
        rfl
      refine pure_ (i := 17) (N := some 44) (v := ?_) (a' := ?_) (bL 27 262143) rfl rfl (any_of HT_.out (by kernel_rfl)) (fun _ _ _ h => h) (Or.inl ⟨by rfl, ?_⟩) ?_ ?_; rotate_left; (intro w'; go_simp; with_reducible rfl); rotate_left; (simp only [Act.put, act1, act2, act3, i64_w, i32_w]; rfl)
      refine pure_ (i := 18) (N := some 45) (v := ?_) (a' := ?_) (bL 27 524287) rfl rfl (any_of HT_.out (by kernel_rfl)) (fun _ _ _ h => h) (Or.inl ⟨by rfl, ?_⟩) ?_ ?_; rotate_left; (intro w'; go_simp; with_reducible rfl); rotate_left; (simp only [Act.put, act1, act2, act3, i64_w, i32_w]; rfl)
      refine pure_ (i := 19) (N := some 46) (v := undef) (a' := ?_) (bL 27 1048575) rfl rfl (any_of HT_.out (by kernel_rfl)) (fun _ _ _ h => h) (Or.inr ⟨by rfl, rfl⟩) ?_ ?_
      rotate_left
      · simp only [Act.put, List.setIfInBounds_toArray, List.set_cons_zero, List.set_cons_succ, i64_w, i32_w]
        rfl
      refine pure_ (i := 20) (N := some 47) (v := undef) (a' := ?_) (bL 27 2097151) rfl rfl (any_of HT_.out (by kernel_rfl)) (fun _ _ _ h => h) (Or.inr ⟨by rfl, rfl⟩) ?_ ?_
      rotate_left
      · simp only [Act.put, List.setIfInBounds_toArray, List.set_cons_zero, List.set_cons_succ, i64_w, i32_w]
        rfl
      refine pure_ (i := 21) (N := some 48) (v := undef) (a' := ?_) (bL 27 4194303) rfl rfl (any_of HT_.out (by kernel_rfl)) (fun _ _ _ h => h) (Or.inr ⟨by rfl, rfl⟩) ?_ ?_
      rotate_left
      · simp only [Act.put, List.setIfInBounds_toArray, List.set_cons_zero, List.set_cons_succ, i64_w, i32_w]
        rfl
      refine pure_ (i := 22) (N := some 49) (v := undef) (a' := ?_) (bL 27 8388607) rfl rfl (any_of HT_.out (by kernel_rfl)) (fun _ _ _ h => h) (Or.inr ⟨by rfl, rfl⟩) ?_ ?_
      rotate_left
      · simp only [Act.put, List.setIfInBounds_toArray, List.set_cons_zero, List.set_cons_succ, i64_w, i32_w]
        rfl
      refine pure_ (i := 23) (N := some 50) (v := undef) (a' := ?_) (bL 27 16777215) rfl rfl (any_of HT_.out (by kernel_rfl)) (fun _ _ _ h => h) (Or.inr ⟨by rfl, rfl⟩) ?_ ?_
      rotate_left
      · simp only [Act.put, List.setIfInBounds_toArray, List.set_cons_zero, List.set_cons_succ, i64_w, i32_w]
        rfl
      refine pure_ (i := 24) (N := some 51) (v := ?_) (a' := ?_) (bL 27 33554431) rfl rfl (any_of HT_.out (by kernel_rfl)) (fun _ _ _ h => h) (Or.inl ⟨by rfl, ?_⟩) ?_ ?_; rotate_left; (intro w'; go_simp; with_reducible rfl); rotate_left; (simp only [Act.put, act1, act2, act3, i64_w, i32_w]; rfl)
      refine pure_ (i := 25) (N := some 52) (v := ?_) (a' := ?_) (bL 27 67108863) rfl rfl (any_of HT_.out (by kernel_rfl)) (fun _ _ _ h => h) (Or.inl ⟨by rfl, ?_⟩) ?_ ?_; rotate_left; (intro w'; go_simp; with_reducible rfl); rotate_left; (simp only [Act.put, act1, act2, act3, i64_w, i32_w]; rfl)
      refine pure_ (i := 26) (N := some 4) (v := ?_) (a' := ?_) (bL 27 134217727) rfl rfl (any_of HT_.out (by kernel_rfl)) (fun _ _ _ h => h) (Or.inl ⟨by rfl, ?_⟩) ?_ ?_; rotate_left; (intro w'; go_simp; with_reducible rfl); rotate_left; (simp only [Act.put, act1, act2, act3, i64_w, i32_w]; rfl)
      refine done_ (done_of HT_.out (by kernel_rfl)) ?_
      clear hHeld HT_ HW_
      go_wp2_with fail
      go_ret
      exact ⟨by rw [HR.out]; rfl, HB2.out⟩
    · skip
      refine pure_ (i := 10) (N := some 37) (v := .bool false) (a' := ?_) (bL 27 2047) rfl rfl (any_of HT_.out (by kernel_rfl)) (fun _ _ _ h => h) (Or.inl ⟨by rfl, ?_⟩) ?_ ?_
      · intro w'
        go_simp
        first | done | (with_reducible rfl) | (rw [← HNV.out]; done) | (rw [← HNV.out]; rfl) | (have h_ := HNV.out; simp at h_; exact h_) | (have h_ := HNV.out; simp at h_; simp [h_]) | (have h_ := HNV.out; simp [bne, ← h_]; done) | (simp [bne, ← HNV.out]; done) | (have h_ := HNV.out; by_cases z : a.f1.f0 = b.f1.f0; (simp [z] at h_; exact Or.inr h_); exact Or.inl z)
      rotate_left
      · simp only [Act.put, List.setIfInBounds_toArray, List.set_cons_zero, List.set_cons_succ, i64_w, i32_w]
        rfl
      refine pure_ (i := 11) (N := some 38) (v := ?_) (a' := ?_) (bL 27 4095) rfl rfl (any_of HT_.out (by kernel_rfl)) (fun _ _ _ h => h) (Or.inl ⟨by rfl, ?_⟩) ?_ ?_; rotate_left; (intro w'; go_simp; with_reducible rfl); rotate_left; (simp only [Act.put, act1, act2, act3, i64_w, i32_w]; rfl)
      refine pure_ (i := 12) (N := some 39) (v := ?_) (a' := ?_) (bL 27 8191) rfl rfl (any_of HT_.out (by kernel_rfl)) (fun _ _ _ h => h) (Or.inl ⟨by rfl, ?_⟩) ?_ ?_; rotate_left; (intro w'; go_simp; with_reducible rfl); rotate_left; (simp only [Act.put, act1, act2, act3, i64_w, i32_w]; rfl)
      refine take_ (i := 13) (N := some 40) (v := ?_) (a' := ?_) (bL 27 16383) rfl rfl (take_ofW HT_.out HW_.out (by kernel_rfl)) (fun _ _ _ h => h) (Or.inl ⟨by rfl, ?_⟩) hHeld ?_ ?_; rotate_left; (rintro w' ⟨s0, s1, s2, s3, s4, s5, s6, s7, s8, s9, s10, s11, s12, s13, s14, s15⟩; go_simp; with_reducible rfl); rotate_left; (simp only [Act.put, act1, act2, act3, i64_w, i32_w]; rfl)
      refine pure_ (i := 14) (N := some 41) (v := ?_) (a' := ?_) (bL 27 32767) rfl rfl (any_of HT_.out (by kernel_rfl)) (fun _ _ _ h => h) (Or.inl ⟨by rfl, ?_⟩) ?_ ?_; rotate_left; (intro w'; go_simp; with_reducible rfl); rotate_left; (simp only [Act.put, act1, act2, act3, i64_w, i32_w]; rfl)
      refine take_ (i := 15) (N := some 42) (v := ?_) (a' := ?_) (bL 27 65535) rfl rfl (take_ofW HT_.out HW_.out (by kernel_rfl)) (fun _ _ _ h => h) (Or.inl ⟨by rfl, ?_⟩) hHeld ?_ ?_; rotate_left; (rintro w' ⟨s0, s1, s2, s3, s4, s5, s6, s7, s8, s9, s10, s11, s12, s13, s14, s15⟩; go_simp; with_reducible rfl); rotate_left; (simp only [Act.put, act1, act2, act3, i64_w, i32_w]; rfl)
      cases lv
      · skip
        refine pure_ (i := 16) (N := some 43) (v := .bool true) (a' := ?_) (bL 27 131071) rfl rfl (any_of HT_.out (by kernel_rfl)) (fun _ _ _ h => h) (Or.inl ⟨by rfl, ?_⟩) ?_ ?_
        · intro w'
          go_simp
          first | done | (with_reducible rfl) | (rw [← HLV.out]; done) | (rw [← HLV.out]; rfl) | (have h_ := HLV.out; simp at h_; exact h_) | (have h_ := HLV.out; simp at h_; simp [h_]) | (have h_ := HLV.out; simp [bne, ← h_]; done) | (simp [bne, ← HLV.out]; done) | (have h_ := HLV.out; by_cases z : a.f1.f0 = b.f1.f0; (simp [z] at h_; exact Or.inr h_); exact Or.inl z)
        rotate_left
        · simp only [Act.put, List.setIfInBounds_toArray, List.set_cons_zero, List.set_cons_succ, i64_w, i32_w]
          rfl
        refine pure_ (i := 17) (N := some 44) (v := ?_) (a' := ?_) (bL 27 262143) rfl rfl (any_of HT_.out (by kernel_rfl)) (fun _ _ _ h => h) (Or.inl ⟨by rfl, ?_⟩) ?_ ?_; rotate_left; (intro w'; go_simp; with_reducible rfl); rotate_left; (simp only [Act.put, act1, act2, act3, i64_w, i32_w]; rfl)
        refine pure_ (i := 18) (N := some 45) (v := ?_) (a' := ?_) (bL 27 524287) rfl rfl (any_of HT_.out (by kernel_rfl)) (fun _ _ _ h => h) (Or.inl ⟨by rfl, ?_⟩) ?_ ?_; rotate_left; (intro w'; go_simp; with_reducible rfl); rotate_left; (simp only [Act.put, act1, act2, act3, i64_w, i32_w]; rfl)
        refine pure_ (i := 19) (N := some 46) (v := undef) (a' := ?_) (bL 27 1048575) rfl rfl (any_of HT_.out (by kernel_rfl)) (fun _ _ _ h => h) (Or.inr ⟨by rfl, rfl⟩) ?_ ?_
        rotate_left
        · simp only [Act.put, List.setIfInBounds_toArray, List.set_cons_zero, List.set_cons_succ, i64_w, i32_w]
          rfl
        refine pure_ (i := 20) (N := some 47) (v := undef) (a' := ?_) (bL 27 2097151) rfl rfl (any_of HT_.out (by kernel_rfl)) (fun _ _ _ h => h) (Or.inr ⟨by rfl, rfl⟩) ?_ ?_
        rotate_left
        · simp only [Act.put, List.setIfInBounds_toArray, List.set_cons_zero, List.set_cons_succ, i64_w, i32_w]
          rfl
        refine pure_ (i := 21) (N := some 48) (v := undef) (a' := ?_) (bL 27 4194303) rfl rfl (any_of HT_.out (by kernel_rfl)) (fun _ _ _ h => h) (Or.inr ⟨by rfl, rfl⟩) ?_ ?_
        rotate_left
        · simp only [Act.put, List.setIfInBounds_toArray, List.set_cons_zero, List.set_cons_succ, i64_w, i32_w]
          rfl
        refine pure_ (i := 22) (N := some 49) (v := undef) (a' := ?_) (bL 27 8388607) rfl rfl (any_of HT_.out (by kernel_rfl)) (fun _ _ _ h => h) (Or.inr ⟨by rfl, rfl⟩) ?_ ?_
        rotate_left
        · simp only [Act.put, List.setIfInBounds_toArray, List.set_cons_zero, List.set_cons_succ, i64_w, i32_w]
          rfl
        refine pure_ (i := 23) (N := some 50) (v := undef) (a' := ?_) (bL 27 16777215) rfl rfl (any_of HT_.out (by kernel_rfl)) (fun _ _ _ h => h) (Or.inr ⟨by rfl, rfl⟩) ?_ ?_
        rotate_left
        · simp only [Act.put, List.setIfInBounds_toArray, List.set_cons_zero, List.set_cons_succ, i64_w, i32_w]
          rfl
        refine pure_ (i := 24) (N := some 51) (v := ?_) (a' := ?_) (bL 27 33554431) rfl rfl (any_of HT_.out (by kernel_rfl)) (fun _ _ _ h => h) (Or.inl ⟨by rfl, ?_⟩) ?_ ?_; rotate_left; (intro w'; go_simp; with_reducible rfl); rotate_left; (simp only [Act.put, act1, act2, act3, i64_w, i32_w]; rfl)
        refine pure_ (i := 25) (N := some 52) (v := ?_) (a' := ?_) (bL 27 67108863) rfl rfl (any_of HT_.out (by kernel_rfl)) (fun _ _ _ h => h) (Or.inl ⟨by rfl, ?_⟩) ?_ ?_; rotate_left; (intro w'; go_simp; with_reducible rfl); rotate_left; (simp only [Act.put, act1, act2, act3, i64_w, i32_w]; rfl)
        refine pure_ (i := 26) (N := some 4) (v := ?_) (a' := ?_) (bL 27 134217727) rfl rfl (any_of HT_.out (by kernel_rfl)) (fun _ _ _ h => h) (Or.inl ⟨by rfl, ?_⟩) ?_ ?_; rotate_left; (intro w'; go_simp; with_reducible rfl); rotate_left; (simp only [Act.put, act1, act2, act3, i64_w, i32_w]; rfl)
        refine done_ (done_of HT_.out (by kernel_rfl)) ?_
        clear hHeld HT_ HW_
        go_wp2_with fail
        go_ret
        exact ⟨by rw [HR.out]; rfl, HB2.out⟩
      · skip
        refine pure_ (i := 16) (N := some 43) (v := .bool false) (a' := ?_) (bL 27 131071) rfl rfl (any_of HT_.out (by kernel_rfl)) (fun _ _ _ h => h) (Or.inl ⟨by rfl, ?_⟩) ?_ ?_
        · intro w'
          go_simp
          first | done | (with_reducible rfl) | (rw [← HLV.out]; done) | (rw [← HLV.out]; rfl) | (have h_ := HLV.out; simp at h_; exact h_) | (have h_ := HLV.out; simp at h_; simp [h_]) | (have h_ := HLV.out; simp [bne, ← h_]; done) | (simp [bne, ← HLV.out]; done) | (have h_ := HLV.out; by_cases z : a.f1.f0 = b.f1.f0; (simp [z] at h_; exact Or.inr h_); exact Or.inl z)
        rotate_left
        · simp only [Act.put, List.setIfInBounds_toArray, List.set_cons_zero, List.set_cons_succ, i64_w, i32_w]
          rfl
        refine pure_ (i := 17) (N := some 44) (v := ?_) (a' := ?_) (bL 27 262143) rfl rfl (any_of HT_.out (by kernel_rfl)) (fun _ _ _ h => h) (Or.inl ⟨by rfl, ?_⟩) ?_ ?_; rotate_left; (intro w'; go_simp; with_reducible rfl); rotate_left; (simp only [Act.put, act1, act2, act3, i64_w, i32_w]; rfl)
        refine pure_ (i := 18) (N := some 45) (v := ?_) (a' := ?_) (bL 27 524287) rfl rfl (any_of HT_.out (by kernel_rfl)) (fun _ _ _ h => h) (Or.inl ⟨by rfl, ?_⟩) ?_ ?_; rotate_left; (intro w'; go_simp; with_reducible rfl); rotate_left; (simp only [Act.put, act1, act2, act3, i64_w, i32_w]; rfl)
        refine pure_ (i := 19) (N := some 46) (v := ?_) (a' := ?_) (bL 27 1048575) rfl rfl (any_of HT_.out (by kernel_rfl)) (fun _ _ _ h => h) (Or.inl ⟨by rfl, ?_⟩) ?_ ?_; rotate_left; (intro w'; go_simp; with_reducible rfl); rotate_left; (simp only [Act.put, act1, act2, act3, i64_w, i32_w]; rfl)
        refine take_ (i := 20) (N := some 47) (v := ?_) (a' := ?_) (bL 27 2097151) rfl rfl (take_ofW HT_.out HW_.out (by kernel_rfl)) (fun _ _ _ h => h) (Or.inl ⟨by rfl, ?_⟩) hHeld ?_ ?_; rotate_left; (rintro w' ⟨s0, s1, s2, s3, s4, s5, s6, s7, s8, s9, s10, s11, s12, s13, s14, s15⟩; go_simp; with_reducible rfl); rotate_left; (simp only [Act.put, act1, act2, act3, i64_w, i32_w]; rfl)
        refine pure_ (i := 21) (N := some 48) (v := ?_) (a' := ?_) (bL 27 4194303) rfl rfl (any_of HT_.out (by kernel_rfl)) (fun _ _ _ h => h) (Or.inl ⟨by rfl, ?_⟩) ?_ ?_; rotate_left; (intro w'; go_simp; with_reducible rfl); rotate_left; (simp only [Act.put, act1, act2, act3, i64_w, i32_w]; rfl)
        refine take_ (i := 22) (N := some 49) (v := ?_) (a' := ?_) (bL 27 8388607) rfl rfl (take_ofW HT_.out HW_.out (by kernel_rfl)) (fun _ _ _ h => h) (Or.inl ⟨by rfl, ?_⟩) hHeld ?_ ?_; rotate_left; (rintro w' ⟨s0, s1, s2, s3, s4, s5, s6, s7, s8, s9, s10, s11, s12, s13, s14, s15⟩; go_simp; with_reducible rfl); rotate_left; (simp only [Act.put, act1, act2, act3, i64_w, i32_w]; rfl)
        refine pure_ (i := 23) (N := some 50) (v := ?_) (a' := ?_) (bL 27 16777215) rfl rfl (any_of HT_.out (by kernel_rfl)) (fun _ _ _ h => h) (Or.inl ⟨by rfl, ?_⟩) ?_ ?_; rotate_left; (intro w'; go_simp; with_reducible rfl); rotate_left; (simp only [Act.put, act1, act2, act3, i64_w, i32_w]; rfl)
        refine pure_ (i := 24) (N := some 51) (v := ?_) (a' := ?_) (bL 27 33554431) rfl rfl (any_of HT_.out (by kernel_rfl)) (fun _ _ _ h => h) (Or.inl ⟨by rfl, ?_⟩) ?_ ?_; rotate_left; (intro w'; go_simp; with_reducible rfl); rotate_left; (simp only [Act.put, act1, act2, act3, i64_w, i32_w]; rfl)
        refine pure_ (i := 25) (N := some 52) (v := ?_) (a' := ?_) (bL 27 67108863) rfl rfl (any_of HT_.out (by kernel_rfl)) (fun _ _ _ h => h) (Or.inl ⟨by rfl, ?_⟩) ?_ ?_; rotate_left; (intro w'; go_simp; with_reducible rfl); rotate_left; (simp only [Act.put, act1, act2, act3, i64_w, i32_w]; rfl)
        refine pure_ (i := 26) (N := some 4) (v := ?_) (a' := ?_) (bL 27 134217727) rfl rfl (any_of HT_.out (by kernel_rfl)) (fun _ _ _ h => h) (Or.inl ⟨by rfl, ?_⟩) ?_ ?_; rotate_left; (intro w'; go_simp; with_reducible rfl); rotate_left; (simp only [Act.put, act1, act2, act3, i64_w, i32_w]; rfl)
        refine done_ (done_of HT_.out (by kernel_rfl)) ?_
        clear hHeld HT_ HW_
        go_wp2_with fail
        go_ret
        exact ⟨by rw [HR.out]; rfl, HB2.out⟩
  -- END

end Go.Proofs.Ytmpeekkbmfbjeaa
/-! The contract of better, in the form in which the printed texts take it. -/
namespace Go.Proofs.Ytmpeekkbmfbjeaa.P
open Go.RowKit Go.Proofs.YtmpeekkbmfbjeaaW.PrintWords Go.Proofs.YtmpeekkbmfbjeaaW.PrintLast Go.Proofs.YtmpeekkbmfbjeaaW.PrintMore

def solventref37_better.f (a0_0 a0_1 a0_2 a0_3 a0_4 a1_0 a1_1 a1_2 a1_3 a1_4 : Int) : Option Bool :=
  if a0_0 = 1 then (if 0 < a0_4 ∧ 0 < a1_4 then some (betV ⟨a0_0, ⟨a0_1, a0_2⟩, a0_3, a0_4⟩ ⟨a1_0, ⟨a1_1, a1_2⟩, a1_3, a1_4⟩) else none) else some (plc2 ⟨a0_0, ⟨a0_1, a0_2⟩, a0_3, a0_4⟩ ⟨a1_0, ⟨a1_1, a1_2⟩, a1_3, a1_4⟩)
theorem solventref37_better.calls (a0_0 a0_1 a0_2 a0_3 a0_4 a1_0 a1_1 a1_2 a1_3 a1_4 : Int) (r : Bool) (w : World) (h : solventref37_better.f a0_0 a0_1 a0_2 a0_3 a0_4 a1_0 a1_1 a1_2 a1_3 a1_4 = some r) :
    Calls Try.prog 39 #[.agg #[.int .i64 a0_0, .int .i64 a0_1, .int .i64 a0_2, .int .i64 a0_3, .int .i64 a0_4], .agg #[.int .i64 a1_0, .int .i64 a1_1, .int .i64 a1_2, .int .i64 a1_3, .int .i64 a1_4]] w fun e w' => e = .returned (.bool r) ∧ Below w.heap.size w w' := by
  unfold solventref37_better.f at h
  by_cases h1 : a0_0 = 1
  · rw [if_pos h1] at h
    by_cases h2 : 0 < a0_4 ∧ 0 < a1_4
    · rw [if_pos h2] at h
      obtain rfl := Option.some.inj h
      exact better_one ⟨a0_0, ⟨a0_1, a0_2⟩, a0_3, a0_4⟩ ⟨a1_0, ⟨a1_1, a1_2⟩, a1_3, a1_4⟩ w h1 h2.1 h2.2
    · rw [if_neg h2] at h
      cases h
  · rw [if_neg h1] at h
    obtain rfl := Option.some.inj h
    exact better_plc ⟨a0_0, ⟨a0_1, a0_2⟩, a0_3, a0_4⟩ ⟨a1_0, ⟨a1_1, a1_2⟩, a1_3, a1_4⟩ w h1
end Go.Proofs.Ytmpeekkbmfbjeaa.P

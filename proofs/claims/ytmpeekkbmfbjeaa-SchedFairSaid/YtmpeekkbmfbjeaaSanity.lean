/- The walk of solventlaw37.sanity: it returns true. -/
import Derived.Test.YtmpeekkbmfbjeaaMapLit
import Derived.Test.YtmpeekkbmfbjeaaSanPure
namespace Go.Proofs.Ytmpeekkbmfbjeaa
open Go.RowKit Go.Lib Go.Proofs.Ytmpeekkbmfbjeaa.P Go.Proofs.YtmpeekkbmfbjeaaW.PrintWords Go.Proofs.YtmpeekkbmfbjeaaW.PrintLast Go.Proofs.YtmpeekkbmfbjeaaW.PrintMore
set_option linter.unusedVariables false
set_option linter.unusedSimpArgs false

def sanR5.T : Bool × List (List Nat × List Nat) := (true, [([], []), ([], []), ([1], [1]), ([0, 2, 0], [0, 2]), ([3], [3]), ([4], [4]), ([4], [4]), ([4], [4]), ([], []), ([8, 5, 3, 0, 1, 2, 3, 4, 5, 8], [5, 8]), ([6, 9, 0, 1, 2, 3, 4, 5, 6, 8, 9], [6]), ([7, 10, 0, 1, 2, 3, 4, 5, 6, 7, 8, 9, 10], [7])])
def sanR5.B : List Nat := [0, 0, 2, 7, 15, 31, 31, 31, 0, 319, 895, 2047]
theorem sanR5.tab : rtab .any (opsOf Try.f10 5) = sanR5.T := by kernel_rfl
theorem sanR5.bits : waitsOk sanR5.T.2 sanR5.B = true := by kernel_rfl
def sanR8.T : Bool × List (List Nat × List Nat) := (true, [([], []), ([], []), ([0, 1], [0, 1]), ([2, 2], [2]), ([3], [3]), ([4, 3], [3, 4]), ([3, 5], [3, 5]), ([6, 3], [6]), ([7], [7]), ([8, 7], [7, 8]), ([7], [7]), ([9, 10, 7, 7], [7, 9, 10]), ([7, 11], [7, 11]), ([12, 11], [12]), ([13], [13]), ([14, 13], [13, 14]), ([13, 15], [13, 15]), ([16, 13], [16]), ([17], [17]), ([18, 17], [17, 18]), ([17, 19], [17, 19]), ([20, 17], [20]), ([21], [21]), ([22, 21], [21, 22]), ([21], [21]), ([23, 24, 21, 21], [21, 23, 24]), ([21, 25], [21, 25]), ([26, 25], [26]), ([27], [27]), ([28, 27], [27, 28]), ([27, 29], [27, 29]), ([30, 27], [30]), ([31], [31]), ([32, 31], [31, 32]), ([31, 33], [31, 33]), ([34, 31], [34]), ([35], [35]), ([36, 35], [35, 36]), ([35, 37], [35, 37]), ([38, 35], [38]), ([39], [39]), ([40, 39], [39, 40]), ([39, 41], [39, 41]), ([42, 39], [42]), ([43, 43], [43]), ([44, 44, 43], [43, 44]), ([43, 45], [43, 45]), ([46, 45], [46]), ([47], [47]), ([48, 47], [47, 48]), ([49, 47, 47], [47, 49]), ([50, 47], [47, 50]), ([47, 51], [47, 51]), ([52, 50], [52]), ([53, 53], [53]), ([54, 53], [53, 54]), ([53, 55], [53, 55]), ([56, 54], [56]), ([57, 57], [57]), ([58, 57], [57, 58]), ([57, 59], [57, 59]), ([60, 58], [60]), ([61], [61]), ([62, 61, 61], [61, 62]), ([63, 61], [61, 63]), ([61, 64], [61, 64]), ([65, 63, 0, 1, 2, 3, 4, 5, 6, 7, 8, 9, 10, 11, 12, 13, 14, 15, 16, 17, 18, 19, 20, 21, 22, 23, 24, 25, 26, 27, 28, 29, 30, 31, 32, 33, 34, 35, 36, 37, 38, 39, 40, 41, 42, 43, 44, 45, 46, 47, 48, 49, 50, 51, 52, 53, 54, 55, 56, 57, 58, 59, 60, 61, 62, 63, 64, 65], [65])])
def sanR8.B : List Nat := [0, 0, 3, 7, 15, 31, 63, 127, 255, 511, 255, 2047, 4095, 8191, 16383, 32767, 65535, 131071, 262143, 524287, 1048575, 2097151, 4194303, 8388607, 4194303, 33554431, 67108863, 134217727, 268435455, 536870911, 1073741823, 2147483647, 4294967295, 8589934591, 17179869183, 34359738367, 68719476735, 137438953471, 274877906943, 549755813887, 1099511627775, 2199023255551, 4398046511103, 8796093022207, 17592186044415, 35184372088831, 70368744177663, 140737488355327, 281474976710655, 562949953421311, 1125899906842623, 2251799813685247, 4503599627370495, 9007199254740991, 18014398509481983, 36028797018963967, 72057594037927935, 144115188075855871, 288230376151711743, 576460752303423487, 1152921504606846975, 2305843009213693951, 4611686018427387903, 9223372036854775807, 18446744073709551615, 36893488147419103231, 73786976294838206463]
theorem sanR8.tab : rtab .any (opsOf Try.f10 8) = sanR8.T := by kernel_rfl
theorem sanR8.bits : waitsOk sanR8.T.2 sanR8.B = true := by kernel_rfl

theorem mk5 (W : World) : (Instr.makeSlice 24 (.int .i64 5) (.int .i64 5)).run Try.prog W = .ok (.slice (some ⟨W.heap.size, 0, none⟩) 5 5) (W.alloc (.cells #[.int .i64 0, .int .i64 0, .int .i64 0, .int .i64 0, .int .i64 0] 3 (0, 0))) := by kernel_rfl

set_option maxHeartbeats 16000000 in
set_option maxRecDepth 1000000 in
theorem sanity_any (w : World) : Calls Try.prog 10 #[] w fun e w' => e = .returned (.bool true) ∧ Below w.heap.size w w' := by
  have hu58 := Try.underlying58
  have hu50 := Try.underlying50
  have hu26 := Try.underlying26
  have BD := Aside0.mk (Below.refl w.heap.size w)
  go_enter Try.func10, Try.ntmps10
  go_wp2_with fail
  have hb : Below w.heap.size w (w.alloc (.cells #[.int .i64 5, .int .i64 1, .int .i64 0, .int .i64 0, .int .i64 0, .int .i64 5, .int .i64 0, .int .i64 0, .int .i64 0, .int .i64 0, .int .i64 3, .int .i64 5, .int .i64 0, .int .i64 0, .int .i64 0] 58 (0, 0))) := below_alloc (Below.refl _ _) _
  replace BD := Aside0.mk (below_then BD.out BD.out.size hb)
  have LB := Aside0.mk (blk_new w (.cells #[.int .i64 5, .int .i64 1, .int .i64 0, .int .i64 0, .int .i64 0, .int .i64 5, .int .i64 0, .int .i64 0, .int .i64 0, .int .i64 0, .int .i64 3, .int .i64 5, .int .i64 0, .int .i64 0, .int .i64 0] 58 (0, 0)))
  clear hb
  generalize w.alloc (.cells #[.int .i64 5, .int .i64 1, .int .i64 0, .int .i64 0, .int .i64 0, .int .i64 5, .int .i64 0, .int .i64 0, .int .i64 0, .int .i64 0, .int .i64 3, .int .i64 5, .int .i64 0, .int .i64 0, .int .i64 0] 58 (0, 0)) = w1 at BD LB ⊢
  obtain ⟨bl, hbl⟩ : ∃ bl, bl = w.heap.size := ⟨_, rfl⟩
  rw [← hbl] at LB ⊢
  have HBL := Lib.hid hbl
  clear hbl
  refine (new_at w1).mono ?_
  rintro e w2 ⟨A, c, rfl, hC, hc, hb⟩
  replace BD := Aside0.mk (below_then BD.out BD.out.size hb)
  replace LB := Aside0.mk (blk_below LB.out hb)
  have NC := Aside0.mk hC
  clear hb hC
  have QC := Aside0.mk hc
  clear hc
  go_wp2_with fail
  refine (run1_at w2 A (some ⟨bl, 0, none⟩) c 3 NC.out QC.out (C58_of_block lS (by decide) LB.out) (by decide)).mono ?_
  rintro e w3 ⟨A0, c0, A1, c1, rfl, hC0, hc0, hC1, hc1, hb⟩
  replace BD := Aside0.mk (below_then BD.out BD.out.size hb)
  replace LB := Aside0.mk (blk_below LB.out hb)
  replace NC := Aside0.mk (Kd.C_below NC.out hb)
  have CC := Aside0.mk hC0
  have CP := Aside0.mk hC1
  clear hb hC0 hC1
  have QC0 := Aside0.mk hc0
  have QC1 := Aside0.mk hc1
  clear hc0 hc1 NC QC
  go_wp2_with fail
  have hb : Below w3.heap.size w3 (w3.alloc (.cells #[.slice A0 5 c0] 26 (0, 0))) := below_alloc (Below.refl _ _) _
  replace BD := Aside0.mk (below_then BD.out BD.out.size hb)
  replace LB := Aside0.mk (blk_below LB.out hb)
  replace CC := Aside0.mk (Kd.C_below CC.out hb)
  replace CP := Aside0.mk (Kd.C_below CP.out hb)
  have SB := Aside0.mk (blk_new w3 (.cells #[.slice A0 5 c0] 26 (0, 0)))
  clear hb
  have SZ : (w3.alloc (.cells #[.slice A0 5 c0] 26 (0, 0))).heap.size = w3.heap.size + 1 := by simp
  rw [← SZ]
  generalize w3.alloc (.cells #[.slice A0 5 c0] 26 (0, 0)) = w4 at BD LB CC CP SB ⊢
  generalize w3.heap.size = b2 at SB ⊢
  clear SZ
  have hb : Below w4.heap.size w4 (w4.alloc (.cells #[.int .i64 1, .int .i64 0, .int .i64 0, .int .i64 1, .int .i64 1, .int .i64 1, .int .i64 1, .int .i64 0, .int .i64 0, .int .i64 2, .int .i64 1, .int .i64 0, .int .i64 0, .int .i64 (-1), .int .i64 3] 58 (0, 0))) := below_alloc (Below.refl _ _) _
  replace BD := Aside0.mk (below_then BD.out BD.out.size hb)
  replace LB := Aside0.mk (blk_below LB.out hb)
  replace CC := Aside0.mk (Kd.C_below CC.out hb)
  replace CP := Aside0.mk (Kd.C_below CP.out hb)
  replace SB := Aside0.mk (blk_below SB.out hb)
  have MK := Aside0.mk (blk_new w4 (.cells #[.int .i64 1, .int .i64 0, .int .i64 0, .int .i64 1, .int .i64 1, .int .i64 1, .int .i64 1, .int .i64 0, .int .i64 0, .int .i64 2, .int .i64 1, .int .i64 0, .int .i64 0, .int .i64 (-1), .int .i64 3] 58 (0, 0)))
  clear hb
  generalize w4.alloc (.cells #[.int .i64 1, .int .i64 0, .int .i64 0, .int .i64 1, .int .i64 1, .int .i64 1, .int .i64 1, .int .i64 0, .int .i64 0, .int .i64 2, .int .i64 1, .int .i64 0, .int .i64 0, .int .i64 (-1), .int .i64 3] 58 (0, 0)) = w5 at BD LB CC CP SB MK ⊢
  generalize w4.heap.size = bm at MK ⊢
  refine (new_at w5).mono ?_
  rintro e w6 ⟨A, c, rfl, hC, hc, hb⟩
  replace BD := Aside0.mk (below_then BD.out BD.out.size hb)
  replace LB := Aside0.mk (blk_below LB.out hb)
  replace CC := Aside0.mk (Kd.C_below CC.out hb)
  replace CP := Aside0.mk (Kd.C_below CP.out hb)
  replace SB := Aside0.mk (blk_below SB.out hb)
  replace MK := Aside0.mk (blk_below MK.out hb)
  have NC := Aside0.mk hC
  clear hb hC
  have QC := Aside0.mk hc
  clear hc
  go_wp2_with fail
  refine (next1_at w6 A (some ⟨bm, 0, none⟩) c 3 NC.out QC.out (C58_of_block mS (by decide) MK.out) (by decide)).mono ?_
  rintro e w7 ⟨A2, c2, rfl, hC2, hc2, hb⟩
  replace BD := Aside0.mk (below_then BD.out BD.out.size hb)
  replace LB := Aside0.mk (blk_below LB.out hb)
  replace CC := Aside0.mk (Kd.C_below CC.out hb)
  replace CP := Aside0.mk (Kd.C_below CP.out hb)
  replace SB := Aside0.mk (blk_below SB.out hb)
  replace MK := Aside0.mk (blk_below MK.out hb)
  replace NC := Aside0.mk (Kd.C_below NC.out hb)
  have CN := Aside0.mk hC2
  clear hb hC2
  have QC2 := Aside0.mk hc2
  clear hc2 NC QC
  go_wp2_with fail
  have hb : Below w7.heap.size w7 (w7.alloc (.cells #[.slice A2 5 c2] 26 (0, 0))) := below_alloc (Below.refl _ _) _
  replace BD := Aside0.mk (below_then BD.out BD.out.size hb)
  replace LB := Aside0.mk (blk_below LB.out hb)
  replace CC := Aside0.mk (Kd.C_below CC.out hb)
  replace CP := Aside0.mk (Kd.C_below CP.out hb)
  replace SB := Aside0.mk (blk_below SB.out hb)
  replace MK := Aside0.mk (blk_below MK.out hb)
  replace CN := Aside0.mk (Kd.C_below CN.out hb)
  have SN := Aside0.mk (blk_new w7 (.cells #[.slice A2 5 c2] 26 (0, 0)))
  clear hb
  generalize w7.alloc (.cells #[.slice A2 5 c2] 26 (0, 0)) = w8 at BD LB CC CP SB MK CN SN ⊢
  generalize w7.heap.size = b6 at SN ⊢
  refine start_ (n := 12) (S := fun w' => Below w8.heap.size w8 w') (ds := []) (bL 12 0) (by kernel_rfl) rfl (by kernel_rfl) (below_drew1 (Below.refl _ _)) (fun hHeld => ?_)
  refine with_tabW sanR5.tab sanR5.bits (fun HT_ HW_ => ?_)
  generalize w8.drew = wd at hHeld ⊢
  refine pure_ (i := 1) (N := some 45) (v := ?_) (a' := ?_) (bL 12 2) rfl rfl (any_of HT_.out (by kernel_rfl)) (fun _ _ _ h => h) (Or.inl ⟨by rfl, ?_⟩) ?_ ?_; rotate_left; (intro w'; go_simp; with_reducible rfl); rotate_left; (simp only [Act.put, act1, act2, act3, i64_w, i32_w]; rfl)
  refine pure_ (i := 2) (N := some 46) (v := ?_) (a' := ?_) (bL 12 6) rfl rfl (any_of HT_.out (by kernel_rfl)) (fun _ _ _ h => h) (Or.inl ⟨by rfl, ?_⟩) ?_ ?_; rotate_left; (intro w'; go_simp; with_reducible rfl); rotate_left; (simp only [Act.put, act1, act2, act3, i64_w, i32_w]; rfl)
  refine join_ (σ := Value × (Option Addr × Nat) × Nat) 3 #[true, true, true, true, true, true, true, true, true, false, false, false] (fun s_ => [(44, s_.1), (47, .tuple #[.agg #[.slice s_.2.1.1 5 s_.2.1.2], .int .i64 (-1), .int .i64 0]), (43, .tuple #[.agg #[.slice s_.2.1.1 5 s_.2.1.2], .int .i64 (-1), .int .i64 0]), (48, .agg #[.slice s_.2.1.1 5 s_.2.1.2]), (49, .int .i64 (-1)), (50, .int .i64 0), (9, .pointer (some ⟨s_.2.2, 0, none⟩))]) (fun s_ w' => Below w8.heap.size w8 w' ∧ w8.heap.size ≤ s_.2.2 ∧ w'.heap[s_.2.2]? = some (.cells #[.slice none 0 0] 26 (0, 0))) ?_ ?_
  rotate_left
  · intro hCont
    refine two_ (i := 0) (j := 8) (Ni := some 44) (Nj := some 9) #[true, true, true, false, false, false, false, false, false, false, false, false] #[false, true, true, false, false, false, false, false, true, false, false, false] rfl rfl rfl rfl (two_of HT_.out (by kernel_rfl)) (by decide) (by decide) (fun K hK => ?_) (fun K hK => ?_)
    · skip
      refine goes_ Try.func11 (by kernel_rfl) rfl #[] (by rfl) rfl rfl (by (try simp only [List.map_toArray, List.map_cons, List.map_nil]); first | done | rfl) ?_
      refine (new_at wd).mono ?_
      rintro e x1 ⟨A, c, rfl, hC, hc, hb⟩
      refine ⟨_, rfl, ?_⟩
      have NC := Aside0.mk hC
      have QC := Aside0.mk hc
      clear hC hc
      refine hK.out _ _ (below_then hHeld hHeld.size hb) (fun hHeld => ?_)
      clear hK K
      refine norm_ (a' := ?_) ?_ ?_
      rotate_left
      · show Act.put _ (some 44) _ = _
        simp only [Act.put, List.setIfInBounds_toArray, List.set_cons_zero, List.set_cons_succ, i64_w, i32_w]
        rfl
      clear hb
      refine two_ (i := 3) (j := 8) (Ni := some 47) (Nj := some 9) #[true, true, true, true, false, false, false, false, false, false, false, false] #[true, true, true, false, false, false, false, false, true, false, false, false] rfl rfl rfl rfl (two_of HT_.out (by kernel_rfl)) (by decide) (by decide) (fun K hK => ?_) (fun K hK => ?_)
      · skip
        refine goes_ Try.func12 (by kernel_rfl) rfl #[.agg #[.slice A 5 c], .slice (some ⟨bm, 10, none⟩) 1 1] (by rfl) rfl rfl (by (try simp only [List.map_toArray, List.map_cons, List.map_nil]); first | done | rfl) ?_
        refine (next2_at x1 A (some ⟨bm, 10, none⟩) c 1 NC.out QC.out (by have h1 := Kd.C_drop (k := k58) (c := 3) (C58_of_block mS (by decide) (blk_below MK.out hHeld)) (show 2 ≤ mS.length by decide) (by decide); exact h1) (by decide)).mono ?_
        rintro e x2 ⟨A3, c3, rfl, hb⟩
        refine ⟨_, rfl, ?_⟩
        refine hK.out _ _ (below_then hHeld hHeld.size hb) (fun hHeld => ?_)
        clear hK K
        refine norm_ (a' := ?_) ?_ ?_
        rotate_left
        · show Act.put _ (some 47) _ = _
          simp only [Act.put, List.setIfInBounds_toArray, List.set_cons_zero, List.set_cons_succ, i64_w, i32_w]
          rfl
        clear hb
        refine pure_ (i := 4) (N := some 43) (v := ?_) (a' := ?_) (bL 12 31) rfl rfl (any_of HT_.out (by kernel_rfl)) (fun _ _ _ h => h) (Or.inl ⟨by rfl, ?_⟩) ?_ ?_; rotate_left; (intro w'; go_simp; with_reducible rfl); rotate_left; (simp only [Act.put, act1, act2, act3, i64_w, i32_w]; rfl)
        refine pure_ (i := 5) (N := some 48) (v := ?_) (a' := ?_) (bL 12 63) rfl rfl (any_of HT_.out (by kernel_rfl)) (fun _ _ _ h => h) (Or.inl ⟨by rfl, ?_⟩) ?_ ?_; rotate_left; (intro w'; go_simp; with_reducible rfl); rotate_left; (simp only [Act.put, act1, act2, act3, i64_w, i32_w]; rfl)
        refine pure_ (i := 6) (N := some 49) (v := ?_) (a' := ?_) (bL 12 127) rfl rfl (any_of HT_.out (by kernel_rfl)) (fun _ _ _ h => h) (Or.inl ⟨by rfl, ?_⟩) ?_ ?_; rotate_left; (intro w'; go_simp; with_reducible rfl); rotate_left; (simp only [Act.put, act1, act2, act3, i64_w, i32_w]; rfl)
        refine pure_ (i := 7) (N := some 50) (v := ?_) (a' := ?_) (bL 12 255) rfl rfl (any_of HT_.out (by kernel_rfl)) (fun _ _ _ h => h) (Or.inl ⟨by rfl, ?_⟩) ?_ ?_; rotate_left; (intro w'; go_simp; with_reducible rfl); rotate_left; (simp only [Act.put, act1, act2, act3, i64_w, i32_w]; rfl)
        refine one_ (i := 8) (N := some 9) (bL 12 511) rfl rfl (one_of HT_.out (by kernel_rfl)) (by decide) (fun K hK => ?_)
        refine value_ (v := .pointer (some ⟨x2.heap.size, 0, none⟩)) (w1 := x2.alloc (.cells #[.slice none 0 0] 26 (0, 0))) (by rfl) rfl (by first | (go_simp; done) | (go_simp; rfl)) ?_
        have hb : Below x2.heap.size x2 (x2.alloc (.cells #[.slice none 0 0] 26 (0, 0))) := below_alloc (Below.refl _ _) _
        have SG := Aside0.mk (blk_new x2 (.cells #[.slice none 0 0] 26 (0, 0)))
        have GE := Aside0.mk hHeld.size
        refine hK.out _ _ (below_then hHeld hHeld.size hb) (fun hHeld => ?_)
        generalize x2.alloc (.cells #[.slice none 0 0] 26 (0, 0)) = x3 at hb SG hHeld ⊢
        generalize x2.heap.size = g at SG GE ⊢
        clear hK K
        refine norm_ (a' := ?_) ?_ ?_
        rotate_left
        · show Act.put _ (some 9) _ = _
          simp only [Act.put, List.setIfInBounds_toArray, List.set_cons_zero, List.set_cons_succ, i64_w, i32_w]
          rfl
        clear hb
        exact norm_ (by simp only [putAll, Act.put, List.setIfInBounds_toArray, List.set_cons_zero, List.set_cons_succ]) (hCont (.agg #[.slice A 5 c], (A3, c3), g) _ ⟨hHeld, GE.out, SG.out⟩)
      · skip
        refine value_ (v := .pointer (some ⟨x1.heap.size, 0, none⟩)) (w1 := x1.alloc (.cells #[.slice none 0 0] 26 (0, 0))) (by rfl) rfl (by first | (go_simp; done) | (go_simp; rfl)) ?_
        have hb : Below x1.heap.size x1 (x1.alloc (.cells #[.slice none 0 0] 26 (0, 0))) := below_alloc (Below.refl _ _) _
        have SG := Aside0.mk (blk_new x1 (.cells #[.slice none 0 0] 26 (0, 0)))
        have GE := Aside0.mk hHeld.size
        refine hK.out _ _ (below_then hHeld hHeld.size hb) (fun hHeld => ?_)
        generalize x1.alloc (.cells #[.slice none 0 0] 26 (0, 0)) = x2 at hb SG hHeld ⊢
        generalize x1.heap.size = g at SG GE ⊢
        clear hK K
        refine norm_ (a' := ?_) ?_ ?_
        rotate_left
        · show Act.put _ (some 9) _ = _
          simp only [Act.put, List.setIfInBounds_toArray, List.set_cons_zero, List.set_cons_succ, i64_w, i32_w]
          rfl
        replace NC := Aside0.mk (Kd.C_below NC.out hb)
        clear hb
        refine one_ (i := 3) (N := some 47) (bL 12 271) rfl rfl (one_of HT_.out (by kernel_rfl)) (by decide) (fun K hK => ?_)
        refine goes_ Try.func12 (by kernel_rfl) rfl #[.agg #[.slice A 5 c], .slice (some ⟨bm, 10, none⟩) 1 1] (by rfl) rfl rfl (by (try simp only [List.map_toArray, List.map_cons, List.map_nil]); first | done | rfl) ?_
        refine (next2_at x2 A (some ⟨bm, 10, none⟩) c 1 NC.out QC.out (by have h1 := Kd.C_drop (k := k58) (c := 3) (C58_of_block mS (by decide) (blk_below MK.out hHeld)) (show 2 ≤ mS.length by decide) (by decide); exact h1) (by decide)).mono ?_
        rintro e x3 ⟨A3, c3, rfl, hb⟩
        refine ⟨_, rfl, ?_⟩
        refine hK.out _ _ (below_then hHeld hHeld.size hb) (fun hHeld => ?_)
        clear hK K
        refine norm_ (a' := ?_) ?_ ?_
        rotate_left
        · show Act.put _ (some 47) _ = _
          simp only [Act.put, List.setIfInBounds_toArray, List.set_cons_zero, List.set_cons_succ, i64_w, i32_w]
          rfl
        replace SG := Aside0.mk (blk_below SG.out hb)
        clear hb
        refine pure_ (i := 4) (N := some 43) (v := ?_) (a' := ?_) (bL 12 287) rfl rfl (any_of HT_.out (by kernel_rfl)) (fun _ _ _ h => h) (Or.inl ⟨by rfl, ?_⟩) ?_ ?_; rotate_left; (intro w'; go_simp; with_reducible rfl); rotate_left; (simp only [Act.put, act1, act2, act3, i64_w, i32_w]; rfl)
        refine pure_ (i := 5) (N := some 48) (v := ?_) (a' := ?_) (bL 12 319) rfl rfl (any_of HT_.out (by kernel_rfl)) (fun _ _ _ h => h) (Or.inl ⟨by rfl, ?_⟩) ?_ ?_; rotate_left; (intro w'; go_simp; with_reducible rfl); rotate_left; (simp only [Act.put, act1, act2, act3, i64_w, i32_w]; rfl)
        refine pure_ (i := 6) (N := some 49) (v := ?_) (a' := ?_) (bL 12 383) rfl rfl (any_of HT_.out (by kernel_rfl)) (fun _ _ _ h => h) (Or.inl ⟨by rfl, ?_⟩) ?_ ?_; rotate_left; (intro w'; go_simp; with_reducible rfl); rotate_left; (simp only [Act.put, act1, act2, act3, i64_w, i32_w]; rfl)
        refine pure_ (i := 7) (N := some 50) (v := ?_) (a' := ?_) (bL 12 511) rfl rfl (any_of HT_.out (by kernel_rfl)) (fun _ _ _ h => h) (Or.inl ⟨by rfl, ?_⟩) ?_ ?_; rotate_left; (intro w'; go_simp; with_reducible rfl); rotate_left; (simp only [Act.put, act1, act2, act3, i64_w, i32_w]; rfl)
        exact norm_ (by simp only [putAll, Act.put, List.setIfInBounds_toArray, List.set_cons_zero, List.set_cons_succ]) (hCont (.agg #[.slice A 5 c], (A3, c3), g) _ ⟨hHeld, GE.out, SG.out⟩)
    · skip
      refine value_ (v := .pointer (some ⟨wd.heap.size, 0, none⟩)) (w1 := wd.alloc (.cells #[.slice none 0 0] 26 (0, 0))) (by rfl) rfl (by first | (go_simp; done) | (go_simp; rfl)) ?_
      have hb : Below wd.heap.size wd (wd.alloc (.cells #[.slice none 0 0] 26 (0, 0))) := below_alloc (Below.refl _ _) _
      have SG := Aside0.mk (blk_new wd (.cells #[.slice none 0 0] 26 (0, 0)))
      have GE := Aside0.mk hHeld.size
      refine hK.out _ _ (below_then hHeld hHeld.size hb) (fun hHeld => ?_)
      generalize wd.alloc (.cells #[.slice none 0 0] 26 (0, 0)) = x1 at hb SG hHeld ⊢
      generalize wd.heap.size = g at SG GE ⊢
      clear hK K
      refine norm_ (a' := ?_) ?_ ?_
      rotate_left
      · show Act.put _ (some 9) _ = _
        simp only [Act.put, List.setIfInBounds_toArray, List.set_cons_zero, List.set_cons_succ, i64_w, i32_w]
        rfl
      clear hb
      refine one_ (i := 0) (N := some 44) (bL 12 263) rfl rfl (one_of HT_.out (by kernel_rfl)) (by decide) (fun K hK => ?_)
      refine goes_ Try.func11 (by kernel_rfl) rfl #[] (by rfl) rfl rfl (by (try simp only [List.map_toArray, List.map_cons, List.map_nil]); first | done | rfl) ?_
      refine (new_at x1).mono ?_
      rintro e x2 ⟨A, c, rfl, hC, hc, hb⟩
      refine ⟨_, rfl, ?_⟩
      have NC := Aside0.mk hC
      have QC := Aside0.mk hc
      clear hC hc
      refine hK.out _ _ (below_then hHeld hHeld.size hb) (fun hHeld => ?_)
      clear hK K
      refine norm_ (a' := ?_) ?_ ?_
      rotate_left
      · show Act.put _ (some 44) _ = _
        simp only [Act.put, List.setIfInBounds_toArray, List.set_cons_zero, List.set_cons_succ, i64_w, i32_w]
        rfl
      replace SG := Aside0.mk (blk_below SG.out hb)
      clear hb
      refine one_ (i := 3) (N := some 47) (bL 12 271) rfl rfl (one_of HT_.out (by kernel_rfl)) (by decide) (fun K hK => ?_)
      refine goes_ Try.func12 (by kernel_rfl) rfl #[.agg #[.slice A 5 c], .slice (some ⟨bm, 10, none⟩) 1 1] (by rfl) rfl rfl (by (try simp only [List.map_toArray, List.map_cons, List.map_nil]); first | done | rfl) ?_
      refine (next2_at x2 A (some ⟨bm, 10, none⟩) c 1 NC.out QC.out (by have h1 := Kd.C_drop (k := k58) (c := 3) (C58_of_block mS (by decide) (blk_below MK.out hHeld)) (show 2 ≤ mS.length by decide) (by decide); exact h1) (by decide)).mono ?_
      rintro e x3 ⟨A3, c3, rfl, hb⟩
      refine ⟨_, rfl, ?_⟩
      refine hK.out _ _ (below_then hHeld hHeld.size hb) (fun hHeld => ?_)
      clear hK K
      refine norm_ (a' := ?_) ?_ ?_
      rotate_left
      · show Act.put _ (some 47) _ = _
        simp only [Act.put, List.setIfInBounds_toArray, List.set_cons_zero, List.set_cons_succ, i64_w, i32_w]
        rfl
      replace SG := Aside0.mk (blk_below SG.out hb)
      clear hb
      refine pure_ (i := 4) (N := some 43) (v := ?_) (a' := ?_) (bL 12 287) rfl rfl (any_of HT_.out (by kernel_rfl)) (fun _ _ _ h => h) (Or.inl ⟨by rfl, ?_⟩) ?_ ?_; rotate_left; (intro w'; go_simp; with_reducible rfl); rotate_left; (simp only [Act.put, act1, act2, act3, i64_w, i32_w]; rfl)
      refine pure_ (i := 5) (N := some 48) (v := ?_) (a' := ?_) (bL 12 319) rfl rfl (any_of HT_.out (by kernel_rfl)) (fun _ _ _ h => h) (Or.inl ⟨by rfl, ?_⟩) ?_ ?_; rotate_left; (intro w'; go_simp; with_reducible rfl); rotate_left; (simp only [Act.put, act1, act2, act3, i64_w, i32_w]; rfl)
      refine pure_ (i := 6) (N := some 49) (v := ?_) (a' := ?_) (bL 12 383) rfl rfl (any_of HT_.out (by kernel_rfl)) (fun _ _ _ h => h) (Or.inl ⟨by rfl, ?_⟩) ?_ ?_; rotate_left; (intro w'; go_simp; with_reducible rfl); rotate_left; (simp only [Act.put, act1, act2, act3, i64_w, i32_w]; rfl)
      refine pure_ (i := 7) (N := some 50) (v := ?_) (a' := ?_) (bL 12 511) rfl rfl (any_of HT_.out (by kernel_rfl)) (fun _ _ _ h => h) (Or.inl ⟨by rfl, ?_⟩) ?_ ?_; rotate_left; (intro w'; go_simp; with_reducible rfl); rotate_left; (simp only [Act.put, act1, act2, act3, i64_w, i32_w]; rfl)
      exact norm_ (by simp only [putAll, Act.put, List.setIfInBounds_toArray, List.set_cons_zero, List.set_cons_succ]) (hCont (.agg #[.slice A 5 c], (A3, c3), g) _ ⟨hHeld, GE.out, SG.out⟩)
  rintro ⟨s1, ⟨A3, c3⟩, g⟩ w9 ⟨hHeld, hge, hsg⟩
  have SG : Aside0 (w9.heap[g]? = some (.cells #[.slice none 0 0] 26 (0, 0))) := ⟨hsg⟩
  have GE : Aside0 (w8.heap.size ≤ g) := ⟨hge⟩
  clear hge hsg
  refine norm_ (a' := ?_) ?_ ?_
  rotate_left
  · simp only [putAll, Act.put, List.setIfInBounds_toArray, List.set_cons_zero, List.set_cons_succ]
    rfl
  refine one_ (i := 9) (N := none) (bL 12 1023) rfl rfl (one_of HT_.out (by kernel_rfl)) (by decide) (fun K hK => ?_)
  have cG : w9.cell? ⟨g, 0, none⟩ = some (.slice none 0 0) := (blk_cell SG.out 0).trans rfl
  have fG := blk_frozen SG.out 0
  refine skip_ (w1 := w9.setCell ⟨g, 0, none⟩ (.slice A3 5 c3)) (by rfl) rfl (by first | (go_simp; done) | (go_simp; rfl)) ?_
  have hS2 := hHeld.setCell (p := ⟨g, 0, none⟩) GE.out (.slice A3 5 c3)
  refine hK.out _ _ hS2 (fun hHeld => ?_)
  clear cG fG hS2 SG GE
  generalize w9.setCell ⟨g, 0, none⟩ (.slice A3 5 c3) = w10 at hHeld ⊢
  clear hK K
  refine pure_ (i := 10) (N := some 10) (v := ?_) (a' := ?_) (bL 12 2047) rfl rfl (any_of HT_.out (by kernel_rfl)) (fun _ _ _ h => h) (Or.inl ⟨by rfl, ?_⟩) ?_ ?_; rotate_left; (intro w'; go_simp; with_reducible rfl); rotate_left; (simp only [Act.put, act1, act2, act3, i64_w, i32_w]; rfl)
  refine pure_ (i := 11) (N := some 11) (v := ?_) (a' := ?_) (bL 12 4095) rfl rfl (any_of HT_.out (by kernel_rfl)) (fun _ _ _ h => h) (Or.inl ⟨by rfl, ?_⟩) ?_ ?_; rotate_left; (intro w'; go_simp; with_reducible rfl); rotate_left; (simp only [Act.put, act1, act2, act3, i64_w, i32_w]; rfl)
  refine done_ (done_of HT_.out (by kernel_rfl)) ?_
  have hb := hHeld
  replace BD := Aside0.mk (below_then BD.out BD.out.size hb)
  replace LB := Aside0.mk (blk_below LB.out hb)
  replace CC := Aside0.mk (Kd.C_below CC.out hb)
  replace CP := Aside0.mk (Kd.C_below CP.out hb)
  replace SB := Aside0.mk (blk_below SB.out hb)
  replace MK := Aside0.mk (blk_below MK.out hb)
  replace CN := Aside0.mk (Kd.C_below CN.out hb)
  replace SN := Aside0.mk (blk_below SN.out hb)
  clear hb hHeld HT_ HW_
  go_wp2_with fail
  refine (next3_at w10 (some ⟨bm, 0, none⟩) 3 (C58_of_block mS (by decide) MK.out) (by decide)).mono ?_
  rintro e w11 ⟨A4, c4, rfl, hb⟩
  replace BD := Aside0.mk (below_then BD.out BD.out.size hb)
  replace LB := Aside0.mk (blk_below LB.out hb)
  replace CC := Aside0.mk (Kd.C_below CC.out hb)
  replace CP := Aside0.mk (Kd.C_below CP.out hb)
  replace SB := Aside0.mk (blk_below SB.out hb)
  replace MK := Aside0.mk (blk_below MK.out hb)
  replace CN := Aside0.mk (Kd.C_below CN.out hb)
  replace SN := Aside0.mk (blk_below SN.out hb)
  clear hb
  go_wp2_with fail
  have hb : Below w11.heap.size w11 (w11.alloc (.cells #[.slice A4 0 c4] 26 (0, 0))) := below_alloc (Below.refl _ _) _
  replace BD := Aside0.mk (below_then BD.out BD.out.size hb)
  replace LB := Aside0.mk (blk_below LB.out hb)
  replace CC := Aside0.mk (Kd.C_below CC.out hb)
  replace CP := Aside0.mk (Kd.C_below CP.out hb)
  replace SB := Aside0.mk (blk_below SB.out hb)
  replace MK := Aside0.mk (blk_below MK.out hb)
  replace CN := Aside0.mk (Kd.C_below CN.out hb)
  replace SN := Aside0.mk (blk_below SN.out hb)
  clear hb
  generalize w11.alloc (.cells #[.slice A4 0 c4] 26 (0, 0)) = w12 at BD LB CC CP SB MK CN SN ⊢
  refine (new_at w12).mono ?_
  rintro e w13 ⟨A, c, rfl, hC, hc, hb⟩
  replace BD := Aside0.mk (below_then BD.out BD.out.size hb)
  replace LB := Aside0.mk (blk_below LB.out hb)
  replace CC := Aside0.mk (Kd.C_below CC.out hb)
  replace CP := Aside0.mk (Kd.C_below CP.out hb)
  replace SB := Aside0.mk (blk_below SB.out hb)
  replace MK := Aside0.mk (blk_below MK.out hb)
  replace CN := Aside0.mk (Kd.C_below CN.out hb)
  replace SN := Aside0.mk (blk_below SN.out hb)
  have NC := Aside0.mk hC
  clear hb hC
  have QC := Aside0.mk hc
  clear hc
  go_wp2_with fail
  refine (run2_at w13 A (some ⟨bl, 0, none⟩) c 3 NC.out QC.out (C58_of_block lS (by decide) LB.out) (by decide)).mono ?_
  rintro e w14 ⟨A5, c5, A6, c6, rfl, hb⟩
  replace BD := Aside0.mk (below_then BD.out BD.out.size hb)
  replace LB := Aside0.mk (blk_below LB.out hb)
  replace CC := Aside0.mk (Kd.C_below CC.out hb)
  replace CP := Aside0.mk (Kd.C_below CP.out hb)
  replace SB := Aside0.mk (blk_below SB.out hb)
  replace MK := Aside0.mk (blk_below MK.out hb)
  replace CN := Aside0.mk (Kd.C_below CN.out hb)
  replace SN := Aside0.mk (blk_below SN.out hb)
  replace NC := Aside0.mk (Kd.C_below NC.out hb)
  clear hb
  clear NC QC
  go_wp2_with fail
  have hb : Below w14.heap.size w14 (w14.alloc (.cells #[.slice A5 0 c5] 26 (0, 0))) := below_alloc (Below.refl _ _) _
  replace BD := Aside0.mk (below_then BD.out BD.out.size hb)
  replace LB := Aside0.mk (blk_below LB.out hb)
  replace CC := Aside0.mk (Kd.C_below CC.out hb)
  replace CP := Aside0.mk (Kd.C_below CP.out hb)
  replace SB := Aside0.mk (blk_below SB.out hb)
  replace MK := Aside0.mk (blk_below MK.out hb)
  replace CN := Aside0.mk (Kd.C_below CN.out hb)
  replace SN := Aside0.mk (blk_below SN.out hb)
  clear hb
  generalize w14.alloc (.cells #[.slice A5 0 c5] 26 (0, 0)) = w15 at BD LB CC CP SB MK CN SN ⊢
  refine start_ (n := 67) (S := fun w' => w'.cell? ⟨b2, 0, none⟩ = some (.slice A0 5 c0) ∧ w'.cell? ⟨b6, 0, none⟩ = some (.slice A2 5 c2) ∧ Aside0 (Below w15.heap.size w15 w')) (ds := []) (bL 67 0) (by kernel_rfl) rfl (by kernel_rfl) ⟨(blk_cell SB.out 0).trans rfl, (blk_cell SN.out 0).trans rfl, ⟨below_drew1 (Below.refl _ _)⟩⟩ (fun hHeld => ?_)
  refine with_tabW sanR8.tab sanR8.bits (fun HT_ HW_ => ?_)
  generalize w15.drew = y0 at hHeld ⊢
  refine pure_ (i := 0) (N := some 65) (v := ?_) (a' := ?_) (bL 67 1) rfl rfl (any_of HT_.out (by kernel_rfl)) (fun _ _ _ h => h) (Or.inl ⟨by rfl, ?_⟩) ?_ ?_; rotate_left; (intro w'; go_simp; with_reducible rfl); rotate_left; (simp only [Act.put, act1, act2, act3, i64_w, i32_w]; rfl)
  refine one_ (i := 1) (N := some 66) (bL 67 3) rfl rfl (one_of HT_.out (by kernel_rfl)) (by decide) (fun K hK => ?_)
  refine value_ (v := .slice (some ⟨y0.heap.size, 0, none⟩) 3 3) (w1 := y0.alloc (.cells #[.int .i64 2, .int .i64 1, .int .i64 0] 3 (0, 0))) (by rfl) rfl (by have hmk := mk5 y0; first | (go_simp; done) | (go_simp; rfl)) ?_
  have hb : Below y0.heap.size y0 (y0.alloc (.cells #[.int .i64 2, .int .i64 1, .int .i64 0] 3 (0, 0))) := below_alloc (Below.refl _ _) _
  have KN := Aside0.mk (C_small [2, 1, 0] (by decide) (blk_new y0 (.cells #[.int .i64 2, .int .i64 1, .int .i64 0] 3 (0, 0))))
  refine hK.out _ _ ⟨pw_cell_below hb hHeld.1, pw_cell_below hb hHeld.2.1, ⟨below_then hHeld.2.2.out hHeld.2.2.out.size hb⟩⟩ (fun hHeld => ?_)
  clear hb
  generalize y0.alloc (.cells #[.int .i64 2, .int .i64 1, .int .i64 0] 3 (0, 0)) = y1 at KN hHeld ⊢
  generalize y0.heap.size = k1 at KN ⊢
  clear hK K
  refine norm_ (a' := ?_) ?_ ?_
  rotate_left
  · show Act.put _ (some 66) _ = _
    simp only [Act.put, List.setIfInBounds_toArray, List.set_cons_zero, List.set_cons_succ, i64_w, i32_w]
    rfl
  refine one_ (i := 2) (N := some 67) (bL 67 7) rfl rfl (one_of HT_.out (by kernel_rfl)) (by decide) (fun K hK => ?_)
  refine goes_ Try.func21 (by kernel_rfl) rfl #[.slice A1 3 c1, .slice (some ⟨k1, 0, none⟩) 3 3] (by rfl) rfl rfl (by (try simp only [List.map_toArray, List.map_cons, List.map_nil]); first | done | rfl) ?_
  refine (same1_at y1 A1 (some ⟨k1, 0, none⟩) c1 3 (Kd.C_below CP.out hHeld.2.2.out) QC1.out KN.out (by decide)).mono ?_
  rintro e y2 ⟨rfl, hb⟩
  refine ⟨_, rfl, ?_⟩
  refine hK.out _ _ ⟨pw_cell_below hb hHeld.1, pw_cell_below hb hHeld.2.1, ⟨below_then hHeld.2.2.out hHeld.2.2.out.size hb⟩⟩ (fun hHeld => ?_)
  clear hb
  clear hK K
  refine norm_ (a' := ?_) ?_ ?_
  rotate_left
  · show Act.put _ (some 67) _ = _
    simp only [Act.put, List.setIfInBounds_toArray, List.set_cons_zero, List.set_cons_succ, i64_w, i32_w]
    rfl
  clear KN
  refine pure_ (i := 3) (N := some 68) (v := ?_) (a' := ?_) (bL 67 15) rfl rfl (any_of HT_.out (by kernel_rfl)) (fun _ _ _ h => h) (Or.inl ⟨by rfl, ?_⟩) ?_ ?_; rotate_left; (intro w'; go_simp; with_reducible rfl); rotate_left; (simp only [Act.put, act1, act2, act3, i64_w, i32_w]; rfl)
  refine pure_ (i := 4) (N := some 69) (v := ?_) (a' := ?_) (bL 67 31) rfl rfl (any_of HT_.out (by kernel_rfl)) (fun _ _ _ h => h) (Or.inl ⟨by rfl, ?_⟩) ?_ ?_; rotate_left; (intro w'; go_simp; with_reducible rfl); rotate_left; (simp only [Act.put, act1, act2, act3, i64_w, i32_w]; rfl)
  refine pure_ (i := 5) (N := some 70) (v := ?_) (a' := ?_) (bL 67 63) rfl rfl (any_of HT_.out (by kernel_rfl)) (fun _ _ _ h => h) (Or.inl ⟨by rfl, ?_⟩) ?_ ?_; rotate_left; (intro w'; go_simp; with_reducible rfl); rotate_left; (simp only [Act.put, act1, act2, act3, i64_w, i32_w]; rfl)
  refine pure_ (i := 6) (N := some 71) (v := ?_) (a' := ?_) (bL 67 127) rfl rfl (any_of HT_.out (by kernel_rfl)) (fun _ _ _ h => h) (Or.inl ⟨by rfl, ?_⟩) ?_ ?_; rotate_left; (intro w'; go_simp; with_reducible rfl); rotate_left; (simp only [Act.put, act1, act2, act3, i64_w, i32_w]; rfl)
  refine pure_ (i := 7) (N := some 72) (v := ?_) (a' := ?_) (bL 67 255) rfl rfl (any_of HT_.out (by kernel_rfl)) (fun _ _ _ h => h) (Or.inl ⟨by rfl, ?_⟩) ?_ ?_; rotate_left; (intro w'; go_simp; with_reducible rfl); rotate_left; (simp only [Act.put, act1, act2, act3, i64_w, i32_w]; rfl)
  refine pure_ (i := 8) (N := some 73) (v := ?_) (a' := ?_) (bL 67 511) rfl rfl (any_of HT_.out (by kernel_rfl)) (fun _ _ _ h => h) (Or.inl ⟨by rfl, ?_⟩) ?_ ?_; rotate_left; (intro w'; go_simp; with_reducible rfl); rotate_left; (simp only [Act.put, act1, act2, act3, i64_w, i32_w]; rfl)
  refine take_ (i := 9) (N := some 74) (v := ?_) (a' := ?_) (bL 67 1023) rfl rfl (take_ofW HT_.out HW_.out (by kernel_rfl)) (fun _ _ _ h => h) (Or.inl ⟨by rfl, ?_⟩) hHeld ?_ ?_; rotate_left; (rintro w' ⟨s0, s1, s2⟩; go_simp; with_reducible rfl); rotate_left; (simp only [Act.put, act1, act2, act3, i64_w, i32_w]; rfl)
  refine one_ (i := 10) (N := some 75) (bL 67 2047) rfl rfl (one_of HT_.out (by kernel_rfl)) (by decide) (fun K hK => ?_)
  refine value_ (v := .slice (some ⟨y2.heap.size, 0, none⟩) 5 5) (w1 := y2.alloc (.cells #[.int .i64 0, .int .i64 0, .int .i64 (-1), .int .i64 0, .int .i64 1] 3 (0, 0))) (by rfl) rfl (by have hmk := mk5 y2; first | (go_simp; done) | (go_simp; rfl)) ?_
  have hb : Below y2.heap.size y2 (y2.alloc (.cells #[.int .i64 0, .int .i64 0, .int .i64 (-1), .int .i64 0, .int .i64 1] 3 (0, 0))) := below_alloc (Below.refl _ _) _
  have KN := Aside0.mk (C_small [0, 0, -1, 0, 1] (by decide) (blk_new y2 (.cells #[.int .i64 0, .int .i64 0, .int .i64 (-1), .int .i64 0, .int .i64 1] 3 (0, 0))))
  refine hK.out _ _ ⟨pw_cell_below hb hHeld.1, pw_cell_below hb hHeld.2.1, ⟨below_then hHeld.2.2.out hHeld.2.2.out.size hb⟩⟩ (fun hHeld => ?_)
  clear hb
  generalize y2.alloc (.cells #[.int .i64 0, .int .i64 0, .int .i64 (-1), .int .i64 0, .int .i64 1] 3 (0, 0)) = y3 at KN hHeld ⊢
  generalize y2.heap.size = k3 at KN ⊢
  clear hK K
  refine norm_ (a' := ?_) ?_ ?_
  rotate_left
  · show Act.put _ (some 75) _ = _
    simp only [Act.put, List.setIfInBounds_toArray, List.set_cons_zero, List.set_cons_succ, i64_w, i32_w]
    rfl
  refine one_ (i := 11) (N := some 76) (bL 67 4095) rfl rfl (one_of HT_.out (by kernel_rfl)) (by decide) (fun K hK => ?_)
  refine goes_ Try.func21 (by kernel_rfl) rfl #[.slice A0 5 c0, .slice (some ⟨k3, 0, none⟩) 5 5] (by rfl) rfl rfl (by (try simp only [List.map_toArray, List.map_cons, List.map_nil]); first | done | rfl) ?_
  refine (same2_at y3 A0 (some ⟨k3, 0, none⟩) c0 5 (Kd.C_below CC.out hHeld.2.2.out) QC0.out KN.out (by decide)).mono ?_
  rintro e y4 ⟨rfl, hb⟩
  refine ⟨_, rfl, ?_⟩
  refine hK.out _ _ ⟨pw_cell_below hb hHeld.1, pw_cell_below hb hHeld.2.1, ⟨below_then hHeld.2.2.out hHeld.2.2.out.size hb⟩⟩ (fun hHeld => ?_)
  clear hb
  clear hK K
  refine norm_ (a' := ?_) ?_ ?_
  rotate_left
  · show Act.put _ (some 76) _ = _
    simp only [Act.put, List.setIfInBounds_toArray, List.set_cons_zero, List.set_cons_succ, i64_w, i32_w]
    rfl
  clear KN
  refine pure_ (i := 12) (N := some 77) (v := ?_) (a' := ?_) (bL 67 8191) rfl rfl (any_of HT_.out (by kernel_rfl)) (fun _ _ _ h => h) (Or.inl ⟨by rfl, ?_⟩) ?_ ?_; rotate_left; (intro w'; go_simp; with_reducible rfl); rotate_left; (simp only [Act.put, act1, act2, act3, i64_w, i32_w]; rfl)
  refine pure_ (i := 13) (N := some 78) (v := ?_) (a' := ?_) (bL 67 16383) rfl rfl (any_of HT_.out (by kernel_rfl)) (fun _ _ _ h => h) (Or.inl ⟨by rfl, ?_⟩) ?_ ?_; rotate_left; (intro w'; go_simp; with_reducible rfl); rotate_left; (simp only [Act.put, act1, act2, act3, i64_w, i32_w]; rfl)
  refine pure_ (i := 14) (N := some 79) (v := ?_) (a' := ?_) (bL 67 32767) rfl rfl (any_of HT_.out (by kernel_rfl)) (fun _ _ _ h => h) (Or.inl ⟨by rfl, ?_⟩) ?_ ?_; rotate_left; (intro w'; go_simp; with_reducible rfl); rotate_left; (simp only [Act.put, act1, act2, act3, i64_w, i32_w]; rfl)
  refine pure_ (i := 15) (N := some 80) (v := ?_) (a' := ?_) (bL 67 65535) rfl rfl (any_of HT_.out (by kernel_rfl)) (fun _ _ _ h => h) (Or.inl ⟨by rfl, ?_⟩) ?_ ?_; rotate_left; (intro w'; go_simp; with_reducible rfl); rotate_left; (simp only [Act.put, act1, act2, act3, i64_w, i32_w]; rfl)
  refine pure_ (i := 16) (N := some 81) (v := ?_) (a' := ?_) (bL 67 131071) rfl rfl (any_of HT_.out (by kernel_rfl)) (fun _ _ _ h => h) (Or.inl ⟨by rfl, ?_⟩) ?_ ?_; rotate_left; (intro w'; go_simp; with_reducible rfl); rotate_left; (simp only [Act.put, act1, act2, act3, i64_w, i32_w]; rfl)
  refine pure_ (i := 17) (N := some 82) (v := ?_) (a' := ?_) (bL 67 262143) rfl rfl (any_of HT_.out (by kernel_rfl)) (fun _ _ _ h => h) (Or.inl ⟨by rfl, ?_⟩) ?_ ?_; rotate_left; (intro w'; go_simp; with_reducible rfl); rotate_left; (simp only [Act.put, act1, act2, act3, i64_w, i32_w]; rfl)
  refine pure_ (i := 18) (N := some 83) (v := ?_) (a' := ?_) (bL 67 524287) rfl rfl (any_of HT_.out (by kernel_rfl)) (fun _ _ _ h => h) (Or.inl ⟨by rfl, ?_⟩) ?_ ?_; rotate_left; (intro w'; go_simp; with_reducible rfl); rotate_left; (simp only [Act.put, act1, act2, act3, i64_w, i32_w]; rfl)
  refine pure_ (i := 19) (N := some 84) (v := ?_) (a' := ?_) (bL 67 1048575) rfl rfl (any_of HT_.out (by kernel_rfl)) (fun _ _ _ h => h) (Or.inl ⟨by rfl, ?_⟩) ?_ ?_; rotate_left; (intro w'; go_simp; with_reducible rfl); rotate_left; (simp only [Act.put, act1, act2, act3, i64_w, i32_w]; rfl)
  refine pure_ (i := 20) (N := some 85) (v := ?_) (a' := ?_) (bL 67 2097151) rfl rfl (any_of HT_.out (by kernel_rfl)) (fun _ _ _ h => h) (Or.inl ⟨by rfl, ?_⟩) ?_ ?_; rotate_left; (intro w'; go_simp; with_reducible rfl); rotate_left; (simp only [Act.put, act1, act2, act3, i64_w, i32_w]; rfl)
  refine pure_ (i := 21) (N := some 86) (v := ?_) (a' := ?_) (bL 67 4194303) rfl rfl (any_of HT_.out (by kernel_rfl)) (fun _ _ _ h => h) (Or.inl ⟨by rfl, ?_⟩) ?_ ?_; rotate_left; (intro w'; go_simp; with_reducible rfl); rotate_left; (simp only [Act.put, act1, act2, act3, i64_w, i32_w]; rfl)
  refine pure_ (i := 22) (N := some 87) (v := ?_) (a' := ?_) (bL 67 8388607) rfl rfl (any_of HT_.out (by kernel_rfl)) (fun _ _ _ h => h) (Or.inl ⟨by rfl, ?_⟩) ?_ ?_; rotate_left; (intro w'; go_simp; with_reducible rfl); rotate_left; (simp only [Act.put, act1, act2, act3, i64_w, i32_w]; rfl)
  refine take_ (i := 23) (N := some 88) (v := ?_) (a' := ?_) (bL 67 16777215) rfl rfl (take_ofW HT_.out HW_.out (by kernel_rfl)) (fun _ _ _ h => h) (Or.inl ⟨by rfl, ?_⟩) hHeld ?_ ?_; rotate_left; (rintro w' ⟨s0, s1, s2⟩; go_simp; with_reducible rfl); rotate_left; (simp only [Act.put, act1, act2, act3, i64_w, i32_w]; rfl)
  refine one_ (i := 24) (N := some 89) (bL 67 33554431) rfl rfl (one_of HT_.out (by kernel_rfl)) (by decide) (fun K hK => ?_)
  refine value_ (v := .slice (some ⟨y4.heap.size, 0, none⟩) 5 5) (w1 := y4.alloc (.cells #[.int .i64 0, .int .i64 0, .int .i64 0, .int .i64 0, .int .i64 0] 3 (0, 0))) (by rfl) rfl (by have hmk := mk5 y4; first | (go_simp; done) | (go_simp; rfl)) ?_
  have hb : Below y4.heap.size y4 (y4.alloc (.cells #[.int .i64 0, .int .i64 0, .int .i64 0, .int .i64 0, .int .i64 0] 3 (0, 0))) := below_alloc (Below.refl _ _) _
  have KN := Aside0.mk (C_small [0, 0, 0, 0, 0] (by decide) (blk_new y4 (.cells #[.int .i64 0, .int .i64 0, .int .i64 0, .int .i64 0, .int .i64 0] 3 (0, 0))))
  refine hK.out _ _ ⟨pw_cell_below hb hHeld.1, pw_cell_below hb hHeld.2.1, ⟨below_then hHeld.2.2.out hHeld.2.2.out.size hb⟩⟩ (fun hHeld => ?_)
  clear hb
  generalize y4.alloc (.cells #[.int .i64 0, .int .i64 0, .int .i64 0, .int .i64 0, .int .i64 0] 3 (0, 0)) = y5 at KN hHeld ⊢
  generalize y4.heap.size = k5 at KN ⊢
  clear hK K
  refine norm_ (a' := ?_) ?_ ?_
  rotate_left
  · show Act.put _ (some 89) _ = _
    simp only [Act.put, List.setIfInBounds_toArray, List.set_cons_zero, List.set_cons_succ, i64_w, i32_w]
    rfl
  refine one_ (i := 25) (N := some 90) (bL 67 67108863) rfl rfl (one_of HT_.out (by kernel_rfl)) (by decide) (fun K hK => ?_)
  refine goes_ Try.func21 (by kernel_rfl) rfl #[.slice A2 5 c2, .slice (some ⟨k5, 0, none⟩) 5 5] (by rfl) rfl rfl (by (try simp only [List.map_toArray, List.map_cons, List.map_nil]); first | done | rfl) ?_
  refine (same3_at y5 A2 (some ⟨k5, 0, none⟩) c2 5 (Kd.C_below CN.out hHeld.2.2.out) QC2.out KN.out (by decide)).mono ?_
  rintro e y6 ⟨rfl, hb⟩
  refine ⟨_, rfl, ?_⟩
  refine hK.out _ _ ⟨pw_cell_below hb hHeld.1, pw_cell_below hb hHeld.2.1, ⟨below_then hHeld.2.2.out hHeld.2.2.out.size hb⟩⟩ (fun hHeld => ?_)
  clear hb
  clear hK K
  refine norm_ (a' := ?_) ?_ ?_
  rotate_left
  · show Act.put _ (some 90) _ = _
    simp only [Act.put, List.setIfInBounds_toArray, List.set_cons_zero, List.set_cons_succ, i64_w, i32_w]
    rfl
  clear KN
  refine pure_ (i := 26) (N := some 91) (v := ?_) (a' := ?_) (bL 67 134217727) rfl rfl (any_of HT_.out (by kernel_rfl)) (fun _ _ _ h => h) (Or.inl ⟨by rfl, ?_⟩) ?_ ?_; rotate_left; (intro w'; go_simp; with_reducible rfl); rotate_left; (simp only [Act.put, act1, act2, act3, i64_w, i32_w]; rfl)
  refine pure_ (i := 27) (N := some 92) (v := ?_) (a' := ?_) (bL 67 268435455) rfl rfl (any_of HT_.out (by kernel_rfl)) (fun _ _ _ h => h) (Or.inl ⟨by rfl, ?_⟩) ?_ ?_; rotate_left; (intro w'; go_simp; with_reducible rfl); rotate_left; (simp only [Act.put, act1, act2, act3, i64_w, i32_w]; rfl)
  refine pure_ (i := 28) (N := some 93) (v := ?_) (a' := ?_) (bL 67 536870911) rfl rfl (any_of HT_.out (by kernel_rfl)) (fun _ _ _ h => h) (Or.inl ⟨by rfl, ?_⟩) ?_ ?_; rotate_left; (intro w'; go_simp; with_reducible rfl); rotate_left; (simp only [Act.put, act1, act2, act3, i64_w, i32_w]; rfl)
  refine pure_ (i := 29) (N := some 94) (v := ?_) (a' := ?_) (bL 67 1073741823) rfl rfl (any_of HT_.out (by kernel_rfl)) (fun _ _ _ h => h) (Or.inl ⟨by rfl, ?_⟩) ?_ ?_; rotate_left; (intro w'; go_simp; with_reducible rfl); rotate_left; (simp only [Act.put, act1, act2, act3, i64_w, i32_w]; rfl)
  refine pure_ (i := 30) (N := some 95) (v := ?_) (a' := ?_) (bL 67 2147483647) rfl rfl (any_of HT_.out (by kernel_rfl)) (fun _ _ _ h => h) (Or.inl ⟨by rfl, ?_⟩) ?_ ?_; rotate_left; (intro w'; go_simp; with_reducible rfl); rotate_left; (simp only [Act.put, act1, act2, act3, i64_w, i32_w]; rfl)
  refine pure_ (i := 31) (N := some 96) (v := ?_) (a' := ?_) (bL 67 4294967295) rfl rfl (any_of HT_.out (by kernel_rfl)) (fun _ _ _ h => h) (Or.inl ⟨by rfl, ?_⟩) ?_ ?_; rotate_left; (intro w'; go_simp; with_reducible rfl); rotate_left; (simp only [Act.put, act1, act2, act3, i64_w, i32_w]; rfl)
  refine pure_ (i := 32) (N := some 97) (v := ?_) (a' := ?_) (bL 67 8589934591) rfl rfl (any_of HT_.out (by kernel_rfl)) (fun _ _ _ h => h) (Or.inl ⟨by rfl, ?_⟩) ?_ ?_; rotate_left; (intro w'; go_simp; with_reducible rfl); rotate_left; (simp only [Act.put, act1, act2, act3, i64_w, i32_w]; rfl)
  refine pure_ (i := 33) (N := some 98) (v := ?_) (a' := ?_) (bL 67 17179869183) rfl rfl (any_of HT_.out (by kernel_rfl)) (fun _ _ _ h => h) (Or.inl ⟨by rfl, ?_⟩) ?_ ?_; rotate_left; (intro w'; go_simp; with_reducible rfl); rotate_left; (simp only [Act.put, act1, act2, act3, i64_w, i32_w]; rfl)
  refine pure_ (i := 34) (N := some 99) (v := ?_) (a' := ?_) (bL 67 34359738367) rfl rfl (any_of HT_.out (by kernel_rfl)) (fun _ _ _ h => h) (Or.inl ⟨by rfl, ?_⟩) ?_ ?_; rotate_left; (intro w'; go_simp; with_reducible rfl); rotate_left; (simp only [Act.put, act1, act2, act3, i64_w, i32_w]; rfl)
  refine pure_ (i := 35) (N := some 100) (v := ?_) (a' := ?_) (bL 67 68719476735) rfl rfl (any_of HT_.out (by kernel_rfl)) (fun _ _ _ h => h) (Or.inl ⟨by rfl, ?_⟩) ?_ ?_; rotate_left; (intro w'; go_simp; with_reducible rfl); rotate_left; (simp only [Act.put, act1, act2, act3, i64_w, i32_w]; rfl)
  refine pure_ (i := 36) (N := some 101) (v := ?_) (a' := ?_) (bL 67 137438953471) rfl rfl (any_of HT_.out (by kernel_rfl)) (fun _ _ _ h => h) (Or.inl ⟨by rfl, ?_⟩) ?_ ?_; rotate_left; (intro w'; go_simp; with_reducible rfl); rotate_left; (simp only [Act.put, act1, act2, act3, i64_w, i32_w]; rfl)
  refine pure_ (i := 37) (N := some 102) (v := ?_) (a' := ?_) (bL 67 274877906943) rfl rfl (any_of HT_.out (by kernel_rfl)) (fun _ _ _ h => h) (Or.inl ⟨by rfl, ?_⟩) ?_ ?_; rotate_left; (intro w'; go_simp; with_reducible rfl); rotate_left; (simp only [Act.put, act1, act2, act3, i64_w, i32_w]; rfl)
  refine pure_ (i := 38) (N := some 103) (v := ?_) (a' := ?_) (bL 67 549755813887) rfl rfl (any_of HT_.out (by kernel_rfl)) (fun _ _ _ h => h) (Or.inl ⟨by rfl, ?_⟩) ?_ ?_; rotate_left; (intro w'; go_simp; with_reducible rfl); rotate_left; (simp only [Act.put, act1, act2, act3, i64_w, i32_w]; rfl)
  refine pure_ (i := 39) (N := some 104) (v := ?_) (a' := ?_) (bL 67 1099511627775) rfl rfl (any_of HT_.out (by kernel_rfl)) (fun _ _ _ h => h) (Or.inl ⟨by rfl, ?_⟩) ?_ ?_; rotate_left; (intro w'; go_simp; with_reducible rfl); rotate_left; (simp only [Act.put, act1, act2, act3, i64_w, i32_w]; rfl)
  refine pure_ (i := 40) (N := some 105) (v := ?_) (a' := ?_) (bL 67 2199023255551) rfl rfl (any_of HT_.out (by kernel_rfl)) (fun _ _ _ h => h) (Or.inl ⟨by rfl, ?_⟩) ?_ ?_; rotate_left; (intro w'; go_simp; with_reducible rfl); rotate_left; (simp only [Act.put, act1, act2, act3, i64_w, i32_w]; rfl)
  refine pure_ (i := 41) (N := some 106) (v := ?_) (a' := ?_) (bL 67 4398046511103) rfl rfl (any_of HT_.out (by kernel_rfl)) (fun _ _ _ h => h) (Or.inl ⟨by rfl, ?_⟩) ?_ ?_; rotate_left; (intro w'; go_simp; with_reducible rfl); rotate_left; (simp only [Act.put, act1, act2, act3, i64_w, i32_w]; rfl)
  refine pure_ (i := 42) (N := some 107) (v := ?_) (a' := ?_) (bL 67 8796093022207) rfl rfl (any_of HT_.out (by kernel_rfl)) (fun _ _ _ h => h) (Or.inl ⟨by rfl, ?_⟩) ?_ ?_; rotate_left; (intro w'; go_simp; with_reducible rfl); rotate_left; (simp only [Act.put, act1, act2, act3, i64_w, i32_w]; rfl)
  refine pure_ (i := 43) (N := some 108) (v := ?_) (a' := ?_) (bL 67 17592186044415) rfl rfl (any_of HT_.out (by kernel_rfl)) (fun _ _ _ h => h) (Or.inl ⟨by rfl, ?_⟩) ?_ ?_; rotate_left; (intro w'; go_simp; with_reducible rfl); rotate_left; (simp only [Act.put, act1, act2, act3, i64_w, i32_w]; rfl)
  refine one_ (i := 44) (N := some 109) (bL 67 35184372088831) rfl rfl (one_of HT_.out (by kernel_rfl)) (by decide) (fun K hK => ?_)
  refine goes_ Try.func11 (by kernel_rfl) rfl #[] (by rfl) rfl rfl (by (try simp only [List.map_toArray, List.map_cons, List.map_nil]); first | done | rfl) ?_
  refine (new_at y6).mono ?_
  rintro e y7 ⟨A7, c7, rfl, hC, hc, hb⟩
  refine ⟨_, rfl, ?_⟩
  have NC := Aside0.mk hC
  clear hC hc
  refine hK.out _ _ ⟨pw_cell_below hb hHeld.1, pw_cell_below hb hHeld.2.1, ⟨below_then hHeld.2.2.out hHeld.2.2.out.size hb⟩⟩ (fun hHeld => ?_)
  clear hb
  clear hK K
  refine norm_ (a' := ?_) ?_ ?_
  rotate_left
  · show Act.put _ (some 109) _ = _
    simp only [Act.put, List.setIfInBounds_toArray, List.set_cons_zero, List.set_cons_succ, i64_w, i32_w]
    rfl
  refine one_ (i := 45) (N := some 110) (bL 67 70368744177663) rfl rfl (one_of HT_.out (by kernel_rfl)) (by decide) (fun K hK => ?_)
  refine goes_ Try.func15 (by kernel_rfl) rfl #[.agg #[.slice A7 5 c7]] (by rfl) rfl rfl (by (try simp only [List.map_toArray, List.map_cons, List.map_nil]); first | done | rfl) ?_
  refine (val1_at y7 A7 c7 NC.out).mono ?_
  rintro e y8 ⟨rfl, hb⟩
  refine ⟨_, rfl, ?_⟩
  refine hK.out _ _ ⟨pw_cell_below hb hHeld.1, pw_cell_below hb hHeld.2.1, ⟨below_then hHeld.2.2.out hHeld.2.2.out.size hb⟩⟩ (fun hHeld => ?_)
  clear hb
  clear hK K
  refine norm_ (a' := ?_) ?_ ?_
  rotate_left
  · show Act.put _ (some 110) _ = _
    simp only [Act.put, List.setIfInBounds_toArray, List.set_cons_zero, List.set_cons_succ, i64_w, i32_w]
    rfl
  clear NC
  refine pure_ (i := 46) (N := some 111) (v := ?_) (a' := ?_) (bL 67 140737488355327) rfl rfl (any_of HT_.out (by kernel_rfl)) (fun _ _ _ h => h) (Or.inl ⟨by rfl, ?_⟩) ?_ ?_; rotate_left; (intro w'; go_simp; with_reducible rfl); rotate_left; (simp only [Act.put, act1, act2, act3, i64_w, i32_w]; rfl)
  refine pure_ (i := 47) (N := some 112) (v := ?_) (a' := ?_) (bL 67 281474976710655) rfl rfl (any_of HT_.out (by kernel_rfl)) (fun _ _ _ h => h) (Or.inl ⟨by rfl, ?_⟩) ?_ ?_; rotate_left; (intro w'; go_simp; with_reducible rfl); rotate_left; (simp only [Act.put, act1, act2, act3, i64_w, i32_w]; rfl)
  refine one_ (i := 48) (N := some 113) (bL 67 562949953421311) rfl rfl (one_of HT_.out (by kernel_rfl)) (by decide) (fun K hK => ?_)
  refine value_ (v := .slice (some ⟨y8.heap.size, 0, none⟩) 5 5) (w1 := y8.alloc (.cells #[.int .i64 0, .int .i64 0, .int .i64 0, .int .i64 0, .int .i64 1001] 3 (0, 0))) (by rfl) rfl (by have hmk := mk5 y8; first | (go_simp; done) | (go_simp; rfl)) ?_
  have hb : Below y8.heap.size y8 (y8.alloc (.cells #[.int .i64 0, .int .i64 0, .int .i64 0, .int .i64 0, .int .i64 1001] 3 (0, 0))) := below_alloc (Below.refl _ _) _
  have KN := Aside0.mk (C_small [0, 0, 0, 0, 1001] (by decide) (blk_new y8 (.cells #[.int .i64 0, .int .i64 0, .int .i64 0, .int .i64 0, .int .i64 1001] 3 (0, 0))))
  refine hK.out _ _ ⟨pw_cell_below hb hHeld.1, pw_cell_below hb hHeld.2.1, ⟨below_then hHeld.2.2.out hHeld.2.2.out.size hb⟩⟩ (fun hHeld => ?_)
  clear hb
  generalize y8.alloc (.cells #[.int .i64 0, .int .i64 0, .int .i64 0, .int .i64 0, .int .i64 1001] 3 (0, 0)) = y9 at KN hHeld ⊢
  generalize y8.heap.size = k9 at KN ⊢
  clear hK K
  refine norm_ (a' := ?_) ?_ ?_
  rotate_left
  · show Act.put _ (some 113) _ = _
    simp only [Act.put, List.setIfInBounds_toArray, List.set_cons_zero, List.set_cons_succ, i64_w, i32_w]
    rfl
  refine pure_ (i := 49) (N := some 114) (v := ?_) (a' := ?_) (bL 67 1125899906842623) rfl rfl (any_of HT_.out (by kernel_rfl)) (fun _ _ _ h => h) (Or.inl ⟨by rfl, ?_⟩) ?_ ?_; rotate_left; (intro w'; go_simp; with_reducible rfl); rotate_left; (simp only [Act.put, act1, act2, act3, i64_w, i32_w]; rfl)
  refine one_ (i := 50) (N := some 115) (bL 67 2251799813685247) rfl rfl (one_of HT_.out (by kernel_rfl)) (by decide) (fun K hK => ?_)
  refine goes_ Try.func15 (by kernel_rfl) rfl #[.agg #[.slice (some ⟨k9, 0, none⟩) 5 5]] (by rfl) rfl rfl (by (try simp only [List.map_toArray, List.map_cons, List.map_nil]); first | done | rfl) ?_
  refine (val2_at y9 (some ⟨k9, 0, none⟩) 5 KN.out).mono ?_
  rintro e y10 ⟨rfl, hb⟩
  refine ⟨_, rfl, ?_⟩
  refine hK.out _ _ ⟨pw_cell_below hb hHeld.1, pw_cell_below hb hHeld.2.1, ⟨below_then hHeld.2.2.out hHeld.2.2.out.size hb⟩⟩ (fun hHeld => ?_)
  clear hb
  clear hK K
  refine norm_ (a' := ?_) ?_ ?_
  rotate_left
  · show Act.put _ (some 115) _ = _
    simp only [Act.put, List.setIfInBounds_toArray, List.set_cons_zero, List.set_cons_succ, i64_w, i32_w]
    rfl
  clear KN
  refine pure_ (i := 51) (N := some 116) (v := ?_) (a' := ?_) (bL 67 4503599627370495) rfl rfl (any_of HT_.out (by kernel_rfl)) (fun _ _ _ h => h) (Or.inl ⟨by rfl, ?_⟩) ?_ ?_; rotate_left; (intro w'; go_simp; with_reducible rfl); rotate_left; (simp only [Act.put, act1, act2, act3, i64_w, i32_w]; rfl)
  refine pure_ (i := 52) (N := some 117) (v := ?_) (a' := ?_) (bL 67 9007199254740991) rfl rfl (any_of HT_.out (by kernel_rfl)) (fun _ _ _ h => h) (Or.inl ⟨by rfl, ?_⟩) ?_ ?_; rotate_left; (intro w'; go_simp; with_reducible rfl); rotate_left; (simp only [Act.put, act1, act2, act3, i64_w, i32_w]; rfl)
  refine pure_ (i := 53) (N := some 118) (v := ?_) (a' := ?_) (bL 67 18014398509481983) rfl rfl (any_of HT_.out (by kernel_rfl)) (fun _ _ _ h => h) (Or.inl ⟨by rfl, ?_⟩) ?_ ?_; rotate_left; (intro w'; go_simp; with_reducible rfl); rotate_left; (simp only [Act.put, act1, act2, act3, i64_w, i32_w]; rfl)
  refine one_ (i := 54) (N := some 119) (bL 67 36028797018963967) rfl rfl (one_of HT_.out (by kernel_rfl)) (by decide) (fun K hK => ?_)
  refine goes_ Try.func17 (by kernel_rfl) rfl #[.int .i64 1] (by rfl) rfl rfl (by (try simp only [List.map_toArray, List.map_cons, List.map_nil]); first | done | rfl) ?_
  refine (wgt1_at y10).mono ?_
  rintro e y11 ⟨rfl, hb⟩
  refine ⟨_, rfl, ?_⟩
  refine hK.out _ _ ⟨pw_cell_below hb hHeld.1, pw_cell_below hb hHeld.2.1, ⟨below_then hHeld.2.2.out hHeld.2.2.out.size hb⟩⟩ (fun hHeld => ?_)
  clear hb
  clear hK K
  refine norm_ (a' := ?_) ?_ ?_
  rotate_left
  · show Act.put _ (some 119) _ = _
    simp only [Act.put, List.setIfInBounds_toArray, List.set_cons_zero, List.set_cons_succ, i64_w, i32_w]
    rfl
  refine pure_ (i := 55) (N := some 120) (v := ?_) (a' := ?_) (bL 67 72057594037927935) rfl rfl (any_of HT_.out (by kernel_rfl)) (fun _ _ _ h => h) (Or.inl ⟨by rfl, ?_⟩) ?_ ?_; rotate_left; (intro w'; go_simp; with_reducible rfl); rotate_left; (simp only [Act.put, act1, act2, act3, i64_w, i32_w]; rfl)
  refine pure_ (i := 56) (N := some 121) (v := ?_) (a' := ?_) (bL 67 144115188075855871) rfl rfl (any_of HT_.out (by kernel_rfl)) (fun _ _ _ h => h) (Or.inl ⟨by rfl, ?_⟩) ?_ ?_; rotate_left; (intro w'; go_simp; with_reducible rfl); rotate_left; (simp only [Act.put, act1, act2, act3, i64_w, i32_w]; rfl)
  refine pure_ (i := 57) (N := some 122) (v := ?_) (a' := ?_) (bL 67 288230376151711743) rfl rfl (any_of HT_.out (by kernel_rfl)) (fun _ _ _ h => h) (Or.inl ⟨by rfl, ?_⟩) ?_ ?_; rotate_left; (intro w'; go_simp; with_reducible rfl); rotate_left; (simp only [Act.put, act1, act2, act3, i64_w, i32_w]; rfl)
  refine one_ (i := 58) (N := some 123) (bL 67 576460752303423487) rfl rfl (one_of HT_.out (by kernel_rfl)) (by decide) (fun K hK => ?_)
  refine goes_ Try.func17 (by kernel_rfl) rfl #[.int .i64 6] (by rfl) rfl rfl (by (try simp only [List.map_toArray, List.map_cons, List.map_nil]); first | done | rfl) ?_
  refine (wgt6_at y11).mono ?_
  rintro e y12 ⟨rfl, hb⟩
  refine ⟨_, rfl, ?_⟩
  refine hK.out _ _ ⟨pw_cell_below hb hHeld.1, pw_cell_below hb hHeld.2.1, ⟨below_then hHeld.2.2.out hHeld.2.2.out.size hb⟩⟩ (fun hHeld => ?_)
  clear hb
  clear hK K
  refine norm_ (a' := ?_) ?_ ?_
  rotate_left
  · show Act.put _ (some 123) _ = _
    simp only [Act.put, List.setIfInBounds_toArray, List.set_cons_zero, List.set_cons_succ, i64_w, i32_w]
    rfl
  refine pure_ (i := 59) (N := some 124) (v := ?_) (a' := ?_) (bL 67 1152921504606846975) rfl rfl (any_of HT_.out (by kernel_rfl)) (fun _ _ _ h => h) (Or.inl ⟨by rfl, ?_⟩) ?_ ?_; rotate_left; (intro w'; go_simp; with_reducible rfl); rotate_left; (simp only [Act.put, act1, act2, act3, i64_w, i32_w]; rfl)
  refine pure_ (i := 60) (N := some 125) (v := ?_) (a' := ?_) (bL 67 2305843009213693951) rfl rfl (any_of HT_.out (by kernel_rfl)) (fun _ _ _ h => h) (Or.inl ⟨by rfl, ?_⟩) ?_ ?_; rotate_left; (intro w'; go_simp; with_reducible rfl); rotate_left; (simp only [Act.put, act1, act2, act3, i64_w, i32_w]; rfl)
  refine pure_ (i := 61) (N := some 126) (v := ?_) (a' := ?_) (bL 67 4611686018427387903) rfl rfl (any_of HT_.out (by kernel_rfl)) (fun _ _ _ h => h) (Or.inl ⟨by rfl, ?_⟩) ?_ ?_; rotate_left; (intro w'; go_simp; with_reducible rfl); rotate_left; (simp only [Act.put, act1, act2, act3, i64_w, i32_w]; rfl)
  refine pure_ (i := 62) (N := some 127) (v := ?_) (a' := ?_) (bL 67 9223372036854775807) rfl rfl (any_of HT_.out (by kernel_rfl)) (fun _ _ _ h => h) (Or.inl ⟨by rfl, ?_⟩) ?_ ?_; rotate_left; (intro w'; go_simp; with_reducible rfl); rotate_left; (simp only [Act.put, act1, act2, act3, i64_w, i32_w]; rfl)
  refine one_ (i := 63) (N := some 128) (bL 67 18446744073709551615) rfl rfl (one_of HT_.out (by kernel_rfl)) (by decide) (fun K hK => ?_)
  refine goes_ Try.func19 (by kernel_rfl) rfl #[.slice (some ⟨bm, 0, none⟩) 3 3] (by rfl) rfl rfl (by (try simp only [List.map_toArray, List.map_cons, List.map_nil]); first | done | rfl) ?_
  refine (urg1_at y12 (some ⟨bm, 0, none⟩) 3 (C58_of_block mS (by decide) (blk_below MK.out hHeld.2.2.out)) (by decide)).mono ?_
  rintro e y13 ⟨rfl, hb⟩
  refine ⟨_, rfl, ?_⟩
  refine hK.out _ _ ⟨pw_cell_below hb hHeld.1, pw_cell_below hb hHeld.2.1, ⟨below_then hHeld.2.2.out hHeld.2.2.out.size hb⟩⟩ (fun hHeld => ?_)
  clear hb
  clear hK K
  refine norm_ (a' := ?_) ?_ ?_
  rotate_left
  · show Act.put _ (some 128) _ = _
    simp only [Act.put, List.setIfInBounds_toArray, List.set_cons_zero, List.set_cons_succ, i64_w, i32_w]
    rfl
  refine pure_ (i := 64) (N := some 129) (v := ?_) (a' := ?_) (bL 67 36893488147419103231) rfl rfl (any_of HT_.out (by kernel_rfl)) (fun _ _ _ h => h) (Or.inl ⟨by rfl, ?_⟩) ?_ ?_; rotate_left; (intro w'; go_simp; with_reducible rfl); rotate_left; (simp only [Act.put, act1, act2, act3, i64_w, i32_w]; rfl)
  refine pure_ (i := 65) (N := some 130) (v := ?_) (a' := ?_) (bL 67 73786976294838206463) rfl rfl (any_of HT_.out (by kernel_rfl)) (fun _ _ _ h => h) (Or.inl ⟨by rfl, ?_⟩) ?_ ?_; rotate_left; (intro w'; go_simp; with_reducible rfl); rotate_left; (simp only [Act.put, act1, act2, act3, i64_w, i32_w]; rfl)
  refine pure_ (i := 66) (N := some 0) (v := ?_) (a' := ?_) (bL 67 147573952589676412927) rfl rfl (any_of HT_.out (by kernel_rfl)) (fun _ _ _ h => h) (Or.inl ⟨by rfl, ?_⟩) ?_ ?_; rotate_left; (intro w'; go_simp; with_reducible rfl); rotate_left; (simp only [Act.put, act1, act2, act3, i64_w, i32_w]; rfl)
  refine done_ (done_of HT_.out (by kernel_rfl)) ?_
  have HB := Aside0.mk (below_then BD.out BD.out.size hHeld.2.2.out)
  clear hHeld HT_ HW_
  go_wp2_with fail
  go_ret
  exact ⟨rfl, HB.out⟩

end Go.Proofs.Ytmpeekkbmfbjeaa
namespace Go.Proofs.Ytmpeekkbmfbjeaa.P
open Go.RowKit
def solventlaw37_sanity.f : Option Bool := some true
theorem solventlaw37_sanity.calls (r : Bool) (w : World) (h : solventlaw37_sanity.f = some r) : Calls Try.prog 10 #[] w fun e w' => e = .returned (.bool r) ∧ Below w.heap.size w w' := by
  obtain rfl := Option.some.inj h
  exact sanity_any w
end Go.Proofs.Ytmpeekkbmfbjeaa.P

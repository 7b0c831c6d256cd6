/- The walk of solventlaw37.SchedFair: it returns true. -/
import Derived.Test.YtmpeekkbmfbjeaaFairPure
import Derived.Test.YtmpeekkbmfbjeaaRefPure
import Derived.Test.YtmpeekkbmfbjeaaRxUrg
import Derived.Test.YtmpeekkbmfbjeaaSanity
import Derived.ChangeKeysEq
namespace Go.Proofs.Ytmpeekkbmfbjeaa
open Go.RowKit Go.Lib Go.Proofs.Ytmpeekkbmfbjeaa.P Go.Proofs.YtmpeekkbmfbjeaaW.PrintWords Go.Proofs.YtmpeekkbmfbjeaaW.PrintLast Go.Proofs.YtmpeekkbmfbjeaaW.PrintMore
set_option linter.unusedVariables false
set_option linter.unusedSimpArgs false

def frR9.T : Bool × List (List Nat × List Nat) := (true, [([], []), ([], []), ([1], [1]), ([2], [2]), ([], []), ([4], [4]), ([5], [5]), ([6], [6]), ([3, 7], [3, 7]), ([0, 8], [0, 8]), ([9, 3, 0, 1, 2, 3, 4, 5, 6, 7, 8, 9], [0, 9])])
def frR9.B : List Nat := [0, 0, 2, 6, 0, 16, 48, 112, 254, 511, 1023]
theorem frR9.tab : rtab .any (opsOf Try.f9 9) = frR9.T := by kernel_rfl
theorem frR9.bits : waitsOk frR9.T.2 frR9.B = true := by kernel_rfl
def frR10.T : Bool × List (List Nat × List Nat) := (true, [([], []), ([0], [0]), ([], []), ([2], [2]), ([3], [3]), ([1, 0, 1, 2, 3, 4], [1]), ([5, 4, 4, 0, 1, 2, 3, 4], [4, 5])])
def frR10.B : List Nat := [0, 1, 0, 4, 12, 31, 63]
theorem frR10.tab : rtab .any (opsOf Try.f9 10) = frR10.T := by kernel_rfl
theorem frR10.bits : waitsOk frR10.T.2 frR10.B = true := by kernel_rfl
def frR15.T : Bool × List (List Nat × List Nat) := (true, [([], []), ([], []), ([1], [1]), ([0, 2, 2], [0, 2]), ([3], [3]), ([4], [4]), ([4], [4]), ([4], [4]), ([], []), ([8, 5, 3, 0, 1, 2, 3, 4, 5, 8], [5, 8]), ([6, 9, 0, 1, 2, 3, 4, 5, 6, 8, 9], [6]), ([7, 10, 0, 1, 2, 3, 4, 5, 6, 7, 8, 9, 10], [7])])
def frR15.B : List Nat := [0, 0, 2, 7, 15, 31, 31, 31, 0, 319, 895, 2047]
theorem frR15.tab : rtab .any (opsOf Try.f9 15) = frR15.T := by kernel_rfl
theorem frR15.bits : waitsOk frR15.T.2 frR15.B = true := by kernel_rfl
def frR21.T : Bool × List (List Nat × List Nat) := (true, [([], []), ([0, 0], [0]), ([1], [1]), ([1], [1]), ([2, 3, 1], [1, 2, 3]), ([1, 4], [1, 4]), ([5, 1], [5]), ([6], [6]), ([7, 6], [6, 7]), ([6], [6]), ([8, 9, 6, 6], [6, 8, 9]), ([6, 10], [6, 10]), ([11, 10, 0, 1, 2, 3, 4, 5, 6, 7, 8, 9, 10, 11], [11])])
def frR21.B : List Nat := [0, 1, 3, 3, 15, 31, 63, 127, 255, 127, 1023, 2047, 4095]
theorem frR21.tab : rtab .any (opsOf Try.f9 21) = frR21.T := by kernel_rfl
theorem frR21.bits : waitsOk frR21.T.2 frR21.B = true := by kernel_rfl

def ai (l : List Int) : Array Value := (l.map (Value.int .i64)).toArray
theorem ai_cell {w : World} {g : Nat} {W : List Int} (h : w.heap[g]? = some (.cells (ai W) 56 (0, 0))) (k : Nat) (hk : k < W.length) : w.cell? ⟨g, k, none⟩ = some (.int .i64 (rd W (k : Int))) := by
  rw [blk_cell h k]
  unfold ai
  rw [List.getElem?_toArray, List.getElem?_map, List.getElem?_eq_getElem hk]
  simp [rd, List.getD_eq_getElem?_getD, hk]
theorem ai_set (W : List Int) (k : Nat) (v : Int) : (ai W).setIfInBounds k (.int .i64 v) = ai (W.set k v) := by
  unfold ai
  rw [List.setIfInBounds_toArray, List.map_set]
theorem wSt_bd (l : List S52) (i : Nat) (hi : i ≤ l.length) {W : List Int} {S : Int} (h : wSt l i = (W, S)) : W.length = 6 ∧ 0 ≤ S ∧ S ≤ 10 ∧ ∀ j : Nat, j < 6 → 0 ≤ rd W (j : Int) ∧ rd W (j : Int) ≤ 4 := by
  rw [wSt_eq l i hi] at h
  simp only [Prod.mk.injEq] at h
  obtain ⟨rfl, rfl⟩ := h
  have w0 : wg 0 = 4 := rfl
  have w1 : wg 1 = 2 := rfl
  have w2 : wg 2 = 2 := rfl
  have w3 : wg 3 = 1 := rfl
  have w4 : wg 4 = 1 := rfl
  have h0 := bi_cases (tk l i 0) 4
  have h1 := bi_cases (tk l i 1) 2
  have h2 := bi_cases (tk l i 2) 2
  have h3 := bi_cases (tk l i 3) 1
  have h4 := bi_cases (tk l i 4) 1
  refine ⟨rfl, ?_, ?_, fun j hj => ?_⟩
  · unfold sm; rw [w0, w1, w2, w3, w4]; omega
  · unfold sm; rw [w0, w1, w2, w3, w4]; omega
  · unfold wl
    have : j = 0 ∨ j = 1 ∨ j = 2 ∨ j = 3 ∨ j = 4 ∨ j = 5 := by omega
    rcases this with rfl | rfl | rfl | rfl | rfl | rfl
    · show 0 ≤ (0 : Int) ∧ (0 : Int) ≤ 4; omega
    · show 0 ≤ bi (tk l i 0) 4 ∧ bi (tk l i 0) 4 ≤ 4; omega
    · show 0 ≤ bi (tk l i 1) 2 ∧ bi (tk l i 1) 2 ≤ 4; omega
    · show 0 ≤ bi (tk l i 2) 2 ∧ bi (tk l i 2) 2 ≤ 4; omega
    · show 0 ≤ bi (tk l i 3) 1 ∧ bi (tk l i 3) 1 ≤ 4; omega
    · show 0 ≤ bi (tk l i 4) 1 ∧ bi (tk l i 4) 1 ≤ 4; omega
theorem wStp_can {W : List Int} {S : Int} {t : S52} {k : Nat} (hk : t.f0 = (k : Int)) (hc : canP (tOwn t) = true) : wStp (W, S) t = (W.set k (wgt (k : Int)), S + (wgt (k : Int) - rd W (k : Int))) := by
  unfold wStp
  rw [if_pos hc, hk, Int.toNat_natCast]
theorem wStp_not {W : List Int} {S : Int} {t : S52} (hc : ¬ canP (tOwn t) = true) : wStp (W, S) t = (W, S) := by
  unfold wStp
  rw [if_neg hc]
theorem weightF_any (a : Int) (w : World) : Calls Try.prog 18 #[.int .i64 a] w fun e w' => e = .returned (.int .i64 (wgt a)) ∧ Below w.heap.size w w' := by
  have hf : solventref37_Weight.f 5 a = some (wgt a) := by
    unfold solventref37_Weight.f wgt
    by_cases h1 : a = 1
    · simp [h1]
    · rw [if_neg h1, if_neg h1]
      by_cases h2 : a = 2
      · simp [h2, solventref37_Weight.j0]
      · rw [if_neg h2, if_neg h2, solventref37_Weight.j0]
        by_cases h3 : a = 3
        · simp [h3]
        · simp only [beq_iff_eq, h3, if_false]
          (repeat' split) <;> rfl
  refine (solventref37_Weight.calls 5 a (wgt a) w hf).mono ?_
  rintro e w' ⟨rfl, hd⟩
  exact ⟨rfl, hd.below⟩
theorem new_R (W : World) : Calls Try.prog 11 #[] W fun e w' => ∃ g n, e = .returned (.agg #[.slice (some ⟨g, 0, none⟩) 5 n]) ∧ Crd w' g n [0, 0, 0, 0, 0] ∧ n ≤ maxLen ∧ Below W.heap.size W w' := by
  refine (schedule_New.calls [0, 0, 0, 0, 0] W rfl).mono ?_
  rintro e w' ⟨v, rfl, hR, hb⟩
  obtain ⟨g, n, rfl, _, hn, hC⟩ := Crd.of_R hR (by decide)
  exact ⟨g, n, rfl, hC, hn, hb⟩
theorem next_R (l : List S52) (cr c2 : List Int) (kk : Int) (W : World) (B : Option Addr) (d g n : Nat) (h60 : l.length ≤ 60) (hv : vOk cr = true) (hnx : nxt (l.map tOwn) (upto l.length) cr = (c2, kk)) (hC : Crd W g n cr) (hB : Kd.C k58 W B l.length (l.map tOwn)) (hd : l.length ≤ d) :
    Calls Try.prog 12 #[.agg #[.slice (some ⟨g, 0, none⟩) 5 n], .slice B l.length d] W fun e w' => ∃ g2 n2, e = .returned (.tuple #[.agg #[.slice (some ⟨g2, 0, none⟩) 5 n2], .int .i64 kk, .int .i64 0]) ∧ Crd w' g2 n2 c2 ∧ n2 ≤ maxLen ∧ Below W.heap.size W w' := by
  have hm : (l.map tOwn).length = l.length := List.length_map ..
  have h5 : cr.length = 5 := (vOk_COk hv).1
  have h52 : c2.length = 5 := by
    have h := (nxt_COk (l := l.map tOwn) (left := upto l.length) (vOk_COk hv)).1
    rw [hnx] at h
    exact h
  have hf : schedule_Next.f cr (l.map tOwn) = some (c2, kk, 0) := by
    unfold schedule_Next.f
    rw [if_pos hv, hm, if_pos h60, hnx]
  have h := schedule_Next.calls (some ⟨g, 0, none⟩) n cr B d (l.map tOwn) c2 kk 0 W (hC.C (by omega)) (by obtain ⟨cs, _, h2, _, h4⟩ := hC; exact h4) (by rw [hm]; exact hB) (by rw [hm]; exact hd) hf
  rw [h5, hm] at h
  refine h.mono ?_
  rintro e w' ⟨v, rfl, hR, hb⟩
  obtain ⟨g2, n2, rfl, _, hn, hC2⟩ := Crd.of_R hR (by omega)
  rw [h52]
  exact ⟨g2, n2, rfl, hC2, hn, hb⟩
theorem own_R (A : Option Addr) (c : Nat) (l : List S52) (W : World) (hl : Kd.C k52 W A l.length l) (hc : l.length ≤ c) (h60 : l.length ≤ 60) : Calls Try.prog 13 #[.slice A l.length c] W fun e w' => ∃ B d, e = .returned (.slice B l.length d) ∧ Kd.C k58 w' B l.length (l.map tOwn) ∧ l.length ≤ d ∧ Below W.heap.size W w' := by
  have hm : (l.map tOwn).length = l.length := List.length_map ..
  refine (solventlaw37_own.calls 200 A c l (l.map tOwn) W hl hc (own_f l (by omega) 200 (by omega))).mono ?_
  rintro e w' ⟨v, rfl, hR, hb⟩
  obtain ⟨B, d, rfl, hd, hC⟩ := Kd.R_reads hR
  rw [hm] at hC hd ⊢
  exact ⟨B, d, rfl, hC, hd, hb⟩
theorem cells3 : Try.prog.cellsOf 3 = 1 := by kernel_rfl
theorem eqA56 (w : World) (a0 a1 a2 a3 a4 a5 : Int) : (Op.equalIn 10000 56 (.agg #[.int .i64 a0, .int .i64 a1, .int .i64 a2, .int .i64 a3, .int .i64 a4, .int .i64 a5]) (.agg #[.int .i64 a0, .int .i64 a1, .int .i64 a2, .int .i64 a3, .int .i64 a4, .int .i64 a5])).run Try.prog w = .ok true w := by
  have hu3 := Try.underlying3
  obtain ⟨i3, hi3, _⟩ := Option.map_eq_some_iff.1 info3
  rw [run_equalIn_array w 9999 _ _ Try.underlying56 hi3, cells3]
  clear hi3
  simp only [List.range, List.range.loop]
  simp only [Op.eqItems]
  go_simp
theorem six {W : List Int} (h : W.length = 6) : ∃ a0 a1 a2 a3 a4 a5, W = [a0, a1, a2, a3, a4, a5] := by
  match W, h with
  | [a, b, c, d, e, f], _ => exact ⟨a, b, c, d, e, f, rfl⟩
theorem same_z (W : World) (g n kb : Nat) (hC : Crd W g n [0, 0, 0, 0, 0]) (hD : Kd.C (Kd.int .i64) W (some ⟨kb, 0, none⟩) 5 [0, 0, 0, 0, 0]) :
    Calls Try.prog 21 #[.slice (some ⟨g, 0, none⟩) 5 n, .slice (some ⟨kb, 0, none⟩) 5 5] W fun e w' => e = .returned (.bool true) ∧ Below W.heap.size W w' := by
  refine (solventref37_Same.calls 10 (some ⟨g, 0, none⟩) n [0, 0, 0, 0, 0] (some ⟨kb, 0, none⟩) 5 [0, 0, 0, 0, 0] true W (hC.C (by decide)) (by obtain ⟨cs, _, h2, _, h4⟩ := hC; exact h4) hD (by decide) (same_self _ (by decide) 10 (by decide))).mono ?_
  rintro e w' ⟨rfl, hd⟩
  exact ⟨rfl, hd.below⟩
theorem crd_ne {w : World} {g n g2 t : Nat} {cr : List Int} {cs : Array Value} (h : Crd w g n cr) (h2 : w.heap[g2]? = some (.cells cs t (0, 0))) (ht : 3 ≠ t) : g ≠ g2 := by
  obtain ⟨c, h1, _⟩ := h
  exact blk_ne h1 h2 ht
theorem can_iff (t : S52) : canP (tOwn t) = true ↔ (2 ≤ t.f0 ∧ t.f0 ≤ 5) ∨ (t.f0 = 1 ∧ 0 ≤ t.f2 ∧ 0 < t.f3) := by
  have e : canP (tOwn t) = (decide (wgt t.f0 > 0) && (decide (t.f0 ≠ 1) || (decide (t.f2 ≥ 0) && decide (t.f3 > 0)))) := rfl
  rw [e]
  constructor
  · intro h
    simp only [Bool.and_eq_true, Bool.or_eq_true, decide_eq_true_eq] at h
    have := wgt_pos h.1
    omega
  · intro h
    have hp : wgt t.f0 > 0 := by
      have : t.f0 = 1 ∨ t.f0 = 2 ∨ t.f0 = 3 ∨ t.f0 = 4 ∨ t.f0 = 5 := by omega
      rcases this with e | e | e | e | e <;> rw [e] <;> decide
    simp only [Bool.and_eq_true, Bool.or_eq_true, decide_eq_true_eq]
    exact ⟨hp, by omega⟩
theorem urgR_any (A : Option Addr) (c : Nat) (l : List S52) (w : World) (hl : Kd.C k52 w A l.length l) (hc : l.length ≤ c) (h60 : l.length ≤ 60) :
    Calls Try.prog 20 #[.slice A l.length c] w fun e w' => e = .returned (.int .i64 (bestU (l.map tOwn) (upto l.length))) ∧ Below w.heap.size w w' := by
  refine solventref37_Urgent.calls 200 A c l _ w hl hc ?_
  unfold solventref37_Urgent.f
  rw [if_pos (by omega), if_pos (by omega), Int.toNat_natCast, bst_urg l h60 _ (by simp) 200 (by decide)]
  have : leftOf l.length (List.replicate l.length false) = upto l.length := by
    unfold leftOf
    rw [List.filter_eq_self]
    intro x _
    have : rdOf false (List.replicate l.length false) x = false := by
      unfold rdOf
      rw [List.getD_eq_getElem?_getD, List.getElem?_replicate]
      split <;> rfl
    rw [this]; rfl
  rw [this]
  rfl

attribute [local go_sem high] eqA56
set_option maxHeartbeats 16000000 in
set_option maxRecDepth 1000000 in
theorem fair_any (A : Option Addr) (c : Nat) (l : List S52) (w : World) (hl : Kd.C k52 w A l.length l) (hc : l.length ≤ c) :
    Calls Try.prog 9 #[.slice A l.length c] w fun e w' => e = .returned (.bool true) ∧ Below w.heap.size w w' := by
  have hu52 := Try.underlying52
  have hu56 := Try.underlying56
  have hu26 := Try.underlying26
  have UR := Aside0.mk (fun (h60 : l.length ≤ 60) => urgR_any A c l w hl hc h60)
  have HL := Aside0.mk hl
  have HC := Aside0.mk hc
  clear hl hc
  go_enter Try.func9, Try.ntmps9
  by_cases h60 : (l.length : Int) > 60
  · have d60 : decide ((l.length : Int) > 60) = true := decide_eq_true h60
    go_wp2_with fail
    refine (sanity_any _).mono ?_
    rintro e w1 ⟨rfl, hb⟩
    go_wp2_with fail
    go_ret
    exact ⟨rfl, hb⟩
  have d60 : decide ((l.length : Int) > 60) = false := decide_eq_false h60
  have L60 := Aside0.mk (show l.length ≤ 60 by omega)
  clear h60
  go_wp2_with fail
  refine (UR.out L60.out).mono ?_
  rintro e w1 ⟨rfl, hb⟩
  have B1 := Aside0.mk hb
  clear hb UR
  by_cases hu : bestU (l.map tOwn) (upto l.length) ≥ 0
  · have hud : decide (bestU (l.map tOwn) (upto l.length) ≥ 0) = true := decide_eq_true hu
    go_wp2_with fail
    refine (sanity_any _).mono ?_
    rintro e w2 ⟨rfl, hb⟩
    go_wp2_with fail
    go_ret
    exact ⟨rfl, below_then B1.out B1.out.size hb⟩
  have hud : decide (bestU (l.map tOwn) (upto l.length) ≥ 0) = false := decide_eq_false hu
  have FP := Aside0.mk (fair_pure l (by omega))
  clear hu
  generalize bestU (l.map tOwn) (upto l.length) = u at hud ⊢
  go_wp2_with fail
  have Z6 : Aside0 (ai [0, 0, 0, 0, 0, 0] = #[.int .i64 0, .int .i64 0, .int .i64 0, .int .i64 0, .int .i64 0, .int .i64 0]) := ⟨rfl⟩
  obtain ⟨gw, hgw⟩ : ∃ gw, gw = w1.heap.size := ⟨_, rfl⟩
  have GW := Aside0.mk (show w.heap.size ≤ gw by rw [hgw]; exact B1.out.size)
  have W2 := Aside0.mk (blk_alloc (blk_new w1 (.cells (ai [0, 0, 0, 0, 0, 0]) 56 (0, 0))) (.cells (ai [0, 0, 0, 0, 0, 0]) 56 (0, 0)))
  have G2 := Aside0.mk (blk_new (w1.alloc (.cells (ai [0, 0, 0, 0, 0, 0]) 56 (0, 0))) (.cells (ai [0, 0, 0, 0, 0, 0]) 56 (0, 0)))
  have B2 := Aside0.mk (below_alloc (below_alloc B1.out (.cells (ai [0, 0, 0, 0, 0, 0]) 56 (0, 0))) (.cells (ai [0, 0, 0, 0, 0, 0]) 56 (0, 0)))
  rw [show (w1.alloc (.cells (ai [0, 0, 0, 0, 0, 0]) 56 (0, 0))).heap.size = w1.heap.size + 1 by simp, ← hgw] at G2
  rw [← hgw] at W2 ⊢
  rw [Z6.out] at W2 G2 B2
  generalize (w1.alloc (.cells #[.int .i64 0, .int .i64 0, .int .i64 0, .int .i64 0, .int .i64 0, .int .i64 0] 56 (0, 0))).alloc (.cells #[.int .i64 0, .int .i64 0, .int .i64 0, .int .i64 0, .int .i64 0, .int .i64 0] 56 (0, 0)) = w2 at W2 G2 B2 ⊢
  rw [← Z6.out] at W2 G2
  clear B1 hgw
  have W0 := Lib.hid (show wSt l 0 = ([0, 0, 0, 0, 0, 0], 0) from rfl)
  go_loopg [5, 23] l.length (fun gk vs vi wr => ∃ (i : Nat) (W : List Int) (S : Int), vs = .int .i64 S ∧ vi = .int .i64 (i : Int) ∧ i ≤ l.length ∧ l.length - i ≤ gk ∧ Hid (wSt l i = (W, S)) ∧ Aside0 (wr.heap[gw]? = some (.cells (ai W) 56 (0, 0))) ∧ Aside0 (wr.heap[gw + 1]? = some (.cells (ai [0, 0, 0, 0, 0, 0]) 56 (0, 0))) ∧ Aside0 (Below w.heap.size w wr))
  case atStart => exact ⟨0, _, 0, rfl, rfl, by omega, by omega, W0, W2, G2, B2⟩
  case round =>
    clear W0 W2 G2 B2
    obtain ⟨i, W, S, rfl, rfl, hi, hg1, WS, WW, GG, BD⟩ := hrel
    by_cases hlt : (i : Int) < (l.length : Int)
    · have hld : decide ((i : Int) < (l.length : Int)) = true := decide_eq_true hlt
      have h0 : (0 : Int) ≤ (i : Int) := by omega
      obtain ⟨ad, ead, x0, x1, x2, x3, x4⟩ := at_T52 HL.out (i : Int) h0 hlt
      cases ead
      rw [Int.toNat_natCast] at x0 x1 x2 x3 x4
      replace x0 := (BD.out.cell (World.block_lt_of_cell? w _ x0)).trans x0
      replace x1 := (BD.out.cell (World.block_lt_of_cell? w _ x1)).trans x1
      replace x2 := (BD.out.cell (World.block_lt_of_cell? w _ x2)).trans x2
      replace x3 := (BD.out.cell (World.block_lt_of_cell? w _ x3)).trans x3
      replace x4 := (BD.out.cell (World.block_lt_of_cell? w _ x4)).trans x4
      have NX := Lib.hid (show wSt l (i + 1) = wStp (W, S) (rd_T52 l (i : Int)) by rw [← WS.out]; rfl)
      obtain ⟨t, ht⟩ : ∃ t, t = rd_T52 l (i : Int) := ⟨_, rfl⟩
      rw [← ht] at x0 x1 x2 x3 x4 NX
      have HT := Lib.hid ht
      clear ht
      have BDS := Aside0.mk (wSt_bd l i hi WS.out)
      by_cases hc : canP (tOwn t) = true
      · have hc2 := (can_iff t).1 hc
        by_cases k1 : t.f0 = 1
        · obtain ⟨_, y2, y3⟩ : t.f0 = 1 ∧ 0 ≤ t.f2 ∧ 0 < t.f3 := by omega
          have d1 : decide (t.f0 ≥ 2) = false := decide_eq_false (by omega)
          have d2 : (t.f0 == 1) = true := by simp [k1]
          have d3 : decide (t.f2 ≥ 0) = true := decide_eq_true y2
          have d4 : decide (t.f3 > 0) = true := decide_eq_true y3
          have hk : t.f0 = ((1 : Nat) : Int) := k1
          have hk6 : 1 < 6 := by decide
          clear y2 y3 k1 hc2
          go_wp2_with fail
          have hb : Below wr.heap.size wr (wr.alloc (.cells #[.int .i64 1, .int .i64 t.f1.f0, .int .i64 t.f1.f1, .int .i64 t.f2, .int .i64 t.f3] 52 (0, 0))) := below_alloc (Below.refl _ _) _
          have BK := Aside0.mk (blk_new wr (.cells #[.int .i64 1, .int .i64 t.f1.f0, .int .i64 t.f1.f1, .int .i64 t.f2, .int .i64 t.f3] 52 (0, 0)))
          have GB := Aside0.mk BD.out.size
          replace BD := Aside0.mk (below_then BD.out BD.out.size hb)
          replace WW := Aside0.mk (blk_below WW.out hb)
          replace GG := Aside0.mk (blk_below GG.out hb)
          clear hb
          generalize wr.alloc (.cells #[.int .i64 1, .int .i64 t.f1.f0, .int .i64 t.f1.f1, .int .i64 t.f2, .int .i64 t.f3] 52 (0, 0)) = w3 at BD WW GG BK ⊢
          generalize wr.heap.size = gb at BK GB ⊢
          have NE := Aside0.mk (blk_ne WW.out BK.out (by decide))
          have c0 : w3.cell? ⟨gb, 0, none⟩ = some (.int .i64 1) := (blk_cell BK.out 0).trans rfl
          have c1 : w3.cell? ⟨gw, 1, none⟩ = some (.int .i64 (rd W 1)) := ai_cell WW.out 1 (by rw [BDS.out.1]; exact hk6)
          obtain ⟨x, hx⟩ : ∃ x, x = rd W 1 := ⟨_, rfl⟩
          obtain ⟨v, hv⟩ : ∃ v, v = wgt 1 := ⟨_, rfl⟩
          have hx0 : 0 ≤ rd W 1 ∧ rd W 1 ≤ 4 := BDS.out.2.2.2 1 hk6
          have hv0 := wgt_bd 1
          rw [← hx] at hx0 c1
          rw [← hv] at hv0
          have NW : Hid (wSt l (i + 1) = (W.set 1 (wgt 1), S + (wgt 1 - rd W 1))) := Lib.hid (NX.out.trans (wStp_can (k := 1) hk hc))
          rw [← hx, ← hv] at NW
          have HWt : Aside0 (∀ W : World, Calls Try.prog 18 #[.int .i64 1] W fun e w' => e = .returned (.int .i64 v) ∧ Below W.heap.size W w') := ⟨fun W => by rw [hv]; exact weightF_any _ W⟩
          have HX := Lib.hid hx
          have HV := Lib.hid hv
          have hs0 := BDS.out.2.1
          have hs1 := BDS.out.2.2.1
          clear hx hv NX
          have hi0 : (0 : Int) ≤ 1 := by omega
          have hi1 : 1 < 6 := by omega
          refine start_ (n := 11) (S := fun w' => w'.cell? ⟨gb, 0, none⟩ = some (.int .i64 1) ∧ w'.cell? ⟨gw, 1, none⟩ = some (.int .i64 x)) (ds := []) (bL 11 0) (by kernel_rfl) rfl (by kernel_rfl) ⟨c0, c1⟩ (fun hHeld => ?_)
          refine with_tabW frR9.tab frR9.bits (fun HT_ HW_ => ?_)
          have hb : Below w3.heap.size w3 w3.drew := below_drew1 (Below.refl _ _)
          replace BD := Aside0.mk (below_then BD.out BD.out.size hb)
          replace WW := Aside0.mk (blk_below WW.out hb)
          replace GG := Aside0.mk (blk_below GG.out hb)
          replace BK := Aside0.mk (blk_below BK.out hb)
          clear hb
          generalize w3.drew = w4 at BD WW GG BK hHeld ⊢
          clear c0 c1
          refine pure_ (i := 0) (N := some 50) (v := ?_) (a' := ?_) (bL 11 1) rfl rfl (any_of HT_.out (by kernel_rfl)) (fun _ _ _ h => h) (Or.inl ⟨by rfl, ?_⟩) ?_ ?_; rotate_left; (intro w'; go_simp; with_reducible rfl); rotate_left; (simp only [Act.put, act1, act2, act3, i64_w, i32_w]; rfl)
          refine pure_ (i := 1) (N := some 51) (v := ?_) (a' := ?_) (bL 11 3) rfl rfl (any_of HT_.out (by kernel_rfl)) (fun _ _ _ h => h) (Or.inl ⟨by rfl, ?_⟩) ?_ ?_; rotate_left; (intro w'; go_simp; with_reducible rfl); rotate_left; (simp only [Act.put, act1, act2, act3, i64_w, i32_w]; rfl)
          refine take_ (i := 2) (N := some 52) (v := ?_) (a' := ?_) (bL 11 7) rfl rfl (take_ofW HT_.out HW_.out (by kernel_rfl)) (fun _ _ _ h => h) (Or.inl ⟨by rfl, ?_⟩) hHeld ?_ ?_; rotate_left; (rintro w' ⟨s0, s1⟩; go_simp; with_reducible rfl); rotate_left; (simp only [Act.put, act1, act2, act3, i64_w, i32_w]; rfl)
          refine pure_ (i := 4) (N := some 54) (v := ?_) (a' := ?_) (bL 11 23) rfl rfl (any_of HT_.out (by kernel_rfl)) (fun _ _ _ h => h) (Or.inl ⟨by rfl, ?_⟩) ?_ ?_; rotate_left; (intro w'; go_simp; with_reducible rfl); rotate_left; (simp only [Act.put, act1, act2, act3, i64_w, i32_w]; rfl)
          refine take_ (i := 5) (N := some 55) (v := ?_) (a' := ?_) (bL 11 55) rfl rfl (take_ofW HT_.out HW_.out (by kernel_rfl)) (fun _ _ _ h => h) (Or.inl ⟨by rfl, ?_⟩) hHeld ?_ ?_; rotate_left; (rintro w' ⟨s0, s1⟩; go_simp; with_reducible rfl); rotate_left; (simp only [Act.put, act1, act2, act3, i64_w, i32_w]; rfl)
          refine pure_ (i := 6) (N := some 56) (v := ?_) (a' := ?_) (bL 11 119) rfl rfl (any_of HT_.out (by kernel_rfl)) (fun _ _ _ h => h) (Or.inl ⟨by rfl, ?_⟩) ?_ ?_; rotate_left; (intro w'; go_simp; with_reducible rfl); rotate_left; (simp only [Act.put, act1, act2, act3, i64_w, i32_w]; rfl)
          refine take_ (i := 7) (N := some 57) (v := ?_) (a' := ?_) (bL 11 247) rfl rfl (take_ofW HT_.out HW_.out (by kernel_rfl)) (fun _ _ _ h => h) (Or.inl ⟨by rfl, ?_⟩) hHeld ?_ ?_; rotate_left; (rintro w' ⟨s0, s1⟩; go_simp; with_reducible rfl); rotate_left; (simp only [Act.put, act1, act2, act3, i64_w, i32_w]; rfl)
          refine one_ (i := 3) (N := some 53) (bL 11 255) rfl rfl (one_of HT_.out (by kernel_rfl)) (by decide) (fun K hK => ?_)
          refine goes_ Try.func18 (by kernel_rfl) rfl #[.int .i64 1] (by rfl) rfl rfl (by (try simp only [List.map_toArray, List.map_cons, List.map_nil]); first | done | rfl) ?_
          refine (HWt.out _).mono ?_
          rintro e w5 ⟨rfl, hb⟩
          refine ⟨_, rfl, ?_⟩
          refine hK.out _ _ ⟨pw_cell_below hb hHeld.1, pw_cell_below hb hHeld.2⟩ (fun hHeld => ?_)
          replace BD := Aside0.mk (below_then BD.out BD.out.size hb)
          replace WW := Aside0.mk (blk_below WW.out hb)
          replace GG := Aside0.mk (blk_below GG.out hb)
          replace BK := Aside0.mk (blk_below BK.out hb)
          clear hb
          have hw1 : wrap64 (v - x) = v - x := wrap_in _ (by omega) (by omega)
          have hw2 : wrap64 (S + (v - x)) = S + (v - x) := wrap_in _ (by clear hw1; omega) (by clear hw1; omega)
          clear hK K
          refine norm_ (a' := ?_) ?_ ?_
          rotate_left
          · show Act.put _ (some 53) _ = _
            simp only [Act.put, List.setIfInBounds_toArray, List.set_cons_zero, List.set_cons_succ, i64_w, i32_w]
            rfl
          refine pure_ (i := 8) (N := some 58) (v := ?_) (a' := ?_) (bL 11 511) rfl rfl (any_of HT_.out (by kernel_rfl)) (fun _ _ _ h => h) (Or.inl ⟨by rfl, ?_⟩) ?_ ?_; rotate_left; (intro w'; go_simp; with_reducible rfl); rotate_left; (simp only [Act.put, act1, act2, act3, i64_w, i32_w]; rfl)
          refine pure_ (i := 9) (N := some 59) (v := ?_) (a' := ?_) (bL 11 1023) rfl rfl (any_of HT_.out (by kernel_rfl)) (fun _ _ _ h => h) (Or.inl ⟨by rfl, ?_⟩) ?_ ?_; rotate_left; (intro w'; go_simp; with_reducible rfl); rotate_left; (simp only [Act.put, act1, act2, act3, i64_w, i32_w]; rfl)
          refine pure_ (i := 10) (N := some 5) (v := ?_) (a' := ?_) (bL 11 2047) rfl rfl (any_of HT_.out (by kernel_rfl)) (fun _ _ _ h => h) (Or.inl ⟨by rfl, ?_⟩) ?_ ?_; rotate_left; (intro w'; go_simp; with_reducible rfl); rotate_left; (simp only [Act.put, act1, act2, act3, i64_w, i32_w]; rfl)
          refine done_ (done_of HT_.out (by kernel_rfl)) ?_
          clear HT_ HW_ hw1 hw2 hHeld
          go_wp2_with fail
          have c0 : w5.cell? ⟨gb, 0, none⟩ = some (.int .i64 1) := (blk_cell BK.out 0).trans rfl
          refine start_ (n := 7) (S := fun w' => w'.cell? ⟨gb, 0, none⟩ = some (.int .i64 1)) (ds := []) (bL 7 0) (by kernel_rfl) rfl (by kernel_rfl) c0 (fun hHeld => ?_)
          refine with_tabW frR10.tab frR10.bits (fun HT_ HW_ => ?_)
          have hb : Below w5.heap.size w5 w5.drew := below_drew1 (Below.refl _ _)
          replace BD := Aside0.mk (below_then BD.out BD.out.size hb)
          replace WW := Aside0.mk (blk_below WW.out hb)
          replace GG := Aside0.mk (blk_below GG.out hb)
          replace BK := Aside0.mk (blk_below BK.out hb)
          clear hb
          generalize w5.drew = w6 at BD WW GG BK hHeld ⊢
          clear c0
          refine pure_ (i := 0) (N := some 60) (v := ?_) (a' := ?_) (bL 7 1) rfl rfl (any_of HT_.out (by kernel_rfl)) (fun _ _ _ h => h) (Or.inl ⟨by rfl, ?_⟩) ?_ ?_; rotate_left; (intro w'; go_simp; with_reducible rfl); rotate_left; (simp only [Act.put, act1, act2, act3, i64_w, i32_w]; rfl)
          refine take_ (i := 1) (N := some 61) (v := ?_) (a' := ?_) (bL 7 3) rfl rfl (take_ofW HT_.out HW_.out (by kernel_rfl)) (fun _ _ _ h => h) (Or.inl ⟨by rfl, ?_⟩) hHeld ?_ ?_; rotate_left; (rintro w' s0; go_simp; with_reducible rfl); rotate_left; (simp only [Act.put, act1, act2, act3, i64_w, i32_w]; rfl)
          refine pure_ (i := 2) (N := some 62) (v := ?_) (a' := ?_) (bL 7 7) rfl rfl (any_of HT_.out (by kernel_rfl)) (fun _ _ _ h => h) (Or.inl ⟨by rfl, ?_⟩) ?_ ?_; rotate_left; (intro w'; go_simp; with_reducible rfl); rotate_left; (simp only [Act.put, act1, act2, act3, i64_w, i32_w]; rfl)
          refine take_ (i := 3) (N := some 63) (v := ?_) (a' := ?_) (bL 7 15) rfl rfl (take_ofW HT_.out HW_.out (by kernel_rfl)) (fun _ _ _ h => h) (Or.inl ⟨by rfl, ?_⟩) hHeld ?_ ?_; rotate_left; (rintro w' s0; go_simp; with_reducible rfl); rotate_left; (simp only [Act.put, act1, act2, act3, i64_w, i32_w]; rfl)
          refine one_ (i := 4) (N := some 64) (bL 7 31) rfl rfl (one_of HT_.out (by kernel_rfl)) (by decide) (fun K hK => ?_)
          refine goes_ Try.func18 (by kernel_rfl) rfl #[.int .i64 1] (by rfl) rfl rfl (by (try simp only [List.map_toArray, List.map_cons, List.map_nil]); first | done | rfl) ?_
          refine (HWt.out _).mono ?_
          rintro e w7 ⟨rfl, hb⟩
          refine ⟨_, rfl, ?_⟩
          refine hK.out _ _ (pw_cell_below hb hHeld) (fun hHeld => ?_)
          replace BD := Aside0.mk (below_then BD.out BD.out.size hb)
          replace WW := Aside0.mk (blk_below WW.out hb)
          replace GG := Aside0.mk (blk_below GG.out hb)
          replace BK := Aside0.mk (blk_below BK.out hb)
          clear hb
          clear hK K
          refine norm_ (a' := ?_) ?_ ?_
          rotate_left
          · show Act.put _ (some 64) _ = _
            simp only [Act.put, List.setIfInBounds_toArray, List.set_cons_zero, List.set_cons_succ, i64_w, i32_w]
            rfl
          refine pure_ (i := 5) (N := some 65) (v := ?_) (a' := ?_) (bL 7 63) rfl rfl (any_of HT_.out (by kernel_rfl)) (fun _ _ _ h => h) (Or.inl ⟨by rfl, ?_⟩) ?_ ?_; rotate_left; (intro w'; go_simp; with_reducible rfl); rotate_left; (simp only [Act.put, act1, act2, act3, i64_w, i32_w]; rfl)
          refine one_ (i := 6) (N := none) (bL 7 127) rfl rfl (one_of HT_.out (by kernel_rfl)) (by decide) (fun K hK => ?_)
          have cX : w7.cell? ⟨gw, 1, none⟩ = some (.int .i64 (rd W 1)) := ai_cell WW.out 1 (by rw [BDS.out.1]; exact hk6)
          have fX := blk_frozen WW.out 1
          refine skip_ (w1 := w7.setCell ⟨gw, 1, none⟩ (.int .i64 v)) (by rfl) rfl (by first | (go_simp; done) | (go_simp; rfl)) ?_
          replace WW := Aside0.mk (blk_put WW.out 1 (.int .i64 v) (ai_set W 1 v))
          replace GG := Aside0.mk (blk_far GG.out (p := ⟨gw, 1, none⟩) (by show gw + 1 ≠ gw; omega) (.int .i64 v))
          replace BK := Aside0.mk (blk_far BK.out (p := ⟨gw, 1, none⟩) (Ne.symm NE.out) (.int .i64 v))
          replace BD := Aside0.mk (below_set (j := 1) (v := .int .i64 v) BD.out GW.out)
          refine hK.out _ _ ((blk_cell BK.out 0).trans rfl) (fun hHeld => ?_)
          clear cX fX
          generalize w7.setCell ⟨gw, 1, none⟩ (.int .i64 v) = w8 at BD WW GG BK hHeld ⊢
          clear hK K
          refine done_ (done_of HT_.out (by kernel_rfl)) ?_
          clear HT_ HW_ hHeld
          have HW3 := Lib.hid (show wrap64 ((i : Int) + 1) = ((i + 1 : Nat) : Int) from wrap_in _ (by omega) (by have := L60.out; omega))
          go_wp2_with fail
          go_roundg (l.length - (i + 1))
          case measure => omega
          case rel => exact ⟨i + 1, _, _, rfl, by rw [HW3.out], by omega, by omega, NW, WW, GG, BD⟩
        · obtain ⟨y2, y3⟩ : 2 ≤ t.f0 ∧ t.f0 ≤ 5 := by omega
          have d1 : decide (t.f0 ≥ 2) = true := decide_eq_true y2
          have d2 : decide (t.f0 ≤ 5) = true := decide_eq_true y3
          obtain ⟨k, hk⟩ : ∃ k : Nat, t.f0 = (k : Int) := ⟨t.f0.toNat, by omega⟩
          have hk6 : k < 6 := by omega
          have y4 : 2 ≤ k := by omega
          have y5 : k ≤ 5 := by omega
          clear y2 y3 k1 hc2
          go_wp2_with fail
          have hb : Below wr.heap.size wr (wr.alloc (.cells #[.int .i64 (k : Int), .int .i64 t.f1.f0, .int .i64 t.f1.f1, .int .i64 t.f2, .int .i64 t.f3] 52 (0, 0))) := below_alloc (Below.refl _ _) _
          have BK := Aside0.mk (blk_new wr (.cells #[.int .i64 (k : Int), .int .i64 t.f1.f0, .int .i64 t.f1.f1, .int .i64 t.f2, .int .i64 t.f3] 52 (0, 0)))
          have GB := Aside0.mk BD.out.size
          replace BD := Aside0.mk (below_then BD.out BD.out.size hb)
          replace WW := Aside0.mk (blk_below WW.out hb)
          replace GG := Aside0.mk (blk_below GG.out hb)
          clear hb
          generalize wr.alloc (.cells #[.int .i64 (k : Int), .int .i64 t.f1.f0, .int .i64 t.f1.f1, .int .i64 t.f2, .int .i64 t.f3] 52 (0, 0)) = w3 at BD WW GG BK ⊢
          generalize wr.heap.size = gb at BK GB ⊢
          have NE := Aside0.mk (blk_ne WW.out BK.out (by decide))
          have c0 : w3.cell? ⟨gb, 0, none⟩ = some (.int .i64 (k : Int)) := (blk_cell BK.out 0).trans rfl
          have c1 : w3.cell? ⟨gw, k, none⟩ = some (.int .i64 (rd W (k : Int))) := ai_cell WW.out k (by rw [BDS.out.1]; exact hk6)
          obtain ⟨x, hx⟩ : ∃ x, x = rd W (k : Int) := ⟨_, rfl⟩
          obtain ⟨v, hv⟩ : ∃ v, v = wgt (k : Int) := ⟨_, rfl⟩
          have hx0 : 0 ≤ rd W (k : Int) ∧ rd W (k : Int) ≤ 4 := BDS.out.2.2.2 k hk6
          have hv0 := wgt_bd (k : Int)
          rw [← hx] at hx0 c1
          rw [← hv] at hv0
          have NW : Hid (wSt l (i + 1) = (W.set k (wgt (k : Int)), S + (wgt (k : Int) - rd W (k : Int)))) := Lib.hid (NX.out.trans (wStp_can hk hc))
          rw [← hx, ← hv] at NW
          have HWt : Aside0 (∀ W : World, Calls Try.prog 18 #[.int .i64 (k : Int)] W fun e w' => e = .returned (.int .i64 v) ∧ Below W.heap.size W w') := ⟨fun W => by rw [hv]; exact weightF_any _ W⟩
          have HX := Lib.hid hx
          have HV := Lib.hid hv
          have hs0 := BDS.out.2.1
          have hs1 := BDS.out.2.2.1
          clear hx hv NX
          have hi0 : (0 : Int) ≤ (k : Int) := by omega
          have hi1 : (k : Int) < 6 := by omega
          refine start_ (n := 11) (S := fun w' => w'.cell? ⟨gb, 0, none⟩ = some (.int .i64 (k : Int)) ∧ w'.cell? ⟨gw, k, none⟩ = some (.int .i64 x)) (ds := []) (bL 11 0) (by kernel_rfl) rfl (by kernel_rfl) ⟨c0, c1⟩ (fun hHeld => ?_)
          refine with_tabW frR9.tab frR9.bits (fun HT_ HW_ => ?_)
          have hb : Below w3.heap.size w3 w3.drew := below_drew1 (Below.refl _ _)
          replace BD := Aside0.mk (below_then BD.out BD.out.size hb)
          replace WW := Aside0.mk (blk_below WW.out hb)
          replace GG := Aside0.mk (blk_below GG.out hb)
          replace BK := Aside0.mk (blk_below BK.out hb)
          clear hb
          generalize w3.drew = w4 at BD WW GG BK hHeld ⊢
          clear c0 c1
          refine pure_ (i := 0) (N := some 50) (v := ?_) (a' := ?_) (bL 11 1) rfl rfl (any_of HT_.out (by kernel_rfl)) (fun _ _ _ h => h) (Or.inl ⟨by rfl, ?_⟩) ?_ ?_; rotate_left; (intro w'; go_simp; with_reducible rfl); rotate_left; (simp only [Act.put, act1, act2, act3, i64_w, i32_w]; rfl)
          refine pure_ (i := 1) (N := some 51) (v := ?_) (a' := ?_) (bL 11 3) rfl rfl (any_of HT_.out (by kernel_rfl)) (fun _ _ _ h => h) (Or.inl ⟨by rfl, ?_⟩) ?_ ?_; rotate_left; (intro w'; go_simp; with_reducible rfl); rotate_left; (simp only [Act.put, act1, act2, act3, i64_w, i32_w]; rfl)
          refine take_ (i := 2) (N := some 52) (v := ?_) (a' := ?_) (bL 11 7) rfl rfl (take_ofW HT_.out HW_.out (by kernel_rfl)) (fun _ _ _ h => h) (Or.inl ⟨by rfl, ?_⟩) hHeld ?_ ?_; rotate_left; (rintro w' ⟨s0, s1⟩; go_simp; with_reducible rfl); rotate_left; (simp only [Act.put, act1, act2, act3, i64_w, i32_w]; rfl)
          refine pure_ (i := 4) (N := some 54) (v := ?_) (a' := ?_) (bL 11 23) rfl rfl (any_of HT_.out (by kernel_rfl)) (fun _ _ _ h => h) (Or.inl ⟨by rfl, ?_⟩) ?_ ?_; rotate_left; (intro w'; go_simp; with_reducible rfl); rotate_left; (simp only [Act.put, act1, act2, act3, i64_w, i32_w]; rfl)
          refine take_ (i := 5) (N := some 55) (v := ?_) (a' := ?_) (bL 11 55) rfl rfl (take_ofW HT_.out HW_.out (by kernel_rfl)) (fun _ _ _ h => h) (Or.inl ⟨by rfl, ?_⟩) hHeld ?_ ?_; rotate_left; (rintro w' ⟨s0, s1⟩; go_simp; with_reducible rfl); rotate_left; (simp only [Act.put, act1, act2, act3, i64_w, i32_w]; rfl)
          refine pure_ (i := 6) (N := some 56) (v := ?_) (a' := ?_) (bL 11 119) rfl rfl (any_of HT_.out (by kernel_rfl)) (fun _ _ _ h => h) (Or.inl ⟨by rfl, ?_⟩) ?_ ?_; rotate_left; (intro w'; go_simp; with_reducible rfl); rotate_left; (simp only [Act.put, act1, act2, act3, i64_w, i32_w]; rfl)
          refine take_ (i := 7) (N := some 57) (v := ?_) (a' := ?_) (bL 11 247) rfl rfl (take_ofW HT_.out HW_.out (by kernel_rfl)) (fun _ _ _ h => h) (Or.inl ⟨by rfl, ?_⟩) hHeld ?_ ?_; rotate_left; (rintro w' ⟨s0, s1⟩; go_simp; with_reducible rfl); rotate_left; (simp only [Act.put, act1, act2, act3, i64_w, i32_w]; rfl)
          refine one_ (i := 3) (N := some 53) (bL 11 255) rfl rfl (one_of HT_.out (by kernel_rfl)) (by decide) (fun K hK => ?_)
          refine goes_ Try.func18 (by kernel_rfl) rfl #[.int .i64 (k : Int)] (by rfl) rfl rfl (by (try simp only [List.map_toArray, List.map_cons, List.map_nil]); first | done | rfl) ?_
          refine (HWt.out _).mono ?_
          rintro e w5 ⟨rfl, hb⟩
          refine ⟨_, rfl, ?_⟩
          refine hK.out _ _ ⟨pw_cell_below hb hHeld.1, pw_cell_below hb hHeld.2⟩ (fun hHeld => ?_)
          replace BD := Aside0.mk (below_then BD.out BD.out.size hb)
          replace WW := Aside0.mk (blk_below WW.out hb)
          replace GG := Aside0.mk (blk_below GG.out hb)
          replace BK := Aside0.mk (blk_below BK.out hb)
          clear hb
          have hw1 : wrap64 (v - x) = v - x := wrap_in _ (by omega) (by omega)
          have hw2 : wrap64 (S + (v - x)) = S + (v - x) := wrap_in _ (by clear hw1; omega) (by clear hw1; omega)
          clear hK K
          refine norm_ (a' := ?_) ?_ ?_
          rotate_left
          · show Act.put _ (some 53) _ = _
            simp only [Act.put, List.setIfInBounds_toArray, List.set_cons_zero, List.set_cons_succ, i64_w, i32_w]
            rfl
          refine pure_ (i := 8) (N := some 58) (v := ?_) (a' := ?_) (bL 11 511) rfl rfl (any_of HT_.out (by kernel_rfl)) (fun _ _ _ h => h) (Or.inl ⟨by rfl, ?_⟩) ?_ ?_; rotate_left; (intro w'; go_simp; with_reducible rfl); rotate_left; (simp only [Act.put, act1, act2, act3, i64_w, i32_w]; rfl)
          refine pure_ (i := 9) (N := some 59) (v := ?_) (a' := ?_) (bL 11 1023) rfl rfl (any_of HT_.out (by kernel_rfl)) (fun _ _ _ h => h) (Or.inl ⟨by rfl, ?_⟩) ?_ ?_; rotate_left; (intro w'; go_simp; with_reducible rfl); rotate_left; (simp only [Act.put, act1, act2, act3, i64_w, i32_w]; rfl)
          refine pure_ (i := 10) (N := some 5) (v := ?_) (a' := ?_) (bL 11 2047) rfl rfl (any_of HT_.out (by kernel_rfl)) (fun _ _ _ h => h) (Or.inl ⟨by rfl, ?_⟩) ?_ ?_; rotate_left; (intro w'; go_simp; with_reducible rfl); rotate_left; (simp only [Act.put, act1, act2, act3, i64_w, i32_w]; rfl)
          refine done_ (done_of HT_.out (by kernel_rfl)) ?_
          clear HT_ HW_ hw1 hw2 hHeld
          go_wp2_with fail
          have c0 : w5.cell? ⟨gb, 0, none⟩ = some (.int .i64 (k : Int)) := (blk_cell BK.out 0).trans rfl
          refine start_ (n := 7) (S := fun w' => w'.cell? ⟨gb, 0, none⟩ = some (.int .i64 (k : Int))) (ds := []) (bL 7 0) (by kernel_rfl) rfl (by kernel_rfl) c0 (fun hHeld => ?_)
          refine with_tabW frR10.tab frR10.bits (fun HT_ HW_ => ?_)
          have hb : Below w5.heap.size w5 w5.drew := below_drew1 (Below.refl _ _)
          replace BD := Aside0.mk (below_then BD.out BD.out.size hb)
          replace WW := Aside0.mk (blk_below WW.out hb)
          replace GG := Aside0.mk (blk_below GG.out hb)
          replace BK := Aside0.mk (blk_below BK.out hb)
          clear hb
          generalize w5.drew = w6 at BD WW GG BK hHeld ⊢
          clear c0
          refine pure_ (i := 0) (N := some 60) (v := ?_) (a' := ?_) (bL 7 1) rfl rfl (any_of HT_.out (by kernel_rfl)) (fun _ _ _ h => h) (Or.inl ⟨by rfl, ?_⟩) ?_ ?_; rotate_left; (intro w'; go_simp; with_reducible rfl); rotate_left; (simp only [Act.put, act1, act2, act3, i64_w, i32_w]; rfl)
          refine take_ (i := 1) (N := some 61) (v := ?_) (a' := ?_) (bL 7 3) rfl rfl (take_ofW HT_.out HW_.out (by kernel_rfl)) (fun _ _ _ h => h) (Or.inl ⟨by rfl, ?_⟩) hHeld ?_ ?_; rotate_left; (rintro w' s0; go_simp; with_reducible rfl); rotate_left; (simp only [Act.put, act1, act2, act3, i64_w, i32_w]; rfl)
          refine pure_ (i := 2) (N := some 62) (v := ?_) (a' := ?_) (bL 7 7) rfl rfl (any_of HT_.out (by kernel_rfl)) (fun _ _ _ h => h) (Or.inl ⟨by rfl, ?_⟩) ?_ ?_; rotate_left; (intro w'; go_simp; with_reducible rfl); rotate_left; (simp only [Act.put, act1, act2, act3, i64_w, i32_w]; rfl)
          refine take_ (i := 3) (N := some 63) (v := ?_) (a' := ?_) (bL 7 15) rfl rfl (take_ofW HT_.out HW_.out (by kernel_rfl)) (fun _ _ _ h => h) (Or.inl ⟨by rfl, ?_⟩) hHeld ?_ ?_; rotate_left; (rintro w' s0; go_simp; with_reducible rfl); rotate_left; (simp only [Act.put, act1, act2, act3, i64_w, i32_w]; rfl)
          refine one_ (i := 4) (N := some 64) (bL 7 31) rfl rfl (one_of HT_.out (by kernel_rfl)) (by decide) (fun K hK => ?_)
          refine goes_ Try.func18 (by kernel_rfl) rfl #[.int .i64 (k : Int)] (by rfl) rfl rfl (by (try simp only [List.map_toArray, List.map_cons, List.map_nil]); first | done | rfl) ?_
          refine (HWt.out _).mono ?_
          rintro e w7 ⟨rfl, hb⟩
          refine ⟨_, rfl, ?_⟩
          refine hK.out _ _ (pw_cell_below hb hHeld) (fun hHeld => ?_)
          replace BD := Aside0.mk (below_then BD.out BD.out.size hb)
          replace WW := Aside0.mk (blk_below WW.out hb)
          replace GG := Aside0.mk (blk_below GG.out hb)
          replace BK := Aside0.mk (blk_below BK.out hb)
          clear hb
          clear hK K
          refine norm_ (a' := ?_) ?_ ?_
          rotate_left
          · show Act.put _ (some 64) _ = _
            simp only [Act.put, List.setIfInBounds_toArray, List.set_cons_zero, List.set_cons_succ, i64_w, i32_w]
            rfl
          refine pure_ (i := 5) (N := some 65) (v := ?_) (a' := ?_) (bL 7 63) rfl rfl (any_of HT_.out (by kernel_rfl)) (fun _ _ _ h => h) (Or.inl ⟨by rfl, ?_⟩) ?_ ?_; rotate_left; (intro w'; go_simp; with_reducible rfl); rotate_left; (simp only [Act.put, act1, act2, act3, i64_w, i32_w]; rfl)
          refine one_ (i := 6) (N := none) (bL 7 127) rfl rfl (one_of HT_.out (by kernel_rfl)) (by decide) (fun K hK => ?_)
          have cX : w7.cell? ⟨gw, k, none⟩ = some (.int .i64 (rd W (k : Int))) := ai_cell WW.out k (by rw [BDS.out.1]; exact hk6)
          have fX := blk_frozen WW.out k
          refine skip_ (w1 := w7.setCell ⟨gw, k, none⟩ (.int .i64 v)) (by rfl) rfl (by first | (go_simp; done) | (go_simp; rfl)) ?_
          replace WW := Aside0.mk (blk_put WW.out k (.int .i64 v) (ai_set W k v))
          replace GG := Aside0.mk (blk_far GG.out (p := ⟨gw, k, none⟩) (by show gw + 1 ≠ gw; omega) (.int .i64 v))
          replace BK := Aside0.mk (blk_far BK.out (p := ⟨gw, k, none⟩) (Ne.symm NE.out) (.int .i64 v))
          replace BD := Aside0.mk (below_set (j := k) (v := .int .i64 v) BD.out GW.out)
          refine hK.out _ _ ((blk_cell BK.out 0).trans rfl) (fun hHeld => ?_)
          clear cX fX
          generalize w7.setCell ⟨gw, k, none⟩ (.int .i64 v) = w8 at BD WW GG BK hHeld ⊢
          clear hK K
          refine done_ (done_of HT_.out (by kernel_rfl)) ?_
          clear HT_ HW_ hHeld
          have HW3 := Lib.hid (show wrap64 ((i : Int) + 1) = ((i + 1 : Nat) : Int) from wrap_in _ (by omega) (by have := L60.out; omega))
          go_wp2_with fail
          go_roundg (l.length - (i + 1))
          case measure => omega
          case rel => exact ⟨i + 1, _, _, rfl, by rw [HW3.out], by omega, by omega, NW, WW, GG, BD⟩
      · have hc2 : ¬ ((2 ≤ t.f0 ∧ t.f0 ≤ 5) ∨ (t.f0 = 1 ∧ 0 ≤ t.f2 ∧ 0 < t.f3)) := fun h => hc ((can_iff t).2 h)
        have NW := Lib.hid (NX.out.trans (wStp_not hc))
        by_cases k2 : 2 ≤ t.f0
        · have d1 : decide (t.f0 ≥ 2) = true := decide_eq_true k2
          have d2 : decide (t.f0 ≤ 5) = false := decide_eq_false (by omega)
          have d3 : (t.f0 == 1) = false := by simp; omega
          clear k2 hc2
          have HW3 := Lib.hid (show wrap64 ((i : Int) + 1) = ((i + 1 : Nat) : Int) from wrap_in _ (by omega) (by have := L60.out; omega))
          go_wp2_with fail
          have hb : Below wr.heap.size wr (wr.alloc (.cells #[.int .i64 t.f0, .int .i64 t.f1.f0, .int .i64 t.f1.f1, .int .i64 t.f2, .int .i64 t.f3] 52 (0, 0))) := below_alloc (Below.refl _ _) _
          replace BD := Aside0.mk (below_then BD.out BD.out.size hb)
          replace WW := Aside0.mk (blk_below WW.out hb)
          replace GG := Aside0.mk (blk_below GG.out hb)
          go_roundg (l.length - (i + 1))
          case measure => omega
          case rel => exact ⟨i + 1, _, _, rfl, by rw [HW3.out], by omega, by omega, NW, WW, GG, BD⟩
        · have d1 : decide (t.f0 ≥ 2) = false := decide_eq_false k2
          by_cases k1 : t.f0 = 1
          · have d2 : (t.f0 == 1) = true := by simp [k1]
            by_cases k3 : 0 ≤ t.f2
            · have d3 : decide (t.f2 ≥ 0) = true := decide_eq_true k3
              have d4 : decide (t.f3 > 0) = false := decide_eq_false (by omega)
              clear k2 k1 k3 hc2
              have HW3 := Lib.hid (show wrap64 ((i : Int) + 1) = ((i + 1 : Nat) : Int) from wrap_in _ (by omega) (by have := L60.out; omega))
              go_wp2_with fail
              have hb : Below wr.heap.size wr (wr.alloc (.cells #[.int .i64 t.f0, .int .i64 t.f1.f0, .int .i64 t.f1.f1, .int .i64 t.f2, .int .i64 t.f3] 52 (0, 0))) := below_alloc (Below.refl _ _) _
              replace BD := Aside0.mk (below_then BD.out BD.out.size hb)
              replace WW := Aside0.mk (blk_below WW.out hb)
              replace GG := Aside0.mk (blk_below GG.out hb)
              go_roundg (l.length - (i + 1))
              case measure => omega
              case rel => exact ⟨i + 1, _, _, rfl, by rw [HW3.out], by omega, by omega, NW, WW, GG, BD⟩
            · have d3 : decide (t.f2 ≥ 0) = false := decide_eq_false k3
              clear k2 k1 k3 hc2
              have HW3 := Lib.hid (show wrap64 ((i : Int) + 1) = ((i + 1 : Nat) : Int) from wrap_in _ (by omega) (by have := L60.out; omega))
              go_wp2_with fail
              have hb : Below wr.heap.size wr (wr.alloc (.cells #[.int .i64 t.f0, .int .i64 t.f1.f0, .int .i64 t.f1.f1, .int .i64 t.f2, .int .i64 t.f3] 52 (0, 0))) := below_alloc (Below.refl _ _) _
              replace BD := Aside0.mk (below_then BD.out BD.out.size hb)
              replace WW := Aside0.mk (blk_below WW.out hb)
              replace GG := Aside0.mk (blk_below GG.out hb)
              go_roundg (l.length - (i + 1))
              case measure => omega
              case rel => exact ⟨i + 1, _, _, rfl, by rw [HW3.out], by omega, by omega, NW, WW, GG, BD⟩
          · have d2 : (t.f0 == 1) = false := by simp [k1]
            clear k2 k1 hc2
            have HW3 := Lib.hid (show wrap64 ((i : Int) + 1) = ((i + 1 : Nat) : Int) from wrap_in _ (by omega) (by have := L60.out; omega))
            go_wp2_with fail
            have hb : Below wr.heap.size wr (wr.alloc (.cells #[.int .i64 t.f0, .int .i64 t.f1.f0, .int .i64 t.f1.f1, .int .i64 t.f2, .int .i64 t.f3] 52 (0, 0))) := below_alloc (Below.refl _ _) _
            replace BD := Aside0.mk (below_then BD.out BD.out.size hb)
            replace WW := Aside0.mk (blk_below WW.out hb)
            replace GG := Aside0.mk (blk_below GG.out hb)
            go_roundg (l.length - (i + 1))
            case measure => omega
            case rel => exact ⟨i + 1, _, _, rfl, by rw [HW3.out], by omega, by omega, NW, WW, GG, BD⟩
    · have hi2 : i = l.length := by omega
      have hld : decide (i < l.length) = false := decide_eq_false (by omega)
      have hld3 : ¬ i < l.length := by omega
      obtain ⟨N, st, W9, e1, e2, e3, e4, e5, e6⟩ := FP.out
      obtain ⟨rfl, rfl⟩ : W = W9 ∧ S = (N : Int) := by
        have h := WS.out
        rw [hi2, e1] at h
        simp only [Prod.mk.injEq] at h
        exact ⟨h.1.symm, h.2.symm⟩
      have E2 := Aside0.mk e2
      have E3 := Aside0.mk e3
      have E4 := Aside0.mk e4
      have E5 := Aside0.mk e5
      have E6 := Aside0.mk e6
      clear e1 e2 e3 e4 e5 e6 FP WS hg1 hi hi2 hlt
      go_wp2_with fail
      refine (new_R wr).mono ?_
      rintro e w3 ⟨g0, n0, rfl, hC, hn, hb⟩
      replace BD := Aside0.mk (below_then BD.out BD.out.size hb)
      replace WW := Aside0.mk (blk_below WW.out hb)
      replace GG := Aside0.mk (blk_below GG.out hb)
      have CR := Aside0.mk hC
      have HN0 := Aside0.mk hn
      clear hC hn hb
      go_wp2_with fail
      have hb : Below w3.heap.size w3 (w3.alloc (.cells #[.slice (some ⟨g0, 0, none⟩) 5 n0] 26 (0, 0))) := below_alloc (Below.refl _ _) _
      have SB := Aside0.mk (blk_new w3 (.cells #[.slice (some ⟨g0, 0, none⟩) 5 n0] 26 (0, 0)))
      have GS := Aside0.mk BD.out.size
      replace BD := Aside0.mk (below_then BD.out BD.out.size hb)
      replace WW := Aside0.mk (blk_below WW.out hb)
      replace GG := Aside0.mk (blk_below GG.out hb)
      replace CR := Aside0.mk (CR.out.below hb)
      clear hb
      generalize w3.alloc (.cells #[.slice (some ⟨g0, 0, none⟩) 5 n0] 26 (0, 0)) = w4 at BD WW GG SB CR ⊢
      generalize w3.heap.size = gs at SB GS ⊢
      go_loopg [69] N (fun gk vi wr => ∃ (i g n : Nat), vi = .int .i64 (i : Int) ∧ i ≤ N ∧ N - i ≤ gk ∧ n ≤ maxLen ∧ Aside0 (wr.heap[gs]? = some (.cells #[.slice (some ⟨g, 0, none⟩) 5 n] 26 (0, 0))) ∧ Aside0 (Crd wr g n (st i).1) ∧ Aside0 (wr.heap[gw]? = some (.cells (ai W) 56 (0, 0))) ∧ Aside0 (wr.heap[gw + 1]? = some (.cells (ai (st i).2) 56 (0, 0))) ∧ Aside0 (Below w.heap.size w wr))
      case atStart => exact ⟨0, g0, n0, rfl, by omega, by omega, HN0.out, SB, ⟨by rw [E3.out]; exact CR.out⟩, WW, ⟨by rw [E3.out]; exact GG.out⟩, BD⟩
      case round =>
        clear SB CR WW GG BD HN0
        obtain ⟨j, g, n, rfl, hj, hg1, hn, SB, CR, WW, GG, BD⟩ := hrel
        by_cases hlt : (j : Int) < (N : Int)
        · have hld2 : decide ((j : Int) < (N : Int)) = true := decide_eq_true hlt
          have F1 := E6.out j (by omega)
          obtain ⟨cr, got, hst⟩ : ∃ cr got, st j = (cr, got) := ⟨_, _, rfl⟩
          rw [hst] at F1 CR GG
          obtain ⟨q1, q2, q3, q4, q5, q6, q7, q8⟩ := F1
          obtain ⟨c2, kk, hnx⟩ : ∃ c2 kk, nxt (l.map tOwn) (upto l.length) cr = (c2, kk) := ⟨_, _, rfl⟩
          have h5 : c2.length = 5 := by have h := (nxt_COk (l := l.map tOwn) (left := upto l.length) (vOk_COk q1)).1; rw [hnx] at h; exact h
          have hl5 : cr.length = 5 := (vOk_COk q1).1
          simp only [hnx] at q4 q5 q6 q7 q8
          have HNX := Aside0.mk hnx
          clear hnx hst
          have HNXT : Aside0 (∀ (w0 : World) (B : Option Addr) (d : Nat), Crd w0 g n cr → Kd.C k58 w0 B l.length (l.map tOwn) → l.length ≤ d → Calls Try.prog 12 #[.agg #[.slice (some ⟨g, 0, none⟩) 5 n], .slice B l.length d] w0 fun e w' => ∃ g2 n2, e = .returned (.tuple #[.agg #[.slice (some ⟨g2, 0, none⟩) 5 n2], .int .i64 kk, .int .i64 0]) ∧ Crd w' g2 n2 c2 ∧ n2 ≤ maxLen ∧ Below w0.heap.size w0 w') := ⟨fun w0 B d h1 h2 h3 => next_R l cr c2 kk w0 B d g n L60.out q1 HNX.out h1 h2 h3⟩
          have Q1 := Aside0.mk q1
          have Q3 := Aside0.mk q3
          have Q8 := Aside0.mk q8
          have H5 := Aside0.mk h5
          have HM := Aside0.mk hn
          clear q1 q3 q8 h5 hl5 hn
          go_wp2_with fail
          obtain ⟨v0, hv0⟩ : ∃ v0, v0 = wr := ⟨_, rfl⟩
          rw [← hv0] at SB CR WW GG BD ⊢
          clear hv0
          have HOWN : Aside0 (∀ w0 : World, Below v0.heap.size v0 w0 → Calls Try.prog 13 #[.slice A l.length c] w0 fun e w' => ∃ B d, e = .returned (.slice B l.length d) ∧ Kd.C k58 w' B l.length (l.map tOwn) ∧ l.length ≤ d ∧ Below w0.heap.size w0 w') := ⟨fun w0 hb => own_R A c l w0 (Kd.C_below HL.out (below_then BD.out BD.out.size hb)) HC.out L60.out⟩
          have cS : v0.cell? ⟨gs, 0, none⟩ = some (.slice (some ⟨g, 0, none⟩) 5 n) := (blk_cell SB.out 0).trans rfl
          have LS := Aside0.mk (blk_lt SB.out)
          refine start_ (n := 12) (S := fun w' => Below v0.heap.size v0 w' ∧ w'.cell? ⟨gs, 0, none⟩ = some (.slice (some ⟨g, 0, none⟩) 5 n)) (ds := []) (bL 12 0) (by kernel_rfl) rfl (by kernel_rfl) ⟨below_drew1 (Below.refl _ _), cS⟩ (fun hHeld => ?_)
          refine with_tabW frR15.tab frR15.bits (fun HT_ HW_ => ?_)
          generalize v0.drew = wd at hHeld ⊢
          refine take_ (i := 0) (N := some 72) (v := ?_) (a' := ?_) (bL 12 1) rfl rfl (take_ofW HT_.out HW_.out (by kernel_rfl)) (fun _ _ _ h => h) (Or.inl ⟨by rfl, ?_⟩) hHeld ?_ ?_; rotate_left; (rintro w' ⟨s0, s1⟩; go_simp; with_reducible rfl); rotate_left; (simp only [Act.put, act1, act2, act3, i64_w, i32_w]; rfl)
          refine pure_ (i := 1) (N := some 73) (v := ?_) (a' := ?_) (bL 12 3) rfl rfl (any_of HT_.out (by kernel_rfl)) (fun _ _ _ h => h) (Or.inl ⟨by rfl, ?_⟩) ?_ ?_; rotate_left; (intro w'; go_simp; with_reducible rfl); rotate_left; (simp only [Act.put, act1, act2, act3, i64_w, i32_w]; rfl)
          refine join_ (σ := (Option Addr × Nat) × (Nat × Nat) × Nat) 3 (bL 12 511) (fun s_ => [(74, .slice s_.1.1 l.length s_.1.2), (75, .tuple #[.agg #[.slice (some ⟨s_.2.1.1, 0, none⟩) 5 s_.2.1.2], .int .i64 kk, .int .i64 0]), (71, .tuple #[.agg #[.slice (some ⟨s_.2.1.1, 0, none⟩) 5 s_.2.1.2], .int .i64 kk, .int .i64 0]), (76, .agg #[.slice (some ⟨s_.2.1.1, 0, none⟩) 5 s_.2.1.2]), (77, .int .i64 kk), (78, .int .i64 0), (9, .pointer (some ⟨s_.2.2, 0, none⟩))]) (fun s_ w' => (Below v0.heap.size v0 w' ∧ w'.cell? ⟨gs, 0, none⟩ = some (.slice (some ⟨g, 0, none⟩) 5 n)) ∧ v0.heap.size ≤ s_.2.2 ∧ w'.heap[s_.2.2]? = some (.cells #[.slice none 0 0] 26 (0, 0)) ∧ Crd w' s_.2.1.1 s_.2.1.2 c2 ∧ s_.2.1.2 ≤ maxLen) ?_ ?_
          rotate_left
          · intro hCont
            refine two_ (i := 2) (j := 8) (Ni := some 74) (Nj := some 9) (bL 12 7) (bL 12 259) rfl rfl rfl rfl (two_of HT_.out (by kernel_rfl)) (by decide) (by decide) (fun K hK => ?_) (fun K hK => ?_)
            · skip
              refine goes_ Try.func13 (by kernel_rfl) rfl #[.slice A l.length c] (by rfl) rfl rfl (by (try simp only [List.map_toArray, List.map_cons, List.map_nil]); first | done | rfl) ?_
              refine (HOWN.out wd hHeld.1).mono ?_
              rintro e x1 ⟨B, d, rfl, hC, hd, hb⟩
              refine ⟨_, rfl, ?_⟩
              have OC := Aside0.mk hC
              have OD := Aside0.mk hd
              clear hC hd
              refine hK.out _ _ ⟨below_then hHeld.1 hHeld.1.size hb, pw_cell_below hb hHeld.2⟩ (fun hHeld => ?_)
              clear hK K
              refine norm_ (a' := ?_) ?_ ?_
              rotate_left
              · show Act.put _ (some 74) _ = _
                simp only [Act.put, List.setIfInBounds_toArray, List.set_cons_zero, List.set_cons_succ, i64_w, i32_w]
                rfl
              clear hb
              refine two_ (i := 3) (j := 8) (Ni := some 75) (Nj := some 9) (bL 12 15) (bL 12 263) rfl rfl rfl rfl (two_of HT_.out (by kernel_rfl)) (by decide) (by decide) (fun K hK => ?_) (fun K hK => ?_)
              · skip
                refine goes_ Try.func12 (by kernel_rfl) rfl #[.agg #[.slice (some ⟨g, 0, none⟩) 5 n], .slice B l.length d] (by rfl) rfl rfl (by (try simp only [List.map_toArray, List.map_cons, List.map_nil]); first | done | rfl) ?_
                refine (HNXT.out x1 B d (CR.out.below hHeld.1) OC.out OD.out).mono ?_
                rintro e x2 ⟨g3, n3, rfl, hC, hn3, hb⟩
                refine ⟨_, rfl, ?_⟩
                have C3 := Aside0.mk hC
                have M3 := Aside0.mk hn3
                clear hC hn3
                refine hK.out _ _ ⟨below_then hHeld.1 hHeld.1.size hb, pw_cell_below hb hHeld.2⟩ (fun hHeld => ?_)
                clear hK K
                refine norm_ (a' := ?_) ?_ ?_
                rotate_left
                · show Act.put _ (some 75) _ = _
                  simp only [Act.put, List.setIfInBounds_toArray, List.set_cons_zero, List.set_cons_succ, i64_w, i32_w]
                  rfl
                clear hb
                refine pure_ (i := 4) (N := some 71) (v := ?_) (a' := ?_) (bL 12 31) rfl rfl (any_of HT_.out (by kernel_rfl)) (fun _ _ _ h => h) (Or.inl ⟨by rfl, ?_⟩) ?_ ?_; rotate_left; (intro w'; go_simp; with_reducible rfl); rotate_left; (simp only [Act.put, act1, act2, act3, i64_w, i32_w]; rfl)
                refine pure_ (i := 5) (N := some 76) (v := ?_) (a' := ?_) (bL 12 63) rfl rfl (any_of HT_.out (by kernel_rfl)) (fun _ _ _ h => h) (Or.inl ⟨by rfl, ?_⟩) ?_ ?_; rotate_left; (intro w'; go_simp; with_reducible rfl); rotate_left; (simp only [Act.put, act1, act2, act3, i64_w, i32_w]; rfl)
                refine pure_ (i := 6) (N := some 77) (v := ?_) (a' := ?_) (bL 12 127) rfl rfl (any_of HT_.out (by kernel_rfl)) (fun _ _ _ h => h) (Or.inl ⟨by rfl, ?_⟩) ?_ ?_; rotate_left; (intro w'; go_simp; with_reducible rfl); rotate_left; (simp only [Act.put, act1, act2, act3, i64_w, i32_w]; rfl)
                refine pure_ (i := 7) (N := some 78) (v := ?_) (a' := ?_) (bL 12 255) rfl rfl (any_of HT_.out (by kernel_rfl)) (fun _ _ _ h => h) (Or.inl ⟨by rfl, ?_⟩) ?_ ?_; rotate_left; (intro w'; go_simp; with_reducible rfl); rotate_left; (simp only [Act.put, act1, act2, act3, i64_w, i32_w]; rfl)
                refine one_ (i := 8) (N := some 9) (bL 12 511) rfl rfl (one_of HT_.out (by kernel_rfl)) (by decide) (fun K hK => ?_)
                refine value_ (v := .pointer (some ⟨x2.heap.size, 0, none⟩)) (w1 := x2.alloc (.cells #[.slice none 0 0] 26 (0, 0))) (by rfl) rfl (by first | (go_simp; done) | (go_simp; rfl)) ?_
                have hb : Below x2.heap.size x2 (x2.alloc (.cells #[.slice none 0 0] 26 (0, 0))) := below_alloc (Below.refl _ _) _
                have SG := Aside0.mk (blk_new x2 (.cells #[.slice none 0 0] 26 (0, 0)))
                have GE := Aside0.mk hHeld.1.size
                refine hK.out _ _ ⟨below_then hHeld.1 hHeld.1.size hb, pw_cell_below hb hHeld.2⟩ (fun hHeld => ?_)
                generalize x2.alloc (.cells #[.slice none 0 0] 26 (0, 0)) = x3 at hb SG hHeld ⊢
                generalize x2.heap.size = gt at SG GE ⊢
                clear hK K
                refine norm_ (a' := ?_) ?_ ?_
                rotate_left
                · show Act.put _ (some 9) _ = _
                  simp only [Act.put, List.setIfInBounds_toArray, List.set_cons_zero, List.set_cons_succ, i64_w, i32_w]
                  rfl
                replace C3 := Aside0.mk (C3.out.below hb)
                clear hb
                exact norm_ (by simp only [putAll, Act.put, List.setIfInBounds_toArray, List.set_cons_zero, List.set_cons_succ]) (hCont ((B, d), (g3, n3), gt) _ ⟨hHeld, GE.out, SG.out, C3.out, M3.out⟩)
              · skip
                refine value_ (v := .pointer (some ⟨x1.heap.size, 0, none⟩)) (w1 := x1.alloc (.cells #[.slice none 0 0] 26 (0, 0))) (by rfl) rfl (by first | (go_simp; done) | (go_simp; rfl)) ?_
                have hb : Below x1.heap.size x1 (x1.alloc (.cells #[.slice none 0 0] 26 (0, 0))) := below_alloc (Below.refl _ _) _
                have SG := Aside0.mk (blk_new x1 (.cells #[.slice none 0 0] 26 (0, 0)))
                have GE := Aside0.mk hHeld.1.size
                refine hK.out _ _ ⟨below_then hHeld.1 hHeld.1.size hb, pw_cell_below hb hHeld.2⟩ (fun hHeld => ?_)
                generalize x1.alloc (.cells #[.slice none 0 0] 26 (0, 0)) = x2 at hb SG hHeld ⊢
                generalize x1.heap.size = gt at SG GE ⊢
                clear hK K
                refine norm_ (a' := ?_) ?_ ?_
                rotate_left
                · show Act.put _ (some 9) _ = _
                  simp only [Act.put, List.setIfInBounds_toArray, List.set_cons_zero, List.set_cons_succ, i64_w, i32_w]
                  rfl
                replace OC := Aside0.mk (Kd.C_below OC.out hb)
                clear hb
                refine one_ (i := 3) (N := some 75) (bL 12 271) rfl rfl (one_of HT_.out (by kernel_rfl)) (by decide) (fun K hK => ?_)
                refine goes_ Try.func12 (by kernel_rfl) rfl #[.agg #[.slice (some ⟨g, 0, none⟩) 5 n], .slice B l.length d] (by rfl) rfl rfl (by (try simp only [List.map_toArray, List.map_cons, List.map_nil]); first | done | rfl) ?_
                refine (HNXT.out x2 B d (CR.out.below hHeld.1) OC.out OD.out).mono ?_
                rintro e x3 ⟨g3, n3, rfl, hC, hn3, hb⟩
                refine ⟨_, rfl, ?_⟩
                have C3 := Aside0.mk hC
                have M3 := Aside0.mk hn3
                clear hC hn3
                refine hK.out _ _ ⟨below_then hHeld.1 hHeld.1.size hb, pw_cell_below hb hHeld.2⟩ (fun hHeld => ?_)
                clear hK K
                refine norm_ (a' := ?_) ?_ ?_
                rotate_left
                · show Act.put _ (some 75) _ = _
                  simp only [Act.put, List.setIfInBounds_toArray, List.set_cons_zero, List.set_cons_succ, i64_w, i32_w]
                  rfl
                replace SG := Aside0.mk (blk_below SG.out hb)
                clear hb
                refine pure_ (i := 4) (N := some 71) (v := ?_) (a' := ?_) (bL 12 287) rfl rfl (any_of HT_.out (by kernel_rfl)) (fun _ _ _ h => h) (Or.inl ⟨by rfl, ?_⟩) ?_ ?_; rotate_left; (intro w'; go_simp; with_reducible rfl); rotate_left; (simp only [Act.put, act1, act2, act3, i64_w, i32_w]; rfl)
                refine pure_ (i := 5) (N := some 76) (v := ?_) (a' := ?_) (bL 12 319) rfl rfl (any_of HT_.out (by kernel_rfl)) (fun _ _ _ h => h) (Or.inl ⟨by rfl, ?_⟩) ?_ ?_; rotate_left; (intro w'; go_simp; with_reducible rfl); rotate_left; (simp only [Act.put, act1, act2, act3, i64_w, i32_w]; rfl)
                refine pure_ (i := 6) (N := some 77) (v := ?_) (a' := ?_) (bL 12 383) rfl rfl (any_of HT_.out (by kernel_rfl)) (fun _ _ _ h => h) (Or.inl ⟨by rfl, ?_⟩) ?_ ?_; rotate_left; (intro w'; go_simp; with_reducible rfl); rotate_left; (simp only [Act.put, act1, act2, act3, i64_w, i32_w]; rfl)
                refine pure_ (i := 7) (N := some 78) (v := ?_) (a' := ?_) (bL 12 511) rfl rfl (any_of HT_.out (by kernel_rfl)) (fun _ _ _ h => h) (Or.inl ⟨by rfl, ?_⟩) ?_ ?_; rotate_left; (intro w'; go_simp; with_reducible rfl); rotate_left; (simp only [Act.put, act1, act2, act3, i64_w, i32_w]; rfl)
                exact norm_ (by simp only [putAll, Act.put, List.setIfInBounds_toArray, List.set_cons_zero, List.set_cons_succ]) (hCont ((B, d), (g3, n3), gt) _ ⟨hHeld, GE.out, SG.out, C3.out, M3.out⟩)
            · skip
              refine value_ (v := .pointer (some ⟨wd.heap.size, 0, none⟩)) (w1 := wd.alloc (.cells #[.slice none 0 0] 26 (0, 0))) (by rfl) rfl (by first | (go_simp; done) | (go_simp; rfl)) ?_
              have hb : Below wd.heap.size wd (wd.alloc (.cells #[.slice none 0 0] 26 (0, 0))) := below_alloc (Below.refl _ _) _
              have SG := Aside0.mk (blk_new wd (.cells #[.slice none 0 0] 26 (0, 0)))
              have GE := Aside0.mk hHeld.1.size
              refine hK.out _ _ ⟨below_then hHeld.1 hHeld.1.size hb, pw_cell_below hb hHeld.2⟩ (fun hHeld => ?_)
              generalize wd.alloc (.cells #[.slice none 0 0] 26 (0, 0)) = x1 at hb SG hHeld ⊢
              generalize wd.heap.size = gt at SG GE ⊢
              clear hK K
              refine norm_ (a' := ?_) ?_ ?_
              rotate_left
              · show Act.put _ (some 9) _ = _
                simp only [Act.put, List.setIfInBounds_toArray, List.set_cons_zero, List.set_cons_succ, i64_w, i32_w]
                rfl
              clear hb
              refine one_ (i := 2) (N := some 74) (bL 12 263) rfl rfl (one_of HT_.out (by kernel_rfl)) (by decide) (fun K hK => ?_)
              refine goes_ Try.func13 (by kernel_rfl) rfl #[.slice A l.length c] (by rfl) rfl rfl (by (try simp only [List.map_toArray, List.map_cons, List.map_nil]); first | done | rfl) ?_
              refine (HOWN.out x1 hHeld.1).mono ?_
              rintro e x2 ⟨B, d, rfl, hC, hd, hb⟩
              refine ⟨_, rfl, ?_⟩
              have OC := Aside0.mk hC
              have OD := Aside0.mk hd
              clear hC hd
              refine hK.out _ _ ⟨below_then hHeld.1 hHeld.1.size hb, pw_cell_below hb hHeld.2⟩ (fun hHeld => ?_)
              clear hK K
              refine norm_ (a' := ?_) ?_ ?_
              rotate_left
              · show Act.put _ (some 74) _ = _
                simp only [Act.put, List.setIfInBounds_toArray, List.set_cons_zero, List.set_cons_succ, i64_w, i32_w]
                rfl
              replace SG := Aside0.mk (blk_below SG.out hb)
              clear hb
              refine one_ (i := 3) (N := some 75) (bL 12 271) rfl rfl (one_of HT_.out (by kernel_rfl)) (by decide) (fun K hK => ?_)
              refine goes_ Try.func12 (by kernel_rfl) rfl #[.agg #[.slice (some ⟨g, 0, none⟩) 5 n], .slice B l.length d] (by rfl) rfl rfl (by (try simp only [List.map_toArray, List.map_cons, List.map_nil]); first | done | rfl) ?_
              refine (HNXT.out x2 B d (CR.out.below hHeld.1) OC.out OD.out).mono ?_
              rintro e x3 ⟨g3, n3, rfl, hC, hn3, hb⟩
              refine ⟨_, rfl, ?_⟩
              have C3 := Aside0.mk hC
              have M3 := Aside0.mk hn3
              clear hC hn3
              refine hK.out _ _ ⟨below_then hHeld.1 hHeld.1.size hb, pw_cell_below hb hHeld.2⟩ (fun hHeld => ?_)
              clear hK K
              refine norm_ (a' := ?_) ?_ ?_
              rotate_left
              · show Act.put _ (some 75) _ = _
                simp only [Act.put, List.setIfInBounds_toArray, List.set_cons_zero, List.set_cons_succ, i64_w, i32_w]
                rfl
              replace SG := Aside0.mk (blk_below SG.out hb)
              clear hb
              refine pure_ (i := 4) (N := some 71) (v := ?_) (a' := ?_) (bL 12 287) rfl rfl (any_of HT_.out (by kernel_rfl)) (fun _ _ _ h => h) (Or.inl ⟨by rfl, ?_⟩) ?_ ?_; rotate_left; (intro w'; go_simp; with_reducible rfl); rotate_left; (simp only [Act.put, act1, act2, act3, i64_w, i32_w]; rfl)
              refine pure_ (i := 5) (N := some 76) (v := ?_) (a' := ?_) (bL 12 319) rfl rfl (any_of HT_.out (by kernel_rfl)) (fun _ _ _ h => h) (Or.inl ⟨by rfl, ?_⟩) ?_ ?_; rotate_left; (intro w'; go_simp; with_reducible rfl); rotate_left; (simp only [Act.put, act1, act2, act3, i64_w, i32_w]; rfl)
              refine pure_ (i := 6) (N := some 77) (v := ?_) (a' := ?_) (bL 12 383) rfl rfl (any_of HT_.out (by kernel_rfl)) (fun _ _ _ h => h) (Or.inl ⟨by rfl, ?_⟩) ?_ ?_; rotate_left; (intro w'; go_simp; with_reducible rfl); rotate_left; (simp only [Act.put, act1, act2, act3, i64_w, i32_w]; rfl)
              refine pure_ (i := 7) (N := some 78) (v := ?_) (a' := ?_) (bL 12 511) rfl rfl (any_of HT_.out (by kernel_rfl)) (fun _ _ _ h => h) (Or.inl ⟨by rfl, ?_⟩) ?_ ?_; rotate_left; (intro w'; go_simp; with_reducible rfl); rotate_left; (simp only [Act.put, act1, act2, act3, i64_w, i32_w]; rfl)
              exact norm_ (by simp only [putAll, Act.put, List.setIfInBounds_toArray, List.set_cons_zero, List.set_cons_succ]) (hCont ((B, d), (g3, n3), gt) _ ⟨hHeld, GE.out, SG.out, C3.out, M3.out⟩)
          rintro ⟨⟨B, d⟩, ⟨g3, n3⟩, gt⟩ w9 ⟨hHeld, hge, hsg, hc3, hm3⟩
          have SG : Aside0 (w9.heap[gt]? = some (.cells #[.slice none 0 0] 26 (0, 0))) := ⟨hsg⟩
          have GE : Aside0 (v0.heap.size ≤ gt) := ⟨hge⟩
          have C3 := Aside0.mk (show Crd w9 g3 n3 c2 from hc3)
          have M3 := Aside0.mk (show n3 ≤ maxLen from hm3)
          clear hge hsg hc3 hm3
          refine norm_ (a' := ?_) ?_ ?_
          rotate_left
          · simp only [putAll, Act.put, List.setIfInBounds_toArray, List.set_cons_zero, List.set_cons_succ]
            rfl
          refine one_ (i := 9) (N := none) (bL 12 1023) rfl rfl (one_of HT_.out (by kernel_rfl)) (by decide) (fun K hK => ?_)
          have cG : w9.cell? ⟨gt, 0, none⟩ = some (.slice none 0 0) := (blk_cell SG.out 0).trans rfl
          have fG := blk_frozen SG.out 0
          refine skip_ (w1 := w9.setCell ⟨gt, 0, none⟩ (.slice (some ⟨g3, 0, none⟩) 5 n3)) (by rfl) rfl (by first | (go_simp; done) | (go_simp; rfl)) ?_
          have hS2 := hHeld.1.setCell (p := ⟨gt, 0, none⟩) GE.out (.slice (some ⟨g3, 0, none⟩) 5 n3)
          replace C3 := Aside0.mk (C3.out.far (p := ⟨gt, 0, none⟩) (crd_ne C3.out SG.out (by decide)) (.slice (some ⟨g3, 0, none⟩) 5 n3))
          replace SG := Aside0.mk (blk_put SG.out 0 (.slice (some ⟨g3, 0, none⟩) 5 n3) rfl)
          refine hK.out _ _ ⟨hS2, (hS2.cell LS.out).trans cS⟩ (fun hHeld => ?_)
          clear cG fG hS2
          generalize w9.setCell ⟨gt, 0, none⟩ (.slice (some ⟨g3, 0, none⟩) 5 n3) = w10 at hHeld SG C3 ⊢
          clear hK K
          refine pure_ (i := 10) (N := some 10) (v := ?_) (a' := ?_) (bL 12 2047) rfl rfl (any_of HT_.out (by kernel_rfl)) (fun _ _ _ h => h) (Or.inl ⟨by rfl, ?_⟩) ?_ ?_; rotate_left; (intro w'; go_simp; with_reducible rfl); rotate_left; (simp only [Act.put, act1, act2, act3, i64_w, i32_w]; rfl)
          refine pure_ (i := 11) (N := some 11) (v := ?_) (a' := ?_) (bL 12 4095) rfl rfl (any_of HT_.out (by kernel_rfl)) (fun _ _ _ h => h) (Or.inl ⟨by rfl, ?_⟩) ?_ ?_; rotate_left; (intro w'; go_simp; with_reducible rfl); rotate_left; (simp only [Act.put, act1, act2, act3, i64_w, i32_w]; rfl)
          refine done_ (done_of HT_.out (by kernel_rfl)) ?_
          have hb := hHeld.1
          replace SB := Aside0.mk (blk_below SB.out hb)
          replace WW := Aside0.mk (blk_below WW.out hb)
          replace GG := Aside0.mk (blk_below GG.out hb)
          replace BD := Aside0.mk (below_then BD.out BD.out.size hb)
          replace GE := Aside0.mk (Nat.le_trans (Nat.le_of_lt LS.out) GE.out)
          clear hb hHeld HT_ HW_ cS LS CR HOWN HNXT
          obtain ⟨κ, rfl⟩ : ∃ κ : Nat, kk = (κ : Int) := ⟨kk.toNat, by omega⟩
          obtain ⟨ad, ead, x0, x1, x2, x3, x4⟩ := at_T52 HL.out (κ : Int) q4 q5
          cases ead
          rw [Int.toNat_natCast] at x0
          clear x1 x2 x3 x4
          replace x0 := (BD.out.cell (World.block_lt_of_cell? w _ x0)).trans x0
          obtain ⟨f0, hf0⟩ : ∃ f0, f0 = (rd_T52 l (κ : Int)).f0 := ⟨_, rfl⟩
          rw [← hf0] at x0 q6 q7 Q8
          clear hf0
          obtain ⟨fk, rfl⟩ : ∃ fk : Nat, f0 = (fk : Int) := ⟨f0.toNat, by omega⟩
          rw [Int.toNat_natCast] at Q8
          have kn : κ < l.length := by omega
          have kn2 : ¬ l.length ≤ κ := by omega
          have fk1 : ¬ fk < 1 := by omega
          have fk0 : ¬ fk = 0 := by omega
          have fk5 : ¬ 5 < fk := by omega
          have fk6 : fk < 6 := by omega
          have fk7 : fk ≤ 5 := by omega
          have fz0 : (0 : Int) ≤ (fk : Int) := by omega
          have fz6 : (fk : Int) < 6 := by omega
          obtain ⟨y, hy⟩ : ∃ y, y = rd got (fk : Int) := ⟨_, rfl⟩
          have hyb := Q3.out fk fk6
          rw [← hy] at hyb Q8
          have cG : w10.cell? ⟨gw + 1, fk, none⟩ = some (.int .i64 y) := by rw [hy]; exact ai_cell GG.out fk (by rw [q2]; exact fk6)
          have fG := blk_frozen GG.out fk
          have nT : gt ≠ gw + 1 := blk_ne SG.out GG.out (by decide)
          have nS : gs ≠ gw + 1 := blk_ne SB.out GG.out (by decide)
          have nW : gw ≠ gw + 1 := by omega
          have hw : wrap64 (y + 1) = y + 1 := wrap_in _ (by omega) (by omega)
          have G11 := Aside0.mk (blk_put GG.out fk (.int .i64 (y + 1)) (ai_set got fk (y + 1)))
          have S11 := Aside0.mk (blk_far SB.out (p := ⟨gw + 1, fk, none⟩) nS (.int .i64 (y + 1)))
          have T11 := Aside0.mk (blk_far SG.out (p := ⟨gw + 1, fk, none⟩) nT (.int .i64 (y + 1)))
          have W11 := Aside0.mk (blk_far WW.out (p := ⟨gw + 1, fk, none⟩) nW (.int .i64 (y + 1)))
          have C11 := Aside0.mk (C3.out.far (p := ⟨gw + 1, fk, none⟩) (crd_ne C3.out GG.out (by decide)) (.int .i64 (y + 1)))
          have B11 := Aside0.mk (below_set (j := fk) (v := .int .i64 (y + 1)) BD.out (Nat.le_succ_of_le GW.out))
          have cT : (w10.setCell ⟨gw + 1, fk, none⟩ (.int .i64 (y + 1))).cell? ⟨gt, 0, none⟩ = some (.slice (some ⟨g3, 0, none⟩) 5 n3) := (blk_cell T11.out 0).trans rfl
          have cS : (w10.setCell ⟨gw + 1, fk, none⟩ (.int .i64 (y + 1))).cell? ⟨gs, 0, none⟩ = some (.slice (some ⟨g, 0, none⟩) 5 n) := (blk_cell S11.out 0).trans rfl
          have fS := blk_frozen S11.out 0
          have cT0 : w10.cell? ⟨gt, 0, none⟩ = some (.slice (some ⟨g3, 0, none⟩) 5 n3) := (blk_cell SG.out 0).trans rfl
          have cS0 : w10.cell? ⟨gs, 0, none⟩ = some (.slice (some ⟨g, 0, none⟩) 5 n) := (blk_cell SB.out 0).trans rfl
          have fS0 := blk_frozen SB.out 0
          have HY := Lib.hid hy
          clear hy
          clear SB SG C3 GG WW BD
          have HW3 := Lib.hid (show wrap64 ((j : Int) + 1) = ((j + 1 : Nat) : Int) from wrap_in _ (by omega) (by have := E2.out; omega))
          go_wp2_with fail
          clear hw cT cS fS cT0 cS0 fS0 cG fG x0
          have S12 := Aside0.mk (blk_put S11.out 0 (.slice (some ⟨g3, 0, none⟩) 5 n3) rfl)
          have C12 := Aside0.mk (C11.out.far (p := ⟨gs, 0, none⟩) (crd_ne C11.out S11.out (by decide)) (.slice (some ⟨g3, 0, none⟩) 5 n3))
          have W12 := Aside0.mk (blk_far W11.out (p := ⟨gs, 0, none⟩) (blk_ne W11.out S11.out (by decide)) (.slice (some ⟨g3, 0, none⟩) 5 n3))
          have G12 := Aside0.mk (blk_far G11.out (p := ⟨gs, 0, none⟩) (blk_ne G11.out S11.out (by decide)) (.slice (some ⟨g3, 0, none⟩) 5 n3))
          have B12 := Aside0.mk (below_set (j := 0) (v := (.slice (some ⟨g3, 0, none⟩) 5 n3)) B11.out GS.out)
          clear S11 C11 W11 G11 B11 T11
          go_roundg (N - (j + 1))
          case measure => omega
          case rel => exact ⟨j + 1, g3, n3, by rw [HW3.out], by omega, by omega, M3.out, S12, ⟨by rw [Q8.out]; exact C12.out⟩, W12, ⟨by rw [Q8.out]; exact G12.out⟩, B12⟩
        · obtain rfl : j = N := by omega
          have hld2 : ¬ (j : Int) < (j : Int) := by omega
          rw [E4.out] at CR GG
          obtain ⟨a0, a1, a2, a3, a4, a5, rfl⟩ := six E5.out
          clear E2 E3 E4 E5 E6 hlt hg1 hj hn
          go_wp2_with fail
          obtain ⟨v0, hv0⟩ : ∃ v0, v0 = wr := ⟨_, rfl⟩
          rw [← hv0] at SB CR WW GG BD ⊢
          clear hv0
          have MKS : Aside0 (∀ w' : World, Below v0.heap.size v0 w' → Below v0.heap.size v0 w' ∧ w'.cell? ⟨gw, 0, none⟩ = some (.int .i64 a0) ∧ w'.cell? ⟨gw, 1, none⟩ = some (.int .i64 a1) ∧ w'.cell? ⟨gw, 2, none⟩ = some (.int .i64 a2) ∧ w'.cell? ⟨gw, 3, none⟩ = some (.int .i64 a3) ∧ w'.cell? ⟨gw, 4, none⟩ = some (.int .i64 a4) ∧ w'.cell? ⟨gw, 5, none⟩ = some (.int .i64 a5) ∧ w'.cell? ⟨gw + 1, 0, none⟩ = some (.int .i64 a0) ∧ w'.cell? ⟨gw + 1, 1, none⟩ = some (.int .i64 a1) ∧ w'.cell? ⟨gw + 1, 2, none⟩ = some (.int .i64 a2) ∧ w'.cell? ⟨gw + 1, 3, none⟩ = some (.int .i64 a3) ∧ w'.cell? ⟨gw + 1, 4, none⟩ = some (.int .i64 a4) ∧ w'.cell? ⟨gw + 1, 5, none⟩ = some (.int .i64 a5) ∧ w'.cell? ⟨gs, 0, none⟩ = some (.slice (some ⟨g, 0, none⟩) 5 n)) := ⟨fun w' h => ⟨h, (h.cell (blk_lt WW.out)).trans ((blk_cell WW.out 0).trans rfl), (h.cell (blk_lt WW.out)).trans ((blk_cell WW.out 1).trans rfl), (h.cell (blk_lt WW.out)).trans ((blk_cell WW.out 2).trans rfl), (h.cell (blk_lt WW.out)).trans ((blk_cell WW.out 3).trans rfl), (h.cell (blk_lt WW.out)).trans ((blk_cell WW.out 4).trans rfl), (h.cell (blk_lt WW.out)).trans ((blk_cell WW.out 5).trans rfl), (h.cell (blk_lt GG.out)).trans ((blk_cell GG.out 0).trans rfl), (h.cell (blk_lt GG.out)).trans ((blk_cell GG.out 1).trans rfl), (h.cell (blk_lt GG.out)).trans ((blk_cell GG.out 2).trans rfl), (h.cell (blk_lt GG.out)).trans ((blk_cell GG.out 3).trans rfl), (h.cell (blk_lt GG.out)).trans ((blk_cell GG.out 4).trans rfl), (h.cell (blk_lt GG.out)).trans ((blk_cell GG.out 5).trans rfl), (h.cell (blk_lt SB.out)).trans ((blk_cell SB.out 0).trans rfl)⟩⟩
          refine start_ (n := 13) (S := fun w' => Below v0.heap.size v0 w' ∧ w'.cell? ⟨gw, 0, none⟩ = some (.int .i64 a0) ∧ w'.cell? ⟨gw, 1, none⟩ = some (.int .i64 a1) ∧ w'.cell? ⟨gw, 2, none⟩ = some (.int .i64 a2) ∧ w'.cell? ⟨gw, 3, none⟩ = some (.int .i64 a3) ∧ w'.cell? ⟨gw, 4, none⟩ = some (.int .i64 a4) ∧ w'.cell? ⟨gw, 5, none⟩ = some (.int .i64 a5) ∧ w'.cell? ⟨gw + 1, 0, none⟩ = some (.int .i64 a0) ∧ w'.cell? ⟨gw + 1, 1, none⟩ = some (.int .i64 a1) ∧ w'.cell? ⟨gw + 1, 2, none⟩ = some (.int .i64 a2) ∧ w'.cell? ⟨gw + 1, 3, none⟩ = some (.int .i64 a3) ∧ w'.cell? ⟨gw + 1, 4, none⟩ = some (.int .i64 a4) ∧ w'.cell? ⟨gw + 1, 5, none⟩ = some (.int .i64 a5) ∧ w'.cell? ⟨gs, 0, none⟩ = some (.slice (some ⟨g, 0, none⟩) 5 n)) (ds := []) (bL 13 0) (by kernel_rfl) rfl (by kernel_rfl) (MKS.out _ (below_drew1 (Below.refl _ _))) (fun hHeld => ?_)
          refine with_tabW frR21.tab frR21.bits (fun HT_ HW_ => ?_)
          generalize v0.drew = z0 at hHeld ⊢
          refine one_ (i := 0) (N := some 118) (bL 13 1) rfl rfl (one_of HT_.out (by kernel_rfl)) (by decide) (fun K hK => ?_)
          refine goes_ Try.func10 (by kernel_rfl) rfl #[] (by rfl) rfl rfl (by (try simp only [List.map_toArray, List.map_cons, List.map_nil]); first | done | rfl) ?_
          refine (sanity_any z0).mono ?_
          rintro e z1 ⟨rfl, hb⟩
          refine ⟨_, rfl, ?_⟩
          refine hK.out _ _ (MKS.out _ (below_then hHeld.1 hHeld.1.size hb)) (fun hHeld => ?_)
          clear hb
          clear hK K
          refine norm_ (a' := ?_) ?_ ?_
          rotate_left
          · show Act.put _ (some 118) _ = _
            simp only [Act.put, List.setIfInBounds_toArray, List.set_cons_zero, List.set_cons_succ, i64_w, i32_w]
            rfl
          refine pure_ (i := 1) (N := some 119) (v := ?_) (a' := ?_) (bL 13 3) rfl rfl (any_of HT_.out (by kernel_rfl)) (fun _ _ _ h => h) (Or.inl ⟨by rfl, ?_⟩) ?_ ?_; rotate_left; (intro w'; go_simp; with_reducible rfl); rotate_left; (simp only [Act.put, act1, act2, act3, i64_w, i32_w]; rfl)
          refine take_ (i := 2) (N := some 120) (v := ?_) (a' := ?_) (bL 13 7) rfl rfl (take_ofW HT_.out HW_.out (by kernel_rfl)) (fun _ _ _ h => h) (Or.inl ⟨by rfl, ?_⟩) hHeld ?_ ?_; rotate_left; (rintro w' ⟨s0, s1, s2, s3, s4, s5, s6, s7, s8, s9, s10, s11, s12, s13⟩; go_simp; with_reducible rfl); rotate_left; (simp only [Act.put, act1, act2, act3, i64_w, i32_w]; rfl)
          refine take_ (i := 3) (N := some 121) (v := ?_) (a' := ?_) (bL 13 15) rfl rfl (take_ofW HT_.out HW_.out (by kernel_rfl)) (fun _ _ _ h => h) (Or.inl ⟨by rfl, ?_⟩) hHeld ?_ ?_; rotate_left; (rintro w' ⟨s0, s1, s2, s3, s4, s5, s6, s7, s8, s9, s10, s11, s12, s13⟩; go_simp; with_reducible rfl); rotate_left; (simp only [Act.put, act1, act2, act3, i64_w, i32_w]; rfl)
          refine pure_ (i := 4) (N := some 122) (v := ?_) (a' := ?_) (bL 13 31) rfl rfl (any_of HT_.out (by kernel_rfl)) (fun _ _ _ h => h) (Or.inl ⟨by rfl, ?_⟩) ?_ ?_; rotate_left; (intro w'; go_simp; with_reducible rfl); rotate_left; (simp only [Act.put, act1, act2, act3, i64_w, i32_w]; rfl)
          refine pure_ (i := 5) (N := some 123) (v := ?_) (a' := ?_) (bL 13 63) rfl rfl (any_of HT_.out (by kernel_rfl)) (fun _ _ _ h => h) (Or.inl ⟨by rfl, ?_⟩) ?_ ?_; rotate_left; (intro w'; go_simp; with_reducible rfl); rotate_left; (simp only [Act.put, act1, act2, act3, i64_w, i32_w]; rfl)
          refine pure_ (i := 6) (N := some 124) (v := ?_) (a' := ?_) (bL 13 127) rfl rfl (any_of HT_.out (by kernel_rfl)) (fun _ _ _ h => h) (Or.inl ⟨by rfl, ?_⟩) ?_ ?_; rotate_left; (intro w'; go_simp; with_reducible rfl); rotate_left; (simp only [Act.put, act1, act2, act3, i64_w, i32_w]; rfl)
          refine pure_ (i := 7) (N := some 125) (v := ?_) (a' := ?_) (bL 13 255) rfl rfl (any_of HT_.out (by kernel_rfl)) (fun _ _ _ h => h) (Or.inl ⟨by rfl, ?_⟩) ?_ ?_; rotate_left; (intro w'; go_simp; with_reducible rfl); rotate_left; (simp only [Act.put, act1, act2, act3, i64_w, i32_w]; rfl)
          refine take_ (i := 8) (N := some 126) (v := ?_) (a' := ?_) (bL 13 511) rfl rfl (take_ofW HT_.out HW_.out (by kernel_rfl)) (fun _ _ _ h => h) (Or.inl ⟨by rfl, ?_⟩) hHeld ?_ ?_; rotate_left; (rintro w' ⟨s0, s1, s2, s3, s4, s5, s6, s7, s8, s9, s10, s11, s12, s13⟩; go_simp; with_reducible rfl); rotate_left; (simp only [Act.put, act1, act2, act3, i64_w, i32_w]; rfl)
          refine one_ (i := 9) (N := some 127) (bL 13 1023) rfl rfl (one_of HT_.out (by kernel_rfl)) (by decide) (fun K hK => ?_)
          refine value_ (v := .slice (some ⟨z1.heap.size, 0, none⟩) 5 5) (w1 := z1.alloc (.cells #[.int .i64 0, .int .i64 0, .int .i64 0, .int .i64 0, .int .i64 0] 3 (0, 0))) (by rfl) rfl (by have hmk := mk5 z1; first | (go_simp; done) | (go_simp; rfl)) ?_
          have hb : Below z1.heap.size z1 (z1.alloc (.cells #[.int .i64 0, .int .i64 0, .int .i64 0, .int .i64 0, .int .i64 0] 3 (0, 0))) := below_alloc (Below.refl _ _) _
          have KN := Aside0.mk (C_small [0, 0, 0, 0, 0] (by decide) (blk_new z1 (.cells #[.int .i64 0, .int .i64 0, .int .i64 0, .int .i64 0, .int .i64 0] 3 (0, 0))))
          refine hK.out _ _ (MKS.out _ (below_then hHeld.1 hHeld.1.size hb)) (fun hHeld => ?_)
          clear hb
          generalize z1.alloc (.cells #[.int .i64 0, .int .i64 0, .int .i64 0, .int .i64 0, .int .i64 0] 3 (0, 0)) = z2 at KN hHeld ⊢
          generalize z1.heap.size = kb at KN ⊢
          clear hK K
          refine norm_ (a' := ?_) ?_ ?_
          rotate_left
          · show Act.put _ (some 127) _ = _
            simp only [Act.put, List.setIfInBounds_toArray, List.set_cons_zero, List.set_cons_succ, i64_w, i32_w]
            rfl
          refine one_ (i := 10) (N := some 128) (bL 13 2047) rfl rfl (one_of HT_.out (by kernel_rfl)) (by decide) (fun K hK => ?_)
          refine goes_ Try.func21 (by kernel_rfl) rfl #[.slice (some ⟨g, 0, none⟩) 5 n, .slice (some ⟨kb, 0, none⟩) 5 5] (by rfl) rfl rfl (by (try simp only [List.map_toArray, List.map_cons, List.map_nil]); first | done | rfl) ?_
          refine (same_z z2 g n kb (CR.out.below hHeld.1) KN.out).mono ?_
          rintro e z3 ⟨rfl, hb⟩
          refine ⟨_, rfl, ?_⟩
          refine hK.out _ _ (MKS.out _ (below_then hHeld.1 hHeld.1.size hb)) (fun hHeld => ?_)
          clear hb
          clear hK K
          refine norm_ (a' := ?_) ?_ ?_
          rotate_left
          · show Act.put _ (some 128) _ = _
            simp only [Act.put, List.setIfInBounds_toArray, List.set_cons_zero, List.set_cons_succ, i64_w, i32_w]
            rfl
          refine pure_ (i := 11) (N := some 129) (v := ?_) (a' := ?_) (bL 13 4095) rfl rfl (any_of HT_.out (by kernel_rfl)) (fun _ _ _ h => h) (Or.inl ⟨by rfl, ?_⟩) ?_ ?_; rotate_left; (intro w'; go_simp; with_reducible rfl); rotate_left; (simp only [Act.put, act1, act2, act3, i64_w, i32_w]; rfl)
          refine pure_ (i := 12) (N := some 2) (v := ?_) (a' := ?_) (bL 13 8191) rfl rfl (any_of HT_.out (by kernel_rfl)) (fun _ _ _ h => h) (Or.inl ⟨by rfl, ?_⟩) ?_ ?_; rotate_left; (intro w'; go_simp; with_reducible rfl); rotate_left; (simp only [Act.put, act1, act2, act3, i64_w, i32_w]; rfl)
          refine done_ (done_of HT_.out (by kernel_rfl)) ?_
          have HB := Aside0.mk (below_then BD.out BD.out.size hHeld.1)
          clear hHeld HT_ HW_ MKS
          go_wp2_with fail
          go_ret
          exact ⟨rfl, HB.out⟩
end Go.Proofs.Ytmpeekkbmfbjeaa
namespace Go.Proofs.Ytmpeekkbmfbjeaa.P
open Go.RowKit Go.Proofs.YtmpeekkbmfbjeaaW.PrintWords Go.Proofs.YtmpeekkbmfbjeaaW.PrintLast Go.Proofs.YtmpeekkbmfbjeaaW.PrintMore
def solventlaw37_SchedFair.f (_k : Nat) (_l0 : List S52) : Option Bool := some true
theorem solventlaw37_SchedFair.calls (k : Nat) (A0 : Option Addr) (c0 : Nat) (l0 : List S52) (r : Bool) (w : World) (hr0 : Kd.C k52 w A0 l0.length l0) (hc0 : l0.length ≤ c0) (h : solventlaw37_SchedFair.f k l0 = some r) :
    Calls Try.prog 9 #[.slice A0 l0.length c0] w fun e w' => e = .returned (.bool r) ∧ Below w.heap.size w w' := by
  obtain rfl := Option.some.inj h
  exact fair_any A0 c0 l0 w hr0 hc0
end Go.Proofs.Ytmpeekkbmfbjeaa.P
namespace Go.Proofs.Ytmpeekkbmfbjeaa
theorem Pure.SchedFair (l : List P.S52) : ∃ k, P.solventlaw37_SchedFair.f k l = some true := ⟨0, rfl⟩
end Go.Proofs.Ytmpeekkbmfbjeaa

/- The walk of schedule.next: the choice of one task, and the turned credits. -/
import Derived.Test.YtmpeekkbmfbjeaaMapLit
import Derived.Test.YtmpeekkbmfbjeaaNextPure
namespace Go.Proofs.Ytmpeekkbmfbjeaa
open Go.RowKit Go.Lib Go.Proofs.Ytmpeekkbmfbjeaa.P Go.Proofs.YtmpeekkbmfbjeaaW.PrintWords Go.Proofs.YtmpeekkbmfbjeaaW.PrintLast Go.Proofs.YtmpeekkbmfbjeaaW.PrintMore
set_option linter.unusedVariables false
set_option linter.unusedSimpArgs false

def nxtR.T : Bool × List (List Nat × List Nat) := (true, [([], []), ([0], [0]), ([], []), ([2], [2]), ([1, 3], [1, 3]), ([4], [4]), ([], []), ([6], [6]), ([5, 7], [5, 7]), ([1, 3, 0, 1, 2, 3, 4, 5, 6, 7, 8], [1, 3]), ([9, 8, 7, 0, 1, 2, 3, 4, 5, 6, 7, 8], [8, 9])])
def nxtR.B : List Nat := [0, 1, 0, 4, 15, 31, 0, 64, 255, 511, 1023]
theorem nxtR.tab : rtab .any (opsOf Try.f25 9) = nxtR.T := by kernel_rfl
theorem nxtR.bits : waitsOk nxtR.T.2 nxtR.B = true := by kernel_rfl
def nxtQ.T : Bool × List (List Nat × List Nat) := (true, [([], []), ([0], [0]), ([1], [1]), ([2], [2]), ([3, 2], [2, 3]), ([2], [2]), ([5, 2], [2, 5]), ([4, 6, 2], [2, 4, 6]), ([7, 2], [2, 7]), ([2], [2]), ([9, 2], [2, 9]), ([2], [2]), ([11, 2], [2, 11]), ([10, 12, 2], [2, 10, 12]), ([13, 2], [2, 13]), ([8, 14, 2], [2, 8, 14]), ([2, 15], [2, 15])])
def nxtQ.B : List Nat := [0, 1, 3, 7, 15, 7, 39, 127, 255, 7, 519, 7, 2055, 7687, 15879, 32767, 65535]
theorem nxtQ.tab : rtab .any (opsOf Try.f25 11) = nxtQ.T := by kernel_rfl
theorem nxtQ.bits : waitsOk nxtQ.T.2 nxtQ.B = true := by kernel_rfl

theorem wrap_in2 {x v : Int} {i : Nat} (h1 : -1000 ≤ x) (h2 : x ≤ 1000 + 4 * (i : Int)) (h3 : 0 ≤ v) (h4 : v ≤ 4) (h5 : i < 5) : wrap64 (x + v) = x + v := wrap_in _ (by omega) (by omega)
attribute [local go_sem] max2_int min2_int max_two min_two

def clampTo (k : Nat) (c : List Int) : List Int := (c.take k).map clamp ++ c.drop k
theorem clampTo_zero (c : List Int) : clampTo 0 c = c := by simp [clampTo]
theorem clampTo_all (c : List Int) : clampTo c.length c = c.map clamp := by simp [clampTo]
theorem clampTo_len (k : Nat) (c : List Int) : (clampTo k c).length = c.length := by simp [clampTo]; omega
theorem rd_clampTo (k : Nat) (c : List Int) (h : k < c.length) : rd (clampTo k c) (k : Int) = rd c (k : Int) := by
  simp only [rd, clampTo, List.getD_eq_getElem?_getD, Int.toNat_natCast]
  rw [List.getElem?_append_right (by simp only [List.length_map, List.length_take]; omega)]
  have e : k - ((c.take k).map clamp).length = 0 := by simp only [List.length_map, List.length_take]; omega
  rw [e, List.getElem?_drop]
  rfl
theorem set_clampTo (k : Nat) (c : List Int) (h : k < c.length) : (clampTo k c).set k (clamp (rd c (k : Int))) = clampTo (k + 1) c := by
  unfold clampTo
  have e : ((c.take k).map clamp).length = k := by simp only [List.length_map, List.length_take]; omega
  rw [List.set_append_right _ _ (by omega), e, Nat.sub_self, List.drop_eq_getElem_cons h, List.set_cons_zero, List.take_succ_eq_append_getElem h, List.map_append]
  simp [rd, List.getD_eq_getElem?_getD, h]

theorem nxt_urg {l : List S58} {left cr : List Int} (h : bestU l left ≥ 0) : nxt l left cr = (cr, bestU l left) := by unfold nxt; rw [if_pos h]
theorem nxt_not {l : List S58} {left cr c' : List Int} {sum top : Int} (h : ¬ bestU l left ≥ 0) (hf : nFold l left cr 5 = (c', sum, top)) :
    nxt l left cr = if top = 0 then (c', -1) else ((c'.set (top - 1).toNat (rd c' (top - 1) - sum)).map clamp, bestC l left top) := by
  unfold nxt
  rw [if_neg h, hf]

set_option maxHeartbeats 16000000 in
set_option maxRecDepth 1000000 in
theorem next_any (A : Option Addr) (c : Nat) (l : List S58) (B : Option Addr) (d : Nat) (left : List Int) (g n cc : Nat) (cr : List Int) (w : World)
    (hl : ∀ W, KeepBut w W g none → Kd.C k58 W A l.length l) (hle : ∀ W, KeepBut w W g none → Kd.C (Kd.int .i64) W B left.length left) (hin : InL l left) (hcr : Crd w g n cr) (hok : COk cr) :
    Calls Try.prog 25 #[.agg #[.slice (some ⟨g, 0, none⟩) 5 cc], .slice A l.length c, .slice B left.length d] w fun e w' =>
      e = .returned (.int .i64 (nxt l left cr).2) ∧ Crd w' g n (nxt l left cr).1 ∧ Turn g w w' := by
  have hu26 := Try.underlying26
  have HU : Aside0 (∀ W, KeepBut w W g none → Calls Try.prog 30 #[.slice A l.length c, .slice B left.length d, .int .i64 1, .func (.func 31) #[] #[]] W fun e w' => e = .returned (.int .i64 (bestU l left)) ∧ Below W.heap.size W w') := ⟨fun W hW => bestU_any A c l B d left W (hl W hW) (hle W hW) hin⟩
  have HC : Aside0 (∀ (kind : Int) (W : World), KeepBut w W g none → Calls Try.prog 30 #[.slice A l.length c, .slice B left.length d, .int .i64 kind, .func (.func 35) #[] #[]] W fun e w' => e = .returned (.int .i64 (bestC l left kind)) ∧ Below W.heap.size W w') := ⟨fun kind W hW => bestC_any A c l B d left kind W (hl W hW) (hle W hW) hin⟩
  have HNB : Aside0 (∀ k, k ≤ 5 → NB k (nFold l left cr k)) := ⟨nFold_bd l left cr hok⟩
  have HCR := Aside0.mk hcr
  have hglt : g < w.heap.size := hcr.lt
  obtain ⟨m, hm⟩ : ∃ m, m = l.length := ⟨_, rfl⟩
  obtain ⟨q, hq⟩ : ∃ q, q = left.length := ⟨_, rfl⟩
  rw [← hm, ← hq] at HU HC ⊢
  clear hl hle hin hcr hok hm hq
  go_enter Try.func25, Try.ntmps25
  go_wp2_with fail
  have K0 : Turn g w (w.alloc (.cells #[.slice (some ⟨g, 0, none⟩) 5 cc] 26 (0, 0))) := Turn.of (below_alloc (Below.refl _ _) _)
  have C0 : (w.alloc (.cells #[.slice (some ⟨g, 0, none⟩) 5 cc] 26 (0, 0))).cell? ⟨w.heap.size, 0, none⟩ = some (.slice (some ⟨g, 0, none⟩) 5 cc) := (blk_cell (blk_new w _) 0).trans rfl
  have D0 := Aside0.mk (HCR.out.below (below_alloc (Below.refl _ _) (.cells #[.slice (some ⟨g, 0, none⟩) 5 cc] 26 (0, 0))))
  refine (HU.out _ K0.keep).mono ?_
  rintro e w1 ⟨rfl, hb⟩
  have K1 := Aside0.mk (K0.below hb)
  have C1 := Aside0.mk (pw_cell_below hb C0)
  have D1 := Aside0.mk (D0.out.below hb)
  clear K0 C0 D0 hb HCR HU
  by_cases hu : bestU l left ≥ 0
  · have HF := Lib.hid (nxt_urg (cr := cr) hu)
    have hud : decide (bestU l left ≥ 0) = true := decide_eq_true hu
    generalize bestU l left = u at hu hud HF ⊢
    go_wp2_with fail
    go_ret
    rw [HF.out]
    exact ⟨rfl, D1.out, K1.out⟩
  have HNU := Lib.hid hu
  have hud : decide (bestU l left ≥ 0) = false := decide_eq_false hu
  have hu' : bestU l left < 0 := by omega
  clear hu
  go_wp2_with fail
  have hbs : w.heap.size < w1.heap.size := World.block_lt_of_cell? _ _ C1.out
  have HBS := Aside0.mk hbs
  clear hbs hud hu'
  go_loopg [8, 9, 10] 5 (fun g1 vs vt vk wr => ∃ (i : Nat) (c' : List Int) (sum top : Int), vs = .int .i64 sum ∧ vt = .int .i64 top ∧ vk = .int .i64 ((i : Int) + 1) ∧ i ≤ 5 ∧ 5 - i ≤ g1 ∧ Hid (nFold l left cr i = (c', sum, top)) ∧ Aside0 (Crd wr g n c') ∧ Aside0 (Turn g w wr) ∧ Aside0 (wr.cell? ⟨w.heap.size, 0, none⟩ = some (.slice (some ⟨g, 0, none⟩) 5 cc)))
  case atStart => exact ⟨0, cr, 0, 0, rfl, rfl, rfl, by omega, by omega, rfl, D1, K1, C1⟩
  case round =>
    clear D1 K1 C1
    obtain ⟨i, c', sum, top, rfl, rfl, rfl, hi5, hg1, HF, D, K, C⟩ := hrel
    have nb := HNB.out i hi5
    rw [HF.out] at nb
    have hs0 : 0 ≤ sum := nb.sum0
    have hs1 : sum ≤ 4 * (i : Int) := nb.sum1
    have ht0 : 0 ≤ top := nb.top0
    have ht1 : top ≤ (i : Int) := nb.top1
    have hlen : c'.length = 5 := nb.len
    have HLN := Lib.hid hlen
    have NBD := Aside0.mk nb.bd
    clear nb hlen
    by_cases hlt : i < 5
    · have hz : (i : Int) + 1 ≤ 5 := by omega
      go_wp2_with fail
      refine (HC.out _ _ K.out.keep).mono ?_
      rintro e w2 ⟨rfl, hb⟩
      have K2 := Aside0.mk (K.out.below hb)
      have C2 := Aside0.mk (pw_cell_below hb C.out)
      have D2 := Aside0.mk (D.out.below hb)
      clear K C D hb
      have STEP : Aside0 (nFold l left cr (i + 1) = nRound l left (c', sum, top) i) := ⟨by show nRound l left (nFold l left cr i) i = _; rw [HF.out]⟩
      by_cases hbc : bestC l left ((i : Int) + 1) < 0
      · have hbd : decide (bestC l left ((i : Int) + 1) < 0) = true := decide_eq_true hbc
        have HF2 := Lib.hid (STEP.out.trans (by unfold nRound; rw [if_pos hbc]))
        clear STEP
        generalize bestC l left ((i : Int) + 1) = bc at hbc hbd ⊢
        go_wp2_with fail
        go_roundg (5 - (i + 1))
        case measure => omega
        case rel => exact ⟨i + 1, c', sum, top, rfl, rfl, by go_num, by omega, by omega, HF2, D2, K2, C2⟩
      · have hbd : decide (bestC l left ((i : Int) + 1) < 0) = false := decide_eq_false hbc
        have hst := STEP.out
        unfold nRound at hst
        rw [if_neg hbc] at hst
        simp only [] at hst
        have HST := Lib.hid hst
        have hbc2 : 0 ≤ bestC l left ((i : Int) + 1) := by omega
        clear STEP hst hbc
        generalize bestC l left ((i : Int) + 1) = bc at hbc2 hbd ⊢
        obtain ⟨x, hx⟩ : ∃ x, x = rd c' (i : Int) := ⟨_, rfl⟩
        have hx0 := NBD.out i hlt
        rw [← hx] at hx0 HST
        obtain ⟨hx1, hx2⟩ := hx0
        have hcx : w2.cell? ⟨g, i, none⟩ = some (.int .i64 x) := by rw [hx]; exact D2.out.cell i (by rw [HLN.out]; exact hlt)
        have HX := Lib.hid hx
        clear hx
        obtain ⟨v, hv⟩ : ∃ v, v = wgt ((i : Int) + 1) := ⟨_, rfl⟩
        have hv0 := wgt_bd ((i : Int) + 1)
        rw [← hv] at hv0 HST
        obtain ⟨hv1, hv2⟩ := hv0
        have HW : Aside0 (∀ W : World, Calls Try.prog 17 #[.int .i64 ((i : Int) + 1)] W fun e w' => e = .returned (.int .i64 v) ∧ Below W.heap.size W w') := ⟨fun W => by rw [hv]; exact weight_any _ W⟩
        have HV := Lib.hid hv
        clear hv
        have hi0 : (0 : Int) ≤ (i : Int) := by omega
        have hi1 : (i : Int) < 5 := by omega
        have hw1 : wrap64 (i : Int) = (i : Int) := wrap_in _ (by omega) (by omega)
        have cC := C2.out
        go_wp2_with fail
        refine start_ (n := 11) (S := fun w' => w'.cell? ⟨w.heap.size, 0, none⟩ = some (.slice (some ⟨g, 0, none⟩) 5 cc) ∧ w'.cell? ⟨g, i, none⟩ = some (.int .i64 x)) (ds := [10]) (bL 11 0) (by kernel_rfl) rfl (by kernel_rfl) ⟨cC, hcx⟩ (fun hHeld => ?_)
        refine with_tabW nxtR.tab nxtR.bits (fun HT_ HW_ => ?_)
        have K3 := Aside0.mk (K2.out.below (below_drew1 (Below.refl _ _)))
        have D3 := Aside0.mk (D2.out.below (below_drew1 (Below.refl _ _)))
        clear K2 C2 D2 cC hcx
        generalize w2.drew = wd at K3 D3 hHeld ⊢
        refine pure_ (i := 0) (N := some 28) (v := ?_) (a' := ?_) (bL 11 1) rfl rfl (any_of HT_.out (by kernel_rfl)) (fun _ _ _ h => h) (Or.inl ⟨by rfl, ?_⟩) ?_ ?_; rotate_left; (intro w'; go_simp; with_reducible rfl); rotate_left; (simp only [Act.put, act1, act2, act3, i64_w, i32_w]; rfl)
        refine take_ (i := 1) (N := some 29) (v := ?_) (a' := ?_) (bL 11 3) rfl rfl (take_ofW HT_.out HW_.out (by kernel_rfl)) (fun _ _ _ h => h) (Or.inl ⟨by rfl, ?_⟩) hHeld ?_ ?_; rotate_left; (rintro w' ⟨s0, s1⟩; go_simp; with_reducible rfl); rotate_left; (simp only [Act.put, act1, act2, act3, i64_w, i32_w]; rfl)
        refine pure_ (i := 2) (N := some 30) (v := ?_) (a' := ?_) (bL 11 7) rfl rfl (any_of HT_.out (by kernel_rfl)) (fun _ _ _ h => h) (Or.inl ⟨by rfl, ?_⟩) ?_ ?_; rotate_left; (intro w'; go_simp; with_reducible rfl); rotate_left; (simp only [Act.put, act1, act2, act3, i64_w, i32_w]; rfl)
        refine pure_ (i := 3) (N := some 31) (v := ?_) (a' := ?_) (bL 11 15) rfl rfl (any_of HT_.out (by kernel_rfl)) (fun _ _ _ h => h) (Or.inl ⟨by rfl, ?_⟩) ?_ ?_; rotate_left; (intro w'; go_simp; with_reducible rfl); rotate_left; (simp only [Act.put, act1, act2, act3, i64_w, i32_w]; rfl)
        refine pure_ (i := 4) (N := some 32) (v := ?_) (a' := ?_) (bL 11 31) rfl rfl (any_of HT_.out (by kernel_rfl)) (fun _ _ _ h => h) (Or.inl ⟨by rfl, ?_⟩) ?_ ?_; rotate_left; (intro w'; go_simp; with_reducible rfl); rotate_left; (simp only [Act.put, act1, act2, act3, i64_w, i32_w]; rfl)
        refine take_ (i := 5) (N := some 33) (v := ?_) (a' := ?_) (bL 11 63) rfl rfl (take_ofW HT_.out HW_.out (by kernel_rfl)) (fun _ _ _ h => h) (Or.inl ⟨by rfl, ?_⟩) hHeld ?_ ?_; rotate_left; (rintro w' ⟨s0, s1⟩; go_simp; with_reducible rfl); rotate_left; (simp only [Act.put, act1, act2, act3, i64_w, i32_w]; rfl)
        refine pure_ (i := 6) (N := some 34) (v := ?_) (a' := ?_) (bL 11 127) rfl rfl (any_of HT_.out (by kernel_rfl)) (fun _ _ _ h => h) (Or.inl ⟨by rfl, ?_⟩) ?_ ?_; rotate_left; (intro w'; go_simp; with_reducible rfl); rotate_left; (simp only [Act.put, act1, act2, act3, i64_w, i32_w]; rfl)
        refine one_ (i := 7) (N := some 35) (bL 11 255) rfl rfl (one_of HT_.out (by kernel_rfl)) (by decide) (fun K hK => ?_)
        refine goes_ Try.func17 (by kernel_rfl) rfl #[.int .i64 ((i : Int) + 1)] (by rfl) rfl rfl (by (try simp only [List.map_toArray, List.map_cons, List.map_nil]); first | done | rfl) ?_
        refine (HW.out _).mono ?_
        rintro e w3 ⟨rfl, hb⟩
        refine ⟨_, rfl, ?_⟩
        refine hK.out _ _ ⟨pw_cell_below hb hHeld.1, pw_cell_below hb hHeld.2⟩ (fun hHeld => ?_)
        have K4 := Aside0.mk (K3.out.below hb)
        have D4 := Aside0.mk (D3.out.below hb)
        clear K3 D3 hb
        have hxv : wrap64 (x + v) = x + v := wrap_in2 hx1 hx2 hv1 hv2 hlt
        clear hK K
        refine norm_ (a' := ?_) ?_ ?_
        rotate_left
        · show Act.put _ (some 35) _ = _
          simp only [Act.put, List.setIfInBounds_toArray, List.set_cons_zero, List.set_cons_succ, i64_w, i32_w]
          rfl
        refine pure_ (i := 8) (N := some 36) (v := ?_) (a' := ?_) (bL 11 511) rfl rfl (any_of HT_.out (by kernel_rfl)) (fun _ _ _ h => h) (Or.inl ⟨by rfl, ?_⟩) ?_ ?_; rotate_left; (intro w'; go_simp; with_reducible rfl); rotate_left; (simp only [Act.put, act1, act2, act3, i64_w, i32_w]; rfl)
        refine pure_ (i := 9) (N := some 37) (v := ?_) (a' := ?_) (bL 11 1023) rfl rfl (any_of HT_.out (by kernel_rfl)) (fun _ _ _ h => h) (Or.inl ⟨by rfl, ?_⟩) ?_ ?_; rotate_left; (intro w'; go_simp; with_reducible rfl); rotate_left; (simp only [Act.put, act1, act2, act3, i64_w, i32_w]; rfl)
        refine last_ (i := 10) (N := none) (bL 11 2047) rfl rfl (one_of HT_.out (by kernel_rfl)) (by decide) (fun K hK => ?_)
        have cX := hHeld.2
        have fX := D4.out.frozen i
        refine skip_ (w1 := w3.setCell ⟨g, i, none⟩ (.int .i64 (x + v))) (by rfl) rfl (by first | (go_simp; done) | (go_simp; rfl)) ?_
        have K5 := Aside0.mk (K4.out.set i (.int .i64 (x + v)))
        have D5 := Aside0.mk (D4.out.set i (x + v))
        have C5 : (w3.setCell ⟨g, i, none⟩ (.int .i64 (x + v))).cell? ⟨w.heap.size, 0, none⟩ = some (.slice (some ⟨g, 0, none⟩) 5 cc) := (cell_far (p := ⟨g, i, none⟩) (Nat.ne_of_gt hglt) _).trans hHeld.1
        have X5 : (w3.setCell ⟨g, i, none⟩ (.int .i64 (x + v))).cell? ⟨g, i, none⟩ = some (.int .i64 (x + v)) := by rw [D5.out.cell i (by rw [List.length_set, HLN.out]; exact hlt), rd_set _ _ _ _ (by rw [HLN.out]; exact hlt), if_pos rfl]
        refine hK.out _ _ ?_
        have C6 := Aside0.mk C5
        clear K4 D4 cX fX C5 X5 hHeld
        generalize w3.setCell ⟨g, i, none⟩ (.int .i64 (x + v)) = w4 at K5 D5 C6 ⊢
        clear hK K
        refine done_ (done_of HT_.out (by kernel_rfl)) ?_
        clear HT_ HW_ hxv hw1
        have C5 := C6
        clear C6
        go_wp2_with fail
        refine (HW.out _).mono ?_
        rintro e w5 ⟨rfl, hb⟩
        have K6 := Aside0.mk (K5.out.below hb)
        have D6 := Aside0.mk (D5.out.below hb)
        have C6 := Aside0.mk (pw_cell_below hb C5.out)
        clear K5 D5 C5 hb HW
        have hsv0 : 0 ≤ sum + v := by omega
        have hsv1 : sum + v ≤ 24 := by omega
        by_cases ht : top = 0
        · subst ht
          have HF2 := Lib.hid (HST.out.trans (by rw [if_pos (Or.inl rfl)]))
          have cC := C6.out
          clear HST
          go_wp2_with fail
          go_quiet (fail)
          go_wp2_with fail
          clear cC
          go_roundg (5 - (i + 1))
          case measure => omega
          case rel => exact ⟨i + 1, _, _, _, rfl, rfl, by go_num, by omega, by omega, HF2, D6, ⟨K6.out.below (pw_below_drewN (Below.refl _ _) _)⟩, C6⟩
        · have htb : (top == 0) = false := by simp [ht]
          obtain ⟨t, rfl⟩ : ∃ t : Nat, top = (t : Int) + 1 := ⟨(top - 1).toNat, by omega⟩
          have hti : t < i := by omega
          have hne : (i : Nat) ≠ t := by omega
          obtain ⟨y, hy⟩ : ∃ y, y = rd c' (t : Int) := ⟨_, rfl⟩
          have cC := C6.out
          have cX : w5.cell? ⟨g, i, none⟩ = some (.int .i64 (x + v)) := by rw [D6.out.cell i (by rw [List.length_set, HLN.out]; exact hlt), rd_set _ _ _ _ (by rw [HLN.out]; exact hlt), if_pos rfl]
          have cY : w5.cell? ⟨g, t, none⟩ = some (.int .i64 y) := by rw [hy, D6.out.cell t (by rw [List.length_set, HLN.out]; omega), rd_set _ _ _ _ (by rw [HLN.out]; exact hlt), if_neg (fun e => hne e.symm)]
          have hst2 := HST.out
          rw [show (t : Int) + 1 - 1 = (t : Int) by omega, ← hy] at hst2
          have HST2 := Lib.hid hst2
          clear HST hst2 hy
          have ht2 : (0 : Int) ≤ (t : Int) := by omega
          have ht3 : (t : Int) < 5 := by omega
          have HN0 := Lib.hid ht
          have hw1 : wrap64 (i : Int) = (i : Int) := wrap_in _ (by omega) (by omega)
          have hw2 : wrap64 (t : Int) = (t : Int) := wrap_in _ (by clear hw1; omega) (by clear hw1; omega)
          go_wp2_with fail
          refine start_ (n := 17) (S := fun w' => w'.cell? ⟨w.heap.size, 0, none⟩ = some (.slice (some ⟨g, 0, none⟩) 5 cc) ∧ w'.cell? ⟨g, i, none⟩ = some (.int .i64 (x + v)) ∧ w'.cell? ⟨g, t, none⟩ = some (.int .i64 y)) (ds := []) (bL 17 0) (by kernel_rfl) rfl (by kernel_rfl) ⟨cC, cX, cY⟩ (fun hHeld => ?_)
          refine with_tabW nxtQ.tab nxtQ.bits (fun HT_ HW_ => ?_)
          have K7 := Aside0.mk (K6.out.below (below_drew1 (Below.refl _ _)))
          have D7 := Aside0.mk (D6.out.below (below_drew1 (Below.refl _ _)))
          clear K6 C6 D6 cC cX cY
          generalize w5.drew = w6 at K7 D7 hHeld ⊢
          refine pure_ (i := 0) (N := some 42) (v := ?_) (a' := ?_) (bL 17 1) rfl rfl (any_of HT_.out (by kernel_rfl)) (fun _ _ _ h => h) (Or.inl ⟨by rfl, ?_⟩) ?_ ?_; rotate_left; (intro w'; go_simp; with_reducible rfl); rotate_left; (simp only [Act.put, act1, act2, act3, i64_w, i32_w]; rfl)
          refine pure_ (i := 1) (N := some 43) (v := ?_) (a' := ?_) (bL 17 3) rfl rfl (any_of HT_.out (by kernel_rfl)) (fun _ _ _ h => h) (Or.inl ⟨by rfl, ?_⟩) ?_ ?_; rotate_left; (intro w'; go_simp; with_reducible rfl); rotate_left; (simp only [Act.put, act1, act2, act3, i64_w, i32_w]; rfl)
          refine pure_ (i := 2) (N := some 44) (v := ?_) (a' := ?_) (bL 17 7) rfl rfl (any_of HT_.out (by kernel_rfl)) (fun _ _ _ h => h) (Or.inl ⟨by rfl, ?_⟩) ?_ ?_; rotate_left; (intro w'; go_simp; with_reducible rfl); rotate_left; (simp only [Act.put, act1, act2, act3, i64_w, i32_w]; rfl)
          refine pure_ (i := 3) (N := some 45) (v := ?_) (a' := ?_) (bL 17 15) rfl rfl (any_of HT_.out (by kernel_rfl)) (fun _ _ _ h => h) (Or.inl ⟨by rfl, ?_⟩) ?_ ?_; rotate_left; (intro w'; go_simp; with_reducible rfl); rotate_left; (simp only [Act.put, act1, act2, act3, i64_w, i32_w]; rfl)
          refine take_ (i := 4) (N := some 46) (v := ?_) (a' := ?_) (bL 17 31) rfl rfl (take_ofW HT_.out HW_.out (by kernel_rfl)) (fun _ _ _ h => h) (Or.inl ⟨by rfl, ?_⟩) hHeld ?_ ?_; rotate_left; (rintro w' ⟨s0, s1, s2⟩; go_simp; with_reducible rfl); rotate_left; (simp only [Act.put, act1, act2, act3, i64_w, i32_w]; rfl)
          refine pure_ (i := 5) (N := some 47) (v := ?_) (a' := ?_) (bL 17 63) rfl rfl (any_of HT_.out (by kernel_rfl)) (fun _ _ _ h => h) (Or.inl ⟨by rfl, ?_⟩) ?_ ?_; rotate_left; (intro w'; go_simp; with_reducible rfl); rotate_left; (simp only [Act.put, act1, act2, act3, i64_w, i32_w]; rfl)
          refine pure_ (i := 6) (N := some 48) (v := ?_) (a' := ?_) (bL 17 127) rfl rfl (any_of HT_.out (by kernel_rfl)) (fun _ _ _ h => h) (Or.inl ⟨by rfl, ?_⟩) ?_ ?_; rotate_left; (intro w'; go_simp; with_reducible rfl); rotate_left; (simp only [Act.put, act1, act2, act3, i64_w, i32_w]; rfl)
          refine pure_ (i := 7) (N := some 49) (v := ?_) (a' := ?_) (bL 17 255) rfl rfl (any_of HT_.out (by kernel_rfl)) (fun _ _ _ h => h) (Or.inl ⟨by rfl, ?_⟩) ?_ ?_; rotate_left; (intro w'; go_simp; with_reducible rfl); rotate_left; (simp only [Act.put, act1, act2, act3, i64_w, i32_w]; rfl)
          refine take_ (i := 8) (N := some 50) (v := ?_) (a' := ?_) (bL 17 511) rfl rfl (take_ofW HT_.out HW_.out (by kernel_rfl)) (fun _ _ _ h => h) (Or.inl ⟨by rfl, ?_⟩) hHeld ?_ ?_; rotate_left; (rintro w' ⟨s0, s1, s2⟩; go_simp; with_reducible rfl); rotate_left; (simp only [Act.put, act1, act2, act3, i64_w, i32_w]; rfl)
          refine pure_ (i := 9) (N := some 51) (v := ?_) (a' := ?_) (bL 17 1023) rfl rfl (any_of HT_.out (by kernel_rfl)) (fun _ _ _ h => h) (Or.inl ⟨by rfl, ?_⟩) ?_ ?_; rotate_left; (intro w'; go_simp; with_reducible rfl); rotate_left; (simp only [Act.put, act1, act2, act3, i64_w, i32_w]; rfl)
          refine take_ (i := 10) (N := some 52) (v := ?_) (a' := ?_) (bL 17 2047) rfl rfl (take_ofW HT_.out HW_.out (by kernel_rfl)) (fun _ _ _ h => h) (Or.inl ⟨by rfl, ?_⟩) hHeld ?_ ?_; rotate_left; (rintro w' ⟨s0, s1, s2⟩; go_simp; with_reducible rfl); rotate_left; (simp only [Act.put, act1, act2, act3, i64_w, i32_w]; rfl)
          refine pure_ (i := 11) (N := some 53) (v := ?_) (a' := ?_) (bL 17 4095) rfl rfl (any_of HT_.out (by kernel_rfl)) (fun _ _ _ h => h) (Or.inl ⟨by rfl, ?_⟩) ?_ ?_; rotate_left; (intro w'; go_simp; with_reducible rfl); rotate_left; (simp only [Act.put, act1, act2, act3, i64_w, i32_w]; rfl)
          refine pure_ (i := 12) (N := some 54) (v := ?_) (a' := ?_) (bL 17 8191) rfl rfl (any_of HT_.out (by kernel_rfl)) (fun _ _ _ h => h) (Or.inl ⟨by rfl, ?_⟩) ?_ ?_; rotate_left; (intro w'; go_simp; with_reducible rfl); rotate_left; (simp only [Act.put, act1, act2, act3, i64_w, i32_w]; rfl)
          refine pure_ (i := 13) (N := some 55) (v := ?_) (a' := ?_) (bL 17 16383) rfl rfl (any_of HT_.out (by kernel_rfl)) (fun _ _ _ h => h) (Or.inl ⟨by rfl, ?_⟩) ?_ ?_; rotate_left; (intro w'; go_simp; with_reducible rfl); rotate_left; (simp only [Act.put, act1, act2, act3, i64_w, i32_w]; rfl)
          refine take_ (i := 14) (N := some 56) (v := ?_) (a' := ?_) (bL 17 32767) rfl rfl (take_ofW HT_.out HW_.out (by kernel_rfl)) (fun _ _ _ h => h) (Or.inl ⟨by rfl, ?_⟩) hHeld ?_ ?_; rotate_left; (rintro w' ⟨s0, s1, s2⟩; go_simp; with_reducible rfl); rotate_left; (simp only [Act.put, act1, act2, act3, i64_w, i32_w]; rfl)
          refine pure_ (i := 15) (N := some 57) (v := ?_) (a' := ?_) (bL 17 65535) rfl rfl (any_of HT_.out (by kernel_rfl)) (fun _ _ _ h => h) (Or.inl ⟨by rfl, ?_⟩) ?_ ?_; rotate_left; (intro w'; go_simp; with_reducible rfl); rotate_left; (simp only [Act.put, act1, act2, act3, i64_w, i32_w]; rfl)
          refine pure_ (i := 16) (N := some 58) (v := ?_) (a' := ?_) (bL 17 131071) rfl rfl (any_of HT_.out (by kernel_rfl)) (fun _ _ _ h => h) (Or.inl ⟨by rfl, ?_⟩) ?_ ?_; rotate_left; (intro w'; go_simp; with_reducible rfl); rotate_left; (simp only [Act.put, act1, act2, act3, i64_w, i32_w]; rfl)
          refine done_ (done_of HT_.out (by kernel_rfl)) ?_
          have C7 := Aside0.mk hHeld.1
          clear hHeld HT_ HW_
          clear hw1 hw2 ht hne
          by_cases hgt : x + v > y
          · have HF2 := Lib.hid (HST2.out.trans (by rw [if_pos (Or.inr hgt)]))
            have hgd : decide (x + v > y) = true := decide_eq_true hgt
            clear HST2
            go_wp2_with fail
            go_roundg (5 - (i + 1))
            case measure => omega
            case rel => exact ⟨i + 1, _, _, _, rfl, rfl, by go_num, by omega, by omega, HF2, D7, K7, C7⟩
          · have HF2 := Lib.hid (HST2.out.trans (by rw [if_neg (fun h => h.elim HN0.out hgt)]))
            have hgd : decide (x + v > y) = false := decide_eq_false hgt
            clear HST2
            go_wp2_with fail
            go_roundg (5 - (i + 1))
            case measure => omega
            case rel => exact ⟨i + 1, _, _, _, rfl, rfl, by go_num, by omega, by omega, HF2, D7, K7, C7⟩
    · obtain rfl : i = 5 := by omega
      have hz : ¬ ((5 : Nat) : Int) + 1 ≤ 5 := by omega
      have HN := Lib.hid (nxt_not (Int.not_le.2 HNU.out) HF.out)
      clear HNU HF HNB
      by_cases ht : top = 0
      · subst ht
        rw [if_pos rfl] at HN
        go_wp2_with fail
        go_ret
        rw [HN.out]
        exact ⟨rfl, D.out, K.out⟩
      · rw [if_neg ht] at HN
        have htb : (top == 0) = false := by simp [ht]
        obtain ⟨t, rfl⟩ : ∃ t : Nat, top = (t : Int) + 1 := ⟨(top - 1).toNat, by omega⟩
        have hti : t < 5 := by omega
        obtain ⟨y, hy⟩ : ∃ y, y = rd c' (t : Int) := ⟨_, rfl⟩
        obtain ⟨hy1, hy2⟩ := NBD.out t hti
        rw [← hy] at hy1 hy2
        have hn2 := HN.out
        rw [show (t : Int) + 1 - 1 = (t : Int) by omega, Int.toNat_natCast, ← hy] at hn2
        have HN2 := Lib.hid hn2
        have cC := C.out
        have cY : wr.cell? ⟨g, t, none⟩ = some (.int .i64 y) := by rw [hy]; exact D.out.cell t (by rw [HLN.out]; omega)
        have fY := D.out.frozen t
        have ht2 : (0 : Int) ≤ (t : Int) := by omega
        have ht3 : (t : Int) < 5 := by omega
        have K7 := Aside0.mk (K.out.set t (.int .i64 (y - sum)))
        have D7 := Aside0.mk (D.out.set t (y - sum))
        have C7 := Aside0.mk ((cell_far (p := ⟨g, t, none⟩) (Nat.ne_of_gt hglt) (.int .i64 (y - sum))).trans C.out)
        have hL : (c'.set t (y - sum)).length = 5 := by rw [List.length_set]; exact HLN.out
        have HL2 := Lib.hid hL
        have hys : -1020 ≤ y - sum ∧ y - sum ≤ 1020 := by omega
        have hcb : ∀ j : Nat, j < 5 → -1020 ≤ rd (c'.set t (y - sum)) (j : Int) ∧ rd (c'.set t (y - sum)) (j : Int) ≤ 1020 := fun j hj => by
          rw [rd_set _ _ _ _ (by rw [HLN.out]; exact hti)]
          split
          · exact hys
          · have h9 : -1000 ≤ rd c' (j : Int) ∧ rd c' (j : Int) ≤ 1000 + 4 * ((5 : Nat) : Int) := NBD.out j hj
            omega
        have HCB := Aside0.mk hcb
        clear HN hn2 hy hL hcb K C D
        have hw2 : wrap64 (t : Int) = (t : Int) := wrap_in _ (by omega) (by omega)
        have hw3 : wrap64 (y - sum) = y - sum := wrap_in _ (by clear hw2; omega) (by clear hw2; omega)
        go_wp2_with fail
        clear hw2 hw3 cC cY fY htb
        generalize wr.setCell ⟨g, t, none⟩ (.int .i64 (y - sum)) = w6 at K7 D7 C7 ⊢
        generalize c'.set t (y - sum) = c2 at HN2 D7 HL2 HCB
        go_loopg [11, 12, 74] 5 (fun g1 v11 v12 v74 wr => ∃ (k : Nat), v74 = .int .i64 k ∧ k ≤ 5 ∧ 5 - k ≤ g1 ∧ Aside0 (Crd wr g n (clampTo k c2)) ∧ Aside0 (Turn g w wr) ∧ Aside0 (wr.cell? ⟨w.heap.size, 0, none⟩ = some (.slice (some ⟨g, 0, none⟩) 5 cc)))
        case atStart => exact ⟨0, by go_num, by omega, by omega, ⟨by rw [clampTo_zero]; exact D7.out⟩, K7, C7⟩
        case round =>
          clear K7 D7 C7
          obtain ⟨k, rfl, hk5, hg1, D8, K8, C8⟩ := hrel
          by_cases hk : k < 5
          · have hkz : (k : Int) < 5 := by omega
            have hk0 : (0 : Int) ≤ (k : Int) := by omega
            obtain ⟨z, hz⟩ : ∃ z, z = rd c2 (k : Int) := ⟨_, rfl⟩
            obtain ⟨hz1, hz2⟩ := HCB.out k hk
            rw [← hz] at hz1 hz2
            have cC := C8.out
            have cZ : wr.cell? ⟨g, k, none⟩ = some (.int .i64 z) := by rw [D8.out.cell k (by rw [clampTo_len, HL2.out]; exact hk), rd_clampTo _ _ (by rw [HL2.out]; exact hk), hz]
            have fZ := D8.out.frozen k
            have stp : ∀ v : Int, clamp z = v → Aside0 (Crd (wr.setCell ⟨g, k, none⟩ (.int .i64 v)) g n (clampTo (k + 1) c2)) := fun v hv => ⟨by
              rw [← hv, hz, ← set_clampTo _ _ (by rw [HL2.out]; exact hk)]
              exact D8.out.set k _⟩
            have STP := Aside0.mk stp
            have KS : Aside0 (∀ v : Value, Turn g w (wr.setCell ⟨g, k, none⟩ v)) := ⟨fun v => K8.out.set k v⟩
            have CS : Aside0 (∀ v : Value, (wr.setCell ⟨g, k, none⟩ v).cell? ⟨w.heap.size, 0, none⟩ = some (.slice (some ⟨g, 0, none⟩) 5 cc)) := ⟨fun v => (cell_far (p := ⟨g, k, none⟩) (Nat.ne_of_gt hglt) v).trans C8.out⟩
            clear stp hz D8 K8 C8
            by_cases z1 : z < -1000
            · have D9 := STP.out (-1000) (by unfold clamp; omega)
              clear STP
              go_wp2_with fail
              clear cC cZ fZ
              go_roundg (5 - (k + 1))
              case measure => omega
              case rel => exact ⟨k + 1, by go_num, by omega, by omega, D9, ⟨KS.out _⟩, ⟨CS.out _⟩⟩
            · by_cases z2 : 1000 < z
              · have D9 := STP.out 1000 (by unfold clamp; omega)
                clear STP
                go_wp2_with fail
                clear cC cZ fZ
                go_roundg (5 - (k + 1))
                case measure => omega
                case rel => exact ⟨k + 1, by go_num, by omega, by omega, D9, ⟨KS.out _⟩, ⟨CS.out _⟩⟩
              · have D9 := STP.out z (by unfold clamp; omega)
                clear STP
                go_wp2_with fail
                clear cC cZ fZ
                go_roundg (5 - (k + 1))
                case measure => omega
                case rel => exact ⟨k + 1, by go_num, by omega, by omega, D9, ⟨KS.out _⟩, ⟨CS.out _⟩⟩
          · obtain rfl : k = 5 := by omega
            have hkz : ¬ ((5 : Nat) : Int) < 5 := by omega
            have D9 : Aside0 (Crd wr g n (c2.map clamp)) := ⟨by rw [← clampTo_all c2, HL2.out]; exact D8.out⟩
            clear D8
            go_wp2_with fail
            refine (HC.out _ _ K8.out.keep).mono ?_
            rintro e w10 ⟨rfl, hb⟩
            have K10 := Aside0.mk (K8.out.below hb)
            have D10 := Aside0.mk (D9.out.below hb)
            clear K8 D9 C8 hb
            go_wp2_with fail
            go_ret
            rw [HN2.out]
            exact ⟨rfl, D10.out, K10.out⟩

end Go.Proofs.Ytmpeekkbmfbjeaa

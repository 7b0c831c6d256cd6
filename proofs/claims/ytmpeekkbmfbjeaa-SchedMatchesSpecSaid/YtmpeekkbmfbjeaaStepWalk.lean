/- The walk of solventref37.step: the choice of one task, and the turned credits. -/
import Derived.Test.YtmpeekkbmfbjeaaRefPure
import Derived.Test.YtmpeekkbmfbjeaaRunWalk
import Derived.Test.YtmpeekkbmfbjeaaWKept
namespace Go.Proofs.Ytmpeekkbmfbjeaa
open Go.RowKit Go.Lib Go.Proofs.Ytmpeekkbmfbjeaa.P Go.Proofs.YtmpeekkbmfbjeaaW.PrintWords Go.Proofs.YtmpeekkbmfbjeaaW.PrintLast Go.Proofs.YtmpeekkbmfbjeaaW.PrintMore
set_option linter.unusedVariables false
set_option linter.unusedSimpArgs false
attribute [local go_sem] max2_int min2_int max_two min_two

def stpR.T : Bool × List (List Nat × List Nat) := (true, [([], []), ([], []), ([1], [1]), ([], []), ([], []), ([4], [4]), ([3, 5], [3, 5]), ([6], [6]), ([], []), ([8], [8]), ([7, 9], [7, 9]), ([0, 2, 0, 1, 2, 3, 4, 5, 6, 7, 8, 9, 10], [0, 2]), ([11, 10, 9, 0, 1, 2, 3, 4, 5, 6, 7, 8, 9, 10], [10, 11])])
def stpR.B : List Nat := [0, 0, 2, 0, 0, 16, 56, 120, 0, 256, 1016, 2047, 4095]
theorem stpR.tab : rtab .any (opsOf Try.f27 10) = stpR.T := by kernel_rfl
theorem stpR.bits : waitsOk stpR.T.2 stpR.B = true := by kernel_rfl
def stpQ.T : Bool × List (List Nat × List Nat) := (true, [([], []), ([0], [0]), ([1], [1]), ([2], [2]), ([2], [2]), ([4, 2], [2, 4]), ([3, 5, 2], [2, 3, 5]), ([6, 2], [2, 6]), ([2], [2]), ([2], [2]), ([9, 2], [2, 9]), ([8, 10, 2], [2, 8, 10]), ([11, 2], [2, 11]), ([7, 12, 2], [2, 7, 12]), ([2, 13], [2, 13])])
def stpQ.B : List Nat := [0, 1, 3, 7, 7, 23, 63, 127, 7, 7, 519, 1799, 3847, 8191, 16383]
theorem stpQ.tab : rtab .any (opsOf Try.f27 12) = stpQ.T := by kernel_rfl
theorem stpQ.bits : waitsOk stpQ.T.2 stpQ.B = true := by kernel_rfl

theorem weightR_any (a : Int) (w : World) : Calls Try.prog 18 #[.int .i64 a] w fun e w' => e = .returned (.int .i64 (wgt a)) ∧ Below w.heap.size w w' := by
  have hf : solventref37_Weight.f 5 a = some (wgt a) := by
    unfold solventref37_Weight.f wgt
    by_cases h1 : a = 1
    · simp [h1]
    · rw [if_neg h1, if_neg h1]
      by_cases h2 : a = 2
      · simp [h2, solventref37_Weight.j0]
      · rw [if_neg h2, if_neg h2, solventref37_Weight.j0]
        by_cases h3 : a = 3
        · simp [h3]
        · simp only [beq_iff_eq, h3, if_false]
          (repeat' split) <;> rfl
  refine (solventref37_Weight.calls 5 a (wgt a) w hf).mono ?_
  rintro e w' ⟨rfl, hd⟩
  exact ⟨rfl, hd.below⟩

theorem bestR_any (A : Option Addr) (c : Nat) (l : List S52) (B : Option Addr) (d : Nat) (gone : List Bool) (kind : Int) (urg : Bool) (r : Int) (w : World) (hl : Kd.C k52 w A l.length l) (hc : l.length ≤ c) (hg : Kd.C Kd.bool w B gone.length gone) (hd : gone.length ≤ d)
    (hr : solventref37_best.f 200 l gone kind urg = some r) :
    Calls Try.prog 32 #[.slice A l.length c, .slice B gone.length d, .int .i64 kind, .bool urg] w fun e w' => e = .returned (.int .i64 r) ∧ Below w.heap.size w w' :=
  solventref37_best.calls 200 A c l B d gone kind urg r w hl hc hg hd hr

def tR (top : Int) : Int := if top = 0 then -1 else top
theorem tR_zero : tR 0 = -1 := rfl
theorem tR_pos (t : Nat) : tR ((t : Int) + 1) = (t : Int) + 1 := by unfold tR; rw [if_neg (by omega)]

set_option maxHeartbeats 16000000 in
set_option maxRecDepth 1000000 in
theorem step_any (A : Option Addr) (c : Nat) (l0 : List S52) (B : Option Addr) (d : Nat) (gone : List Bool) (g n cc : Nat) (cr : List Int) (w : World)
    (hl : ∀ W, KeepBut w W g none → Kd.C k52 W A l0.length l0) (hc : l0.length ≤ c) (hle : ∀ W, KeepBut w W g none → Kd.C Kd.bool W B gone.length gone) (hd : gone.length ≤ d) (h60 : l0.length ≤ 60) (hgl : gone.length = l0.length) (hcr : Crd w g n cr) (hok : COk cr) :
    Calls Try.prog 27 #[.slice (some ⟨g, 0, none⟩) 5 cc, .slice A l0.length c, .slice B gone.length d] w fun e w' =>
      e = .returned (.int .i64 (nxt (l0.map tOwn) (leftOf l0.length gone) cr).2) ∧ Crd w' g n (nxt (l0.map tOwn) (leftOf l0.length gone) cr).1 ∧ Turn g w w' := by
  have HU : Aside0 (∀ W, KeepBut w W g none → Calls Try.prog 32 #[.slice A l0.length c, .slice B gone.length d, .int .i64 1, .bool true] W fun e w' => e = .returned (.int .i64 (bestU (l0.map tOwn) (leftOf l0.length gone))) ∧ Below W.heap.size W w') := ⟨fun W hW => bestR_any A c l0 B d gone 1 true _ W (hl W hW) hc (hle W hW) hd (bst_urg l0 h60 gone hgl 200 (by decide))⟩
  have HC : Aside0 (∀ (kind : Int) (W : World), KeepBut w W g none → Calls Try.prog 32 #[.slice A l0.length c, .slice B gone.length d, .int .i64 kind, .bool false] W fun e w' => e = .returned (.int .i64 (bestC (l0.map tOwn) (leftOf l0.length gone) kind)) ∧ Below W.heap.size W w') := ⟨fun kind W hW => bestR_any A c l0 B d gone kind false _ W (hl W hW) hc (hle W hW) hd (bst_can l0 h60 gone hgl kind 200 (by decide))⟩
  generalize l0.map tOwn = l at HU HC ⊢
  generalize leftOf l0.length gone = left at HU HC ⊢
  have HNB : Aside0 (∀ k, k ≤ 5 → NB k (nFold l left cr k)) := ⟨nFold_bd l left cr hok⟩
  have HCR := Aside0.mk hcr
  have hglt : g < w.heap.size := hcr.lt
  obtain ⟨m, hm⟩ : ∃ m, m = l0.length := ⟨_, rfl⟩
  obtain ⟨q, hq⟩ : ∃ q, q = gone.length := ⟨_, rfl⟩
  rw [← hm, ← hq] at HU HC ⊢
  clear hl hle hcr hok hm hq hc hd h60 hgl
  go_enter Try.func27, Try.ntmps27
  go_wp2_with fail
  refine (HU.out _ (Turn.of (Below.refl _ _)).keep).mono ?_
  rintro e w1 ⟨rfl, hb⟩
  have K1 : Aside0 (Turn g w w1) := ⟨Turn.of hb⟩
  have D1 := Aside0.mk (HCR.out.below hb)
  clear hb HCR HU
  by_cases hu : bestU l left ≥ 0
  · have HF := Lib.hid (nxt_urg (cr := cr) hu)
    have hud : decide (bestU l left ≥ 0) = true := decide_eq_true hu
    generalize bestU l left = u at hu hud HF ⊢
    go_wp2_with fail
    go_ret
    rw [HF.out]
    exact ⟨rfl, D1.out, K1.out⟩
  have HNU := Lib.hid hu
  have hud : decide (bestU l left ≥ 0) = false := decide_eq_false hu
  have hu' : bestU l left < 0 := by omega
  clear hu
  go_wp2_with fail
  clear hud hu'
  go_loopg [8, 9, 10] 5 (fun g1 vs vt vk wr => ∃ (i : Nat) (c' : List Int) (sum top : Int), vs = .int .i64 sum ∧ vt = .int .i64 (tR top) ∧ vk = .int .i64 ((i : Int) + 1) ∧ i ≤ 5 ∧ 5 - i ≤ g1 ∧ Hid (nFold l left cr i = (c', sum, top)) ∧ Aside0 (Crd wr g n c') ∧ Aside0 (Turn g w wr))
  case atStart => exact ⟨0, cr, 0, 0, rfl, rfl, rfl, by omega, by omega, rfl, D1, K1⟩
  case round =>
    clear D1 K1
    obtain ⟨i, c', sum, top, rfl, rfl, rfl, hi5, hg1, HF, D, K⟩ := hrel
    have nb := HNB.out i hi5
    rw [HF.out] at nb
    have hs0 : 0 ≤ sum := nb.sum0
    have hs1 : sum ≤ 4 * (i : Int) := nb.sum1
    have ht0 : 0 ≤ top := nb.top0
    have ht1 : top ≤ (i : Int) := nb.top1
    have hlen : c'.length = 5 := nb.len
    have HLN := Lib.hid hlen
    have NBD := Aside0.mk nb.bd
    clear nb hlen
    by_cases hlt : i < 5
    · have hz : (i : Int) + 1 ≤ 5 := by omega
      go_wp2_with fail
      refine (HC.out _ _ K.out.keep).mono ?_
      rintro e w2 ⟨rfl, hb⟩
      have K2 := Aside0.mk (K.out.below hb)
      have D2 := Aside0.mk (D.out.below hb)
      clear K D hb
      have STEP : Aside0 (nFold l left cr (i + 1) = nRound l left (c', sum, top) i) := ⟨by show nRound l left (nFold l left cr i) i = _; rw [HF.out]⟩
      by_cases hbc : bestC l left ((i : Int) + 1) < 0
      · have hbd : decide (bestC l left ((i : Int) + 1) < 0) = true := decide_eq_true hbc
        have HF2 := Lib.hid (STEP.out.trans (by unfold nRound; rw [if_pos hbc]))
        clear STEP
        generalize bestC l left ((i : Int) + 1) = bc at hbc hbd ⊢
        go_wp2_with fail
        go_roundg (5 - (i + 1))
        case measure => omega
        case rel => exact ⟨i + 1, c', sum, top, rfl, rfl, by go_num, by omega, by omega, HF2, D2, K2⟩
      · have hbd : decide (bestC l left ((i : Int) + 1) < 0) = false := decide_eq_false hbc
        have hst := STEP.out
        unfold nRound at hst
        rw [if_neg hbc] at hst
        simp only [] at hst
        have HST := Lib.hid hst
        have hbc2 : 0 ≤ bestC l left ((i : Int) + 1) := by omega
        clear STEP hst hbc
        generalize bestC l left ((i : Int) + 1) = bc at hbc2 hbd ⊢
        obtain ⟨x, hx⟩ : ∃ x, x = rd c' (i : Int) := ⟨_, rfl⟩
        have hx0 := NBD.out i hlt
        rw [← hx] at hx0 HST
        obtain ⟨hx1, hx2⟩ := hx0
        have hcx : w2.cell? ⟨g, i, none⟩ = some (.int .i64 x) := by rw [hx]; exact D2.out.cell i (by rw [HLN.out]; exact hlt)
        have HX := Lib.hid hx
        clear hx
        obtain ⟨v, hv⟩ : ∃ v, v = wgt ((i : Int) + 1) := ⟨_, rfl⟩
        have hv0 := wgt_bd ((i : Int) + 1)
        rw [← hv] at hv0 HST
        obtain ⟨hv1, hv2⟩ := hv0
        have HW : Aside0 (∀ W : World, Calls Try.prog 18 #[.int .i64 ((i : Int) + 1)] W fun e w' => e = .returned (.int .i64 v) ∧ Below W.heap.size W w') := ⟨fun W => by rw [hv]; exact weightR_any _ W⟩
        have HV := Lib.hid hv
        clear hv
        have hi0 : (0 : Int) ≤ (i : Int) := by omega
        have hi1 : (i : Int) < 5 := by omega
        have hw1 : wrap64 (i : Int) = (i : Int) := wrap_in _ (by omega) (by omega)
        go_wp2_with fail
        refine start_ (n := 13) (S := fun w' => w'.cell? ⟨g, i, none⟩ = some (.int .i64 x)) (ds := [12]) (bL 13 0) (by kernel_rfl) rfl (by kernel_rfl) hcx (fun hHeld => ?_)
        refine with_tabW stpR.tab stpR.bits (fun HT_ HW_ => ?_)
        have K3 := Aside0.mk (K2.out.below (below_drew1 (Below.refl _ _)))
        have D3 := Aside0.mk (D2.out.below (below_drew1 (Below.refl _ _)))
        clear K2 D2 hcx
        generalize w2.drew = wd at K3 D3 hHeld ⊢
        refine pure_ (i := 0) (N := some 27) (v := ?_) (a' := ?_) (bL 13 1) rfl rfl (any_of HT_.out (by kernel_rfl)) (fun _ _ _ h => h) (Or.inl ⟨by rfl, ?_⟩) ?_ ?_; rotate_left; (intro w'; go_simp; with_reducible rfl); rotate_left; (simp only [Act.put, act1, act2, act3, i64_w, i32_w]; rfl)
        refine pure_ (i := 1) (N := some 28) (v := ?_) (a' := ?_) (bL 13 3) rfl rfl (any_of HT_.out (by kernel_rfl)) (fun _ _ _ h => h) (Or.inl ⟨by rfl, ?_⟩) ?_ ?_; rotate_left; (intro w'; go_simp; with_reducible rfl); rotate_left; (simp only [Act.put, act1, act2, act3, i64_w, i32_w]; rfl)
        refine pure_ (i := 2) (N := some 29) (v := ?_) (a' := ?_) (bL 13 7) rfl rfl (any_of HT_.out (by kernel_rfl)) (fun _ _ _ h => h) (Or.inl ⟨by rfl, ?_⟩) ?_ ?_; rotate_left; (intro w'; go_simp; with_reducible rfl); rotate_left; (simp only [Act.put, act1, act2, act3, i64_w, i32_w]; rfl)
        refine pure_ (i := 3) (N := some 30) (v := ?_) (a' := ?_) (bL 13 15) rfl rfl (any_of HT_.out (by kernel_rfl)) (fun _ _ _ h => h) (Or.inl ⟨by rfl, ?_⟩) ?_ ?_; rotate_left; (intro w'; go_simp; with_reducible rfl); rotate_left; (simp only [Act.put, act1, act2, act3, i64_w, i32_w]; rfl)
        refine pure_ (i := 4) (N := some 31) (v := ?_) (a' := ?_) (bL 13 31) rfl rfl (any_of HT_.out (by kernel_rfl)) (fun _ _ _ h => h) (Or.inl ⟨by rfl, ?_⟩) ?_ ?_; rotate_left; (intro w'; go_simp; with_reducible rfl); rotate_left; (simp only [Act.put, act1, act2, act3, i64_w, i32_w]; rfl)
        refine pure_ (i := 5) (N := some 32) (v := ?_) (a' := ?_) (bL 13 63) rfl rfl (any_of HT_.out (by kernel_rfl)) (fun _ _ _ h => h) (Or.inl ⟨by rfl, ?_⟩) ?_ ?_; rotate_left; (intro w'; go_simp; with_reducible rfl); rotate_left; (simp only [Act.put, act1, act2, act3, i64_w, i32_w]; rfl)
        refine pure_ (i := 6) (N := some 33) (v := ?_) (a' := ?_) (bL 13 127) rfl rfl (any_of HT_.out (by kernel_rfl)) (fun _ _ _ h => h) (Or.inl ⟨by rfl, ?_⟩) ?_ ?_; rotate_left; (intro w'; go_simp; with_reducible rfl); rotate_left; (simp only [Act.put, act1, act2, act3, i64_w, i32_w]; rfl)
        refine take_ (i := 7) (N := some 34) (v := ?_) (a' := ?_) (bL 13 255) rfl rfl (take_ofW HT_.out HW_.out (by kernel_rfl)) (fun _ _ _ h => h) (Or.inl ⟨by rfl, ?_⟩) hHeld ?_ ?_; rotate_left; (rintro w' s0; go_simp; with_reducible rfl); rotate_left; (simp only [Act.put, act1, act2, act3, i64_w, i32_w]; rfl)
        refine pure_ (i := 8) (N := some 35) (v := ?_) (a' := ?_) (bL 13 511) rfl rfl (any_of HT_.out (by kernel_rfl)) (fun _ _ _ h => h) (Or.inl ⟨by rfl, ?_⟩) ?_ ?_; rotate_left; (intro w'; go_simp; with_reducible rfl); rotate_left; (simp only [Act.put, act1, act2, act3, i64_w, i32_w]; rfl)
        refine one_ (i := 9) (N := some 36) (bL 13 1023) rfl rfl (one_of HT_.out (by kernel_rfl)) (by decide) (fun K hK => ?_)
        refine goes_ Try.func18 (by kernel_rfl) rfl #[.int .i64 ((i : Int) + 1)] (by rfl) rfl rfl (by (try simp only [List.map_toArray, List.map_cons, List.map_nil]); first | done | rfl) ?_
        refine (HW.out _).mono ?_
        rintro e w3 ⟨rfl, hb⟩
        refine ⟨_, rfl, ?_⟩
        refine hK.out _ _ (pw_cell_below hb hHeld) (fun hHeld => ?_)
        have K4 := Aside0.mk (K3.out.below hb)
        have D4 := Aside0.mk (D3.out.below hb)
        clear K3 D3 hb
        have hxv : wrap64 (x + v) = x + v := wrap_in2 hx1 hx2 hv1 hv2 hlt
        clear hK K
        refine norm_ (a' := ?_) ?_ ?_
        rotate_left
        · show Act.put _ (some 36) _ = _
          simp only [Act.put, List.setIfInBounds_toArray, List.set_cons_zero, List.set_cons_succ, i64_w, i32_w]
          rfl
        refine pure_ (i := 10) (N := some 37) (v := ?_) (a' := ?_) (bL 13 2047) rfl rfl (any_of HT_.out (by kernel_rfl)) (fun _ _ _ h => h) (Or.inl ⟨by rfl, ?_⟩) ?_ ?_; rotate_left; (intro w'; go_simp; with_reducible rfl); rotate_left; (simp only [Act.put, act1, act2, act3, i64_w, i32_w]; rfl)
        refine pure_ (i := 11) (N := some 38) (v := ?_) (a' := ?_) (bL 13 4095) rfl rfl (any_of HT_.out (by kernel_rfl)) (fun _ _ _ h => h) (Or.inl ⟨by rfl, ?_⟩) ?_ ?_; rotate_left; (intro w'; go_simp; with_reducible rfl); rotate_left; (simp only [Act.put, act1, act2, act3, i64_w, i32_w]; rfl)
        refine last_ (i := 12) (N := none) (bL 13 8191) rfl rfl (one_of HT_.out (by kernel_rfl)) (by decide) (fun K hK => ?_)
        have cX := hHeld
        have fX := D4.out.frozen i
        refine skip_ (w1 := w3.setCell ⟨g, i, none⟩ (.int .i64 (x + v))) (by rfl) rfl (by first | (go_simp; done) | (go_simp; rfl)) ?_
        have K5 := Aside0.mk (K4.out.set i (.int .i64 (x + v)))
        have D5 := Aside0.mk (D4.out.set i (x + v))
        refine hK.out _ _ ?_
        clear K4 D4 cX fX hHeld
        generalize w3.setCell ⟨g, i, none⟩ (.int .i64 (x + v)) = w4 at K5 D5 ⊢
        clear hK K
        refine done_ (done_of HT_.out (by kernel_rfl)) ?_
        clear HT_ HW_ hxv hw1
        go_wp2_with fail
        refine (HW.out _).mono ?_
        rintro e w5 ⟨rfl, hb⟩
        have K6 := Aside0.mk (K5.out.below hb)
        have D6 := Aside0.mk (D5.out.below hb)
        clear K5 D5 hb HW
        have hsv0 : 0 ≤ sum + v := by omega
        have hsv1 : sum + v ≤ 24 := by omega
        by_cases ht : top = 0
        · subst ht
          rw [tR_zero]
          have HF2 := Lib.hid (HST.out.trans (by rw [if_pos (Or.inl rfl)]))
          clear HST
          go_wp2_with fail
          go_quiet (fail)
          go_wp2_with fail
          go_roundg (5 - (i + 1))
          case measure => omega
          case rel => exact ⟨i + 1, _, _, _, rfl, by first | rfl | (rw [tR_pos]), by go_num, by omega, by omega, HF2, D6, ⟨K6.out.below (pw_below_drewN (Below.refl _ _) _)⟩⟩
        · obtain ⟨t, rfl⟩ : ∃ t : Nat, top = (t : Int) + 1 := ⟨(top - 1).toNat, by omega⟩
          rw [tR_pos]
          have htn : ¬ (t : Int) + 1 < 0 := by omega
          have htd : decide ((t : Int) + 1 < 0) = false := decide_eq_false htn
          have hti : t < i := by omega
          have hne : (i : Nat) ≠ t := by omega
          obtain ⟨y, hy⟩ : ∃ y, y = rd c' (t : Int) := ⟨_, rfl⟩
          have cX : w5.cell? ⟨g, i, none⟩ = some (.int .i64 (x + v)) := by rw [D6.out.cell i (by rw [List.length_set, HLN.out]; exact hlt), rd_set _ _ _ _ (by rw [HLN.out]; exact hlt), if_pos rfl]
          have cY : w5.cell? ⟨g, t, none⟩ = some (.int .i64 y) := by rw [hy, D6.out.cell t (by rw [List.length_set, HLN.out]; omega), rd_set _ _ _ _ (by rw [HLN.out]; exact hlt), if_neg (fun e => hne e.symm)]
          have hst2 := HST.out
          rw [show (t : Int) + 1 - 1 = (t : Int) by omega, ← hy] at hst2
          have HST2 := Lib.hid hst2
          clear HST hst2 hy
          have ht2 : (0 : Int) ≤ (t : Int) := by omega
          have ht3 : (t : Int) < 5 := by omega
          have HN0 := Lib.hid ht
          have hw1 : wrap64 (i : Int) = (i : Int) := wrap_in _ (by omega) (by omega)
          have hw2 : wrap64 (t : Int) = (t : Int) := wrap_in _ (by clear hw1; omega) (by clear hw1; omega)
          go_wp2_with fail
          refine start_ (n := 15) (S := fun w' => w'.cell? ⟨g, i, none⟩ = some (.int .i64 (x + v)) ∧ w'.cell? ⟨g, t, none⟩ = some (.int .i64 y)) (ds := []) (bL 15 0) (by kernel_rfl) rfl (by kernel_rfl) ⟨cX, cY⟩ (fun hHeld => ?_)
          refine with_tabW stpQ.tab stpQ.bits (fun HT_ HW_ => ?_)
          have K7 := Aside0.mk (K6.out.below (below_drew1 (Below.refl _ _)))
          have D7 := Aside0.mk (D6.out.below (below_drew1 (Below.refl _ _)))
          clear K6 D6 cX cY
          generalize w5.drew = w6 at K7 D7 hHeld ⊢
          refine pure_ (i := 0) (N := some 43) (v := ?_) (a' := ?_) (bL 15 1) rfl rfl (any_of HT_.out (by kernel_rfl)) (fun _ _ _ h => h) (Or.inl ⟨by rfl, ?_⟩) ?_ ?_; rotate_left; (intro w'; go_simp; with_reducible rfl); rotate_left; (simp only [Act.put, act1, act2, act3, i64_w, i32_w]; rfl)
          refine pure_ (i := 1) (N := some 44) (v := ?_) (a' := ?_) (bL 15 3) rfl rfl (any_of HT_.out (by kernel_rfl)) (fun _ _ _ h => h) (Or.inl ⟨by rfl, ?_⟩) ?_ ?_; rotate_left; (intro w'; go_simp; with_reducible rfl); rotate_left; (simp only [Act.put, act1, act2, act3, i64_w, i32_w]; rfl)
          refine pure_ (i := 2) (N := some 45) (v := ?_) (a' := ?_) (bL 15 7) rfl rfl (any_of HT_.out (by kernel_rfl)) (fun _ _ _ h => h) (Or.inl ⟨by rfl, ?_⟩) ?_ ?_; rotate_left; (intro w'; go_simp; with_reducible rfl); rotate_left; (simp only [Act.put, act1, act2, act3, i64_w, i32_w]; rfl)
          refine pure_ (i := 3) (N := some 46) (v := ?_) (a' := ?_) (bL 15 15) rfl rfl (any_of HT_.out (by kernel_rfl)) (fun _ _ _ h => h) (Or.inl ⟨by rfl, ?_⟩) ?_ ?_; rotate_left; (intro w'; go_simp; with_reducible rfl); rotate_left; (simp only [Act.put, act1, act2, act3, i64_w, i32_w]; rfl)
          refine pure_ (i := 4) (N := some 47) (v := ?_) (a' := ?_) (bL 15 31) rfl rfl (any_of HT_.out (by kernel_rfl)) (fun _ _ _ h => h) (Or.inl ⟨by rfl, ?_⟩) ?_ ?_; rotate_left; (intro w'; go_simp; with_reducible rfl); rotate_left; (simp only [Act.put, act1, act2, act3, i64_w, i32_w]; rfl)
          refine pure_ (i := 5) (N := some 48) (v := ?_) (a' := ?_) (bL 15 63) rfl rfl (any_of HT_.out (by kernel_rfl)) (fun _ _ _ h => h) (Or.inl ⟨by rfl, ?_⟩) ?_ ?_; rotate_left; (intro w'; go_simp; with_reducible rfl); rotate_left; (simp only [Act.put, act1, act2, act3, i64_w, i32_w]; rfl)
          refine pure_ (i := 6) (N := some 49) (v := ?_) (a' := ?_) (bL 15 127) rfl rfl (any_of HT_.out (by kernel_rfl)) (fun _ _ _ h => h) (Or.inl ⟨by rfl, ?_⟩) ?_ ?_; rotate_left; (intro w'; go_simp; with_reducible rfl); rotate_left; (simp only [Act.put, act1, act2, act3, i64_w, i32_w]; rfl)
          refine take_ (i := 7) (N := some 50) (v := ?_) (a' := ?_) (bL 15 255) rfl rfl (take_ofW HT_.out HW_.out (by kernel_rfl)) (fun _ _ _ h => h) (Or.inl ⟨by rfl, ?_⟩) hHeld ?_ ?_; rotate_left; (rintro w' ⟨s0, s1⟩; go_simp; with_reducible rfl); rotate_left; (simp only [Act.put, act1, act2, act3, i64_w, i32_w]; rfl)
          refine pure_ (i := 8) (N := some 51) (v := ?_) (a' := ?_) (bL 15 511) rfl rfl (any_of HT_.out (by kernel_rfl)) (fun _ _ _ h => h) (Or.inl ⟨by rfl, ?_⟩) ?_ ?_; rotate_left; (intro w'; go_simp; with_reducible rfl); rotate_left; (simp only [Act.put, act1, act2, act3, i64_w, i32_w]; rfl)
          refine pure_ (i := 9) (N := some 52) (v := ?_) (a' := ?_) (bL 15 1023) rfl rfl (any_of HT_.out (by kernel_rfl)) (fun _ _ _ h => h) (Or.inl ⟨by rfl, ?_⟩) ?_ ?_; rotate_left; (intro w'; go_simp; with_reducible rfl); rotate_left; (simp only [Act.put, act1, act2, act3, i64_w, i32_w]; rfl)
          refine pure_ (i := 10) (N := some 53) (v := ?_) (a' := ?_) (bL 15 2047) rfl rfl (any_of HT_.out (by kernel_rfl)) (fun _ _ _ h => h) (Or.inl ⟨by rfl, ?_⟩) ?_ ?_; rotate_left; (intro w'; go_simp; with_reducible rfl); rotate_left; (simp only [Act.put, act1, act2, act3, i64_w, i32_w]; rfl)
          refine pure_ (i := 11) (N := some 54) (v := ?_) (a' := ?_) (bL 15 4095) rfl rfl (any_of HT_.out (by kernel_rfl)) (fun _ _ _ h => h) (Or.inl ⟨by rfl, ?_⟩) ?_ ?_; rotate_left; (intro w'; go_simp; with_reducible rfl); rotate_left; (simp only [Act.put, act1, act2, act3, i64_w, i32_w]; rfl)
          refine take_ (i := 12) (N := some 55) (v := ?_) (a' := ?_) (bL 15 8191) rfl rfl (take_ofW HT_.out HW_.out (by kernel_rfl)) (fun _ _ _ h => h) (Or.inl ⟨by rfl, ?_⟩) hHeld ?_ ?_; rotate_left; (rintro w' ⟨s0, s1⟩; go_simp; with_reducible rfl); rotate_left; (simp only [Act.put, act1, act2, act3, i64_w, i32_w]; rfl)
          refine pure_ (i := 13) (N := some 56) (v := ?_) (a' := ?_) (bL 15 16383) rfl rfl (any_of HT_.out (by kernel_rfl)) (fun _ _ _ h => h) (Or.inl ⟨by rfl, ?_⟩) ?_ ?_; rotate_left; (intro w'; go_simp; with_reducible rfl); rotate_left; (simp only [Act.put, act1, act2, act3, i64_w, i32_w]; rfl)
          refine pure_ (i := 14) (N := some 57) (v := ?_) (a' := ?_) (bL 15 32767) rfl rfl (any_of HT_.out (by kernel_rfl)) (fun _ _ _ h => h) (Or.inl ⟨by rfl, ?_⟩) ?_ ?_; rotate_left; (intro w'; go_simp; with_reducible rfl); rotate_left; (simp only [Act.put, act1, act2, act3, i64_w, i32_w]; rfl)
          refine done_ (done_of HT_.out (by kernel_rfl)) ?_
          clear hHeld HT_ HW_
          clear hw1 hw2 ht hne
          by_cases hgt : x + v > y
          · have HF2 := Lib.hid (HST2.out.trans (by rw [if_pos (Or.inr hgt)]))
            have hgd : decide (x + v > y) = true := decide_eq_true hgt
            clear HST2
            go_wp2_with fail
            go_roundg (5 - (i + 1))
            case measure => omega
            case rel => exact ⟨i + 1, _, _, _, rfl, by first | rfl | (rw [tR_pos]), by go_num, by omega, by omega, HF2, D7, K7⟩
          · have HF2 := Lib.hid (HST2.out.trans (by rw [if_neg (fun h => h.elim HN0.out hgt)]))
            have hgd : decide (x + v > y) = false := decide_eq_false hgt
            clear HST2
            go_wp2_with fail
            go_roundg (5 - (i + 1))
            case measure => omega
            case rel => exact ⟨i + 1, _, _, _, rfl, by first | rfl | (rw [tR_pos]), by go_num, by omega, by omega, HF2, D7, K7⟩
    · obtain rfl : i = 5 := by omega
      have hz : ¬ ((5 : Nat) : Int) + 1 ≤ 5 := by omega
      have HN := Lib.hid (nxt_not (Int.not_le.2 HNU.out) HF.out)
      clear HNU HF HNB
      by_cases ht : top = 0
      · subst ht
        rw [if_pos rfl] at HN
        rw [tR_zero]
        go_wp2_with fail
        go_ret
        rw [HN.out]
        exact ⟨rfl, D.out, K.out⟩
      · rw [if_neg ht] at HN
        obtain ⟨t, rfl⟩ : ∃ t : Nat, top = (t : Int) + 1 := ⟨(top - 1).toNat, by omega⟩
        rw [tR_pos]
        have htn : ¬ (t : Int) + 1 < 0 := by omega
        have htd : decide ((t : Int) + 1 < 0) = false := decide_eq_false htn
        have hti : t < 5 := by omega
        obtain ⟨y, hy⟩ : ∃ y, y = rd c' (t : Int) := ⟨_, rfl⟩
        obtain ⟨hy1, hy2⟩ := NBD.out t hti
        rw [← hy] at hy1 hy2
        have hn2 := HN.out
        rw [show (t : Int) + 1 - 1 = (t : Int) by omega, Int.toNat_natCast, ← hy] at hn2
        have HN2 := Lib.hid hn2
        have cY : wr.cell? ⟨g, t, none⟩ = some (.int .i64 y) := by rw [hy]; exact D.out.cell t (by rw [HLN.out]; omega)
        have fY := D.out.frozen t
        have ht2 : (0 : Int) ≤ (t : Int) := by omega
        have ht3 : (t : Int) < 5 := by omega
        have K7 := Aside0.mk (K.out.set t (.int .i64 (y - sum)))
        have D7 := Aside0.mk (D.out.set t (y - sum))
        have hL : (c'.set t (y - sum)).length = 5 := by rw [List.length_set]; exact HLN.out
        have HL2 := Lib.hid hL
        have hys : -1020 ≤ y - sum ∧ y - sum ≤ 1020 := by omega
        have hcb : ∀ j : Nat, j < 5 → -1020 ≤ rd (c'.set t (y - sum)) (j : Int) ∧ rd (c'.set t (y - sum)) (j : Int) ≤ 1020 := fun j hj => by
          rw [rd_set _ _ _ _ (by rw [HLN.out]; exact hti)]
          split
          · exact hys
          · have h9 : -1000 ≤ rd c' (j : Int) ∧ rd c' (j : Int) ≤ 1000 + 4 * ((5 : Nat) : Int) := NBD.out j hj
            omega
        have HCB := Aside0.mk hcb
        clear HN hn2 hy hL hcb K D
        have hw2 : wrap64 (t : Int) = (t : Int) := wrap_in _ (by omega) (by omega)
        have hw3 : wrap64 (y - sum) = y - sum := wrap_in _ (by clear hw2; omega) (by clear hw2; omega)
        go_wp2_with fail
        clear hw2 hw3 cY fY
        generalize wr.setCell ⟨g, t, none⟩ (.int .i64 (y - sum)) = w6 at K7 D7 ⊢
        generalize c'.set t (y - sum) = c2 at HN2 D7 HL2 HCB
        go_loopg [11] 5 (fun g1 v74 wr => ∃ (k : Nat), v74 = .int .i64 k ∧ k ≤ 5 ∧ 5 - k ≤ g1 ∧ Aside0 (Crd wr g n (clampTo k c2)) ∧ Aside0 (Turn g w wr))
        case atStart => exact ⟨0, by go_num, by omega, by omega, ⟨by rw [clampTo_zero]; exact D7.out⟩, K7⟩
        case round =>
          clear K7 D7
          obtain ⟨k, rfl, hk5, hg1, D8, K8⟩ := hrel
          by_cases hk : k < 5
          · have hkz : (k : Int) < 5 := by omega
            have hk0 : (0 : Int) ≤ (k : Int) := by omega
            obtain ⟨z, hz⟩ : ∃ z, z = rd c2 (k : Int) := ⟨_, rfl⟩
            obtain ⟨hz1, hz2⟩ := HCB.out k hk
            rw [← hz] at hz1 hz2
            have cZ : wr.cell? ⟨g, k, none⟩ = some (.int .i64 z) := by rw [D8.out.cell k (by rw [clampTo_len, HL2.out]; exact hk), rd_clampTo _ _ (by rw [HL2.out]; exact hk), hz]
            have fZ := D8.out.frozen k
            have stp : ∀ v : Int, clamp z = v → Aside0 (Crd (wr.setCell ⟨g, k, none⟩ (.int .i64 v)) g n (clampTo (k + 1) c2)) := fun v hv => ⟨by
              rw [← hv, hz, ← set_clampTo _ _ (by rw [HL2.out]; exact hk)]
              exact D8.out.set k _⟩
            have STP := Aside0.mk stp
            have KS : Aside0 (∀ v : Value, Turn g w (wr.setCell ⟨g, k, none⟩ v)) := ⟨fun v => K8.out.set k v⟩
            clear stp hz D8 K8
            by_cases z1 : z < -1000
            · have D9 := STP.out (-1000) (by unfold clamp; omega)
              have z2 : ¬ 1000 < z := by omega
              have z3 : ¬ -1000 < z := by omega
              clear STP
              go_wp2_with fail
              clear cZ fZ
              go_roundg (5 - (k + 1))
              case measure => omega
              case rel => exact ⟨k + 1, by go_num, by omega, by omega, D9, ⟨KS.out _⟩⟩
            · by_cases z2 : 1000 < z
              · have D9 := STP.out 1000 (by unfold clamp; omega)
                have z3 : (-1000 : Int) < 1000 := by decide
                clear STP
                go_wp2_with fail
                clear cZ fZ
                go_roundg (5 - (k + 1))
                case measure => omega
                case rel => exact ⟨k + 1, by go_num, by omega, by omega, D9, ⟨KS.out _⟩⟩
              · by_cases z3 : -1000 < z
                · have D9 := STP.out z (by unfold clamp; omega)
                  clear STP
                  go_wp2_with fail
                  clear cZ fZ
                  go_roundg (5 - (k + 1))
                  case measure => omega
                  case rel => exact ⟨k + 1, by go_num, by omega, by omega, D9, ⟨KS.out _⟩⟩
                have D9 := STP.out (-1000) (by unfold clamp; omega)
                clear STP
                go_wp2_with fail
                clear cZ fZ
                go_roundg (5 - (k + 1))
                case measure => omega
                case rel => exact ⟨k + 1, by go_num, by omega, by omega, D9, ⟨KS.out _⟩⟩
          · obtain rfl : k = 5 := by omega
            have hkz : ¬ ((5 : Nat) : Int) < 5 := by omega
            have D9 : Aside0 (Crd wr g n (c2.map clamp)) := ⟨by rw [← clampTo_all c2, HL2.out]; exact D8.out⟩
            clear D8
            go_wp2_with fail
            refine (HC.out _ _ K8.out.keep).mono ?_
            rintro e w10 ⟨rfl, hb⟩
            have K10 := Aside0.mk (K8.out.below hb)
            have D10 := Aside0.mk (D9.out.below hb)
            clear K8 D9 hb
            go_wp2_with fail
            go_ret
            rw [HN2.out]
            exact ⟨rfl, D10.out, K10.out⟩

end Go.Proofs.Ytmpeekkbmfbjeaa
/-! The contract of step, in the form in which the printed texts take it. -/
namespace Go.Proofs.Ytmpeekkbmfbjeaa.P
open Go.RowKit Go.Proofs.YtmpeekkbmfbjeaaW.PrintWords Go.Proofs.YtmpeekkbmfbjeaaW.PrintLast Go.Proofs.YtmpeekkbmfbjeaaW.PrintMore

instance (cr : List Int) : Decidable (COk cr) := by unfold COk; infer_instance
def solventref37_step.f (_k : Nat) (l0 : List Int) (l1 : List S52) (l2 : List Bool) : Option (Int × List Int) :=
  if COk l0 ∧ l1.length ≤ 60 ∧ l2.length = l1.length then some ((nxt (l1.map tOwn) (leftOf l1.length l2) l0).2, (nxt (l1.map tOwn) (leftOf l1.length l2) l0).1) else none
theorem solventref37_step.mono : ∀ a0 a1 a2 k, LeO (solventref37_step.f k a0 a1 a2) (solventref37_step.f (k + 1) a0 a1 a2) := fun _ _ _ _ => LeO.refl _
theorem solventref37_step.calls (k : Nat) (P0_ : Nat → Prop) (u9000_ : Value) (l0 : List Int) (A1 : Option Addr) (c1 : Nat) (l1 : List (S52)) (A2 : Option Addr) (c2 : Nat) (l2 : List Bool) (r1 : Int) (r2 : List Int) (w0 w : World) (hB : Below w0.heap.size w0 w) (ho0 : Kd.R (Kd.int .i64) 3 w w0.heap.size P0_ u9000_ l0) (hr1 : ∀ W_, Kept w W_ (fun k_ => P0_ k_) → Kd.C k52 W_ A1 l1.length l1) (hc1 : l1.length ≤ c1) (hr2 : ∀ W_, Kept w W_ (fun k_ => P0_ k_) → Kd.C Kd.bool W_ A2 l2.length l2) (hc2 : l2.length ≤ c2) (h : solventref37_step.f k l0 l1 l2 = some (r1, r2)) :
    Calls Try.prog 27 #[u9000_, .slice A1 l1.length c1, .slice A2 l2.length c2] w fun e w' => e = .returned (.int .i64 r1) ∧ Kd.R (Kd.int .i64) 3 w' w0.heap.size (fun k_ => (P0_ k_ ∨ w.heap.size ≤ k_)) u9000_ r2 ∧ Below w0.heap.size w0 w' ∧ Kept w w' (fun k_ => P0_ k_) := by
  unfold solventref37_step.f at h
  by_cases hh : COk l0 ∧ l1.length ≤ 60 ∧ l2.length = l1.length
  · rw [if_pos hh] at h
    obtain ⟨hok, h60, hgl⟩ := hh
    simp only [Option.some.injEq, Prod.mk.injEq] at h
    obtain ⟨rfl, rfl⟩ := h
    have h5 := hok.1
    obtain ⟨g, n, rfl, hg, hn, hcr⟩ := Crd.of_R ho0 (by omega)
    have hP : P0_ g := ho0.1 g rfl
    have hk : ∀ W, KeepBut w W g none → Kept w W (fun k_ => P0_ k_) := fun W hW => ⟨hW.1, fun i hi hp => hW.2 i hi (fun e => hp (e ▸ hP)) (by simp)⟩
    have h5' : (nxt (l1.map tOwn) (leftOf l1.length l2) l0).1.length = 5 := (nxt_COk hok).1
    rw [h5]
    refine (step_any A1 c1 l1 A2 c2 l2 g n n l0 w (fun W hW => hr1 W (hk W hW)) hc1 (fun W hW => hr2 W (hk W hW)) hc2 h60 hgl hcr hok).mono ?_
    rintro e w' ⟨rfl, hc', ht⟩
    refine ⟨rfl, ?_, ⟨ht.os.trans hB.os, ht.tape.trans hB.tape, ht.output.trans hB.output, Nat.le_trans hB.size ht.size, fun k hk => (ht.block k (Nat.lt_of_lt_of_le hk hB.size) (by omega)).trans (hB.block k hk)⟩, ⟨ht.size, fun i hi hp => ht.block i hi (fun e => hp (e ▸ hP))⟩⟩
    have := Crd.R2 (base := w0.heap.size) (ok := fun k_ => P0_ k_ ∨ w.heap.size ≤ k_) hc' hn hg (.inl hP)
    rw [h5'] at this
    exact this
  · rw [if_neg hh] at h
    cases h
end Go.Proofs.Ytmpeekkbmfbjeaa.P

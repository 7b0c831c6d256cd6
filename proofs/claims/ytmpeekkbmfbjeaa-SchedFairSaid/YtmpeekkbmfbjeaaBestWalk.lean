/- The walk of schedule.best: the best of some tasks, by whatever condition and comparison. -/
import Derived.Test.YtmpeekkbmfbjeaaMapLit
import Derived.Test.YtmpeekkbmfbjeaaPx0
import Derived.Test.YtmpeekkbmfbjeaaWgtWalk
import Derived.Lib.Hide
import Derived.BigQuiet
namespace Go.Proofs.Ytmpeekkbmfbjeaa.P
open Go.RowKit Go.Proofs.YtmpeekkbmfbjeaaW.PrintWords Go.Proofs.YtmpeekkbmfbjeaaW.PrintLast Go.Proofs.YtmpeekkbmfbjeaaW.PrintMore
theorem eqA50 (d : Nat) (w : World) (x0 y0 : Int) (x1 y1 : Int) :
    (Op.equalIn (d + 2) 50 (.agg #[.int .i64 x0, .int .i64 x1]) (.agg #[.int .i64 y0, .int .i64 y1])).run Try.prog w = .ok (x0 == y0 && (x1 == y1)) w := by
  refine eqA_of Try.underlying50 (by kernel_rfl) ?_
  refine eqf_cons (by rfl) (by go_simp; rfl) (by go_simp; rfl) (by go_simp) ?_
  exact eqf_last (by rfl) (by go_simp; rfl) (by go_simp; rfl) (by go_simp)
theorem eqA78 (d : Nat) (w : World) (x0 y0 : Int) (x1 y1 : Int) (x2 y2 : Int) (x3 y3 : Int) :
    (Op.equalIn (d + 3) 78 (.agg #[.int .i64 x0, .int .i64 x1, .int .i64 x2, .int .i64 x3]) (.agg #[.int .i64 y0, .int .i64 y1, .int .i64 y2, .int .i64 y3])).run Try.prog w = .ok ((x0 == y0 && (x1 == y1)) && (x2 == y2 && (x3 == y3))) w := by
  refine eqA_of Try.underlying78 (by kernel_rfl) ?_
  refine eqf_cons (by rfl) (by go_simp) (by go_simp) (eqA50 (d + 0) w _ _ _ _) ?_
  refine eqf_cons (by rfl) (by go_simp; rfl) (by go_simp; rfl) (by go_simp) ?_
  exact eqf_last (by rfl) (by go_simp; rfl) (by go_simp; rfl) (by go_simp)
end Go.Proofs.Ytmpeekkbmfbjeaa.P
namespace Go.Proofs.Ytmpeekkbmfbjeaa
open Go.RowKit Go.Lib Go.Proofs.Ytmpeekkbmfbjeaa.P Go.Proofs.YtmpeekkbmfbjeaaW.PrintWords Go.Proofs.YtmpeekkbmfbjeaaW.PrintLast Go.Proofs.YtmpeekkbmfbjeaaW.PrintMore

set_option linter.unusedVariables false
set_option linter.unusedSimpArgs false

def bestR.T : Bool × List (List Nat × List Nat) := (true, [([], []), ([], []), ([0, 1], [0, 1]), ([2], [2]), ([3], [3]), ([], []), ([4, 5], [4, 5]), ([6], [6]), ([7], [7]), ([7], [7]), ([7], [7]), ([9, 10, 7], [7, 9, 10]), ([11, 7], [7, 11]), ([8, 12, 7, 7], [7, 8, 12]), ([7, 13], [7, 13]), ([14, 13], [14]), ([15], [15]), ([16, 15], [15, 16]), ([17, 15, 15], [15, 17]), ([18], [18]), ([18], [18]), ([18], [18]), ([20, 21, 18], [18, 20, 21]), ([22, 18], [18, 22]), ([18], [18]), ([18], [18]), ([24, 25, 18], [18, 24, 25]), ([26, 18], [18, 26]), ([19, 23, 27, 18, 18], [18, 19, 23, 27]), ([28, 18], [18, 28]), ([18, 29, 15], [15, 18, 29]), ([15, 30], [15, 30])])
def bestR.B : List Nat := [0, 0, 3, 7, 15, 0, 63, 127, 255, 255, 255, 1791, 3839, 8191, 16383, 32767, 65535, 131071, 262143, 524287, 524287, 524287, 3670015, 7864319, 524287, 524287, 50855935, 117964799, 268435455, 536870911, 1073741823, 2147483647]
theorem bestR.tab : rtab .any (opsOf Try.f30 6) = bestR.T := by kernel_rfl
theorem bestR.bits : waitsOk bestR.T.2 bestR.B = true := by kernel_rfl

def tv (t : S58) : Value := .agg #[.int .i64 t.f0, .int .i64 t.f1.f0, .int .i64 t.f1.f1, .int .i64 t.f2, .int .i64 t.f3]

/-- one round of best: the index so far, and the next one. -/
def bStep (l : List S58) (kind : Int) (p : S58 → Bool) (cf : S58 → S58 → Int) (out k : Int) : Int :=
  if (rd_T58 l k).f0 = kind ∧ p (rd_T58 l k) = true ∧ (out < 0 ∨ cf (rd_T58 l k) (rd_T58 l out) < 0) then k else out
def bst (l : List S58) (kind : Int) (p : S58 → Bool) (cf : S58 → S58 → Int) (left : List Int) : Int := left.foldl (bStep l kind p cf) (-1)

def BInv (l : List S58) (kind : Int) (p : S58 → Bool) (out : Int) : Prop :=
  out = -1 ∨ (0 ≤ out ∧ out < l.length ∧ (rd_T58 l out).f0 = kind ∧ p (rd_T58 l out) = true)

theorem bInv_step (l : List S58) (kind : Int) (p : S58 → Bool) (cf : S58 → S58 → Int) (out k : Int) (h : BInv l kind p out) (h0 : 0 ≤ k) (h1 : k < l.length) : BInv l kind p (bStep l kind p cf out k) := by
  unfold bStep
  split
  · rename_i c
    exact Or.inr ⟨h0, h1, c.1, c.2.1⟩
  · exact h

set_option maxHeartbeats 8000000 in
set_option maxRecDepth 1000000 in
theorem best_any (A : Option Addr) (c : Nat) (l : List S58) (B : Option Addr) (d : Nat) (left : List Int) (kind : Int) (g : Nat) (p : S58 → Bool) (cf : S58 → S58 → Int) (w : World)
    (hl : Kd.C k58 w A l.length l) (hle : Kd.C (Kd.int .i64) w B left.length left) (hin : ∀ j, j < left.length → 0 ≤ rd left (j : Int) ∧ rd left (j : Int) < l.length) (hlen : left.length < 2305843009213693952)
    (eg : ∀ args w, (callFunc g args).run Try.prog w = .ok (.enter g args) w)
    (ec : ∀ args w, (callFunc (cmpN kind) args).run Try.prog w = .ok (.enter (cmpN kind) args) w)
    (hp : ∀ (t : S58) (W : World), Calls Try.prog g #[tv t] W fun e w' => e = .returned (.bool (p t)) ∧ Below W.heap.size W w')
    (hc : ∀ (s t : S58) (W : World), p s = true → p t = true → s.f0 = kind → t.f0 = kind → Calls Try.prog (cmpN kind) #[tv s, tv t] W fun e w' => e = .returned (.int .i64 (cf s t)) ∧ Below W.heap.size W w') :
    Calls Try.prog 30 #[.slice A l.length c, .slice B left.length d, .int .i64 kind, .func (.func g) #[] #[]] w fun e w' =>
      e = .returned (.int .i64 (bst l kind p cf left)) ∧ Below w.heap.size w w' := by
  have hu58 := Try.underlying58
  obtain ⟨q, hq⟩ : ∃ q, q = cmpN kind := ⟨_, rfl⟩
  rw [← hq] at ec hc
  have HQ := Lib.hid hq
  clear hq
  have HL : Aside _ := hl
  have HLE : Aside _ := hle
  have HIN : Aside _ := hin
  have HP : Aside _ := hp
  have HC : Aside _ := hc
  clear hl hle hin hp hc
  go_enter Try.func30, Try.ntmps30
  go_wp2_with (first | (go_at_call 37; refine (comparison_any _ _).mono ?_; rw [← HQ.out]; rintro e w1 ⟨rfl, hb⟩))
  have HB1 : Aside (Below w.heap.size w w1) := hb
  clear hb
  obtain ⟨n, hn⟩ : ∃ n, n = left.length := ⟨_, rfl⟩
  rw [← hn] at hlen ⊢
  have HN := Lib.hid hn
  clear hn
  go_loopg [10, 12, 17] n (fun g1 vo vk vi wr => ∃ (i : Nat) (out : Int), vi = .int .i64 i ∧ vo = .int .i64 out ∧ i ≤ n ∧ n - i ≤ g1 ∧ Hid (out = (left.take i).foldl (bStep l kind p cf) (-1)) ∧ Aside (BInv l kind p out) ∧ Aside (Below w.heap.size w wr))
  case atStart => exact ⟨0, -1, rfl, rfl, by omega, by omega, rfl, Or.inl rfl, HB1⟩
  case round =>
    clear HB1
    obtain ⟨i, out, rfl, rfl, hin, hg1, HO, HI, HB⟩ := hrel
    by_cases hlt : i < n
    · have hltz : (i : Int) < (n : Int) := by omega
      have hen := HN.out
      obtain ⟨ad, rfl, hcell⟩ := (Kd.reads_of_C (d := (0 : Int)) (Kd.C_below HLE.out HB.out)).at_ (i : Int) (by omega) (by omega)
      obtain ⟨x, hx⟩ : ∃ x, x = rd left (i : Int) := ⟨_, rfl⟩
      have hxb := HIN.out i (by omega)
      rw [← hx] at hxb
      have hcell2 : wr.cell? (ad.add i) = some (.int .i64 x) := by rw [hx]; exact hcell
      clear hcell hen
      have HX := Lib.hid hx
      clear hx
      obtain ⟨adA, rfl, c0, c1, c2, c3, c4⟩ := at_T58 (Kd.C_below HL.out HB.out) x hxb.1 hxb.2
      obtain ⟨t, ht⟩ : ∃ t, t = rd_T58 l x := ⟨_, rfl⟩
      rw [← ht] at c0 c1 c2 c3 c4
      have HT := Lib.hid ht
      clear ht
      have step : ∀ out', out' = bStep l kind p cf out x → Hid (out' = (left.take (i + 1)).foldl (bStep l kind p cf) (-1)) := fun out' h => by
        show _ = _
        have hi : i < left.length := by have := HN.out; omega
        rw [List.take_succ_eq_append_getElem hi, List.foldl_append, ← HO.out, h, HX.out]
        simp [rd, List.getD_eq_getElem?_getD, hi]
      have STEP : Aside _ := step
      clear step
      by_cases k1 : t.f0 = kind
      · have k1b : (t.f0 == kind) = true := by simp [k1]
        have k1c : decide (t.f0 = kind) = true := by simp [k1]
        have HT2 : Hid (tv t = .agg #[.int .i64 kind, .int .i64 t.f1.f0, .int .i64 t.f1.f1, .int .i64 t.f2, .int .i64 t.f3]) := by show _ = _; unfold tv; rw [k1]
        have HPT : Aside (∀ W : World, Calls Try.prog g #[.agg #[.int .i64 kind, .int .i64 t.f1.f0, .int .i64 t.f1.f1, .int .i64 t.f2, .int .i64 t.f3]] W fun e w' => e = .returned (.bool (p t)) ∧ Below W.heap.size W w') := by
          have h := HP.out t
          rw [HT2.out] at h
          exact h
        rw [k1] at c0
        have hx0 := hxb.1
        have hx1 := hxb.2
        by_cases k2 : p t = true
        · have HI2 := HI.out
          rcases HI2 with rfl | ⟨o0, o1, o2, o3⟩
          · have N1 := STEP.out x (by unfold bStep; rw [if_pos ⟨by rw [← HT.out]; exact k1, by rw [← HT.out]; exact k2, Or.inl (by decide)⟩])
            have NI : Aside (BInv l kind p x) := Or.inr ⟨hx0, hx1, by rw [← HT.out]; exact k1, by rw [← HT.out]; exact k2⟩
            go_wp2_with fail
            refine start_ (n := 32) (S := fun w' => w'.cell? (adA.add (x.toNat * 5)) = some (.int .i64 kind) ∧ w'.cell? ⟨(adA.add (x.toNat * 5)).block, (adA.add (x.toNat * 5)).off + 1, none⟩ = some (.int .i64 t.f1.f0) ∧ w'.cell? ⟨(adA.add (x.toNat * 5)).block, (adA.add (x.toNat * 5)).off + 2, none⟩ = some (.int .i64 t.f1.f1) ∧ w'.cell? ⟨(adA.add (x.toNat * 5)).block, (adA.add (x.toNat * 5)).off + 3, none⟩ = some (.int .i64 t.f2) ∧ w'.cell? ⟨(adA.add (x.toNat * 5)).block, (adA.add (x.toNat * 5)).off + 4, none⟩ = some (.int .i64 t.f3)) (ds := []) (bL 32 0) (by kernel_rfl) rfl (by kernel_rfl) ⟨c0, c1, c2, c3, c4⟩ (fun hHeld => ?_)
            refine with_tabW bestR.tab bestR.bits (fun HT_ HW_ => ?_)
            have HBd : Aside (Below w.heap.size w wr.drew) := below_drew1 HB.out
            clear HB c0 c1 c2 c3 c4
            generalize wr.drew = wd at HBd hHeld ⊢
            refine pure_ (i := 0) (N := some 21) (v := ?_) (a' := ?_) (bL 32 1) rfl rfl (any_of HT_.out (by kernel_rfl)) (fun _ _ _ h => h) (Or.inl ⟨by rfl, ?_⟩) ?_ ?_; rotate_left; (intro w'; go_simp; with_reducible rfl); rotate_left; (simp only [Act.put, act1, act2, act3, i64_w, i32_w]; rfl)
            refine pure_ (i := 1) (N := some 22) (v := ?_) (a' := ?_) (bL 32 3) rfl rfl (any_of HT_.out (by kernel_rfl)) (fun _ _ _ h => h) (Or.inl ⟨by rfl, ?_⟩) ?_ ?_; rotate_left; (intro w'; go_simp; with_reducible rfl); rotate_left; (simp only [Act.put, act1, act2, act3, i64_w, i32_w]; rfl)
            refine pure_ (i := 2) (N := some 23) (v := ?_) (a' := ?_) (bL 32 7) rfl rfl (any_of HT_.out (by kernel_rfl)) (fun _ _ _ h => h) (Or.inl ⟨by rfl, ?_⟩) ?_ ?_; rotate_left; (intro w'; go_simp; with_reducible rfl); rotate_left; (simp only [Act.put, act1, act2, act3, i64_w, i32_w]; rfl)
            refine pure_ (i := 3) (N := some 24) (v := ?_) (a' := ?_) (bL 32 15) rfl rfl (any_of HT_.out (by kernel_rfl)) (fun _ _ _ h => h) (Or.inl ⟨by rfl, ?_⟩) ?_ ?_; rotate_left; (intro w'; go_simp; with_reducible rfl); rotate_left; (simp only [Act.put, act1, act2, act3, i64_w, i32_w]; rfl)
            refine take_ (i := 4) (N := some 25) (v := ?_) (a' := ?_) (bL 32 31) rfl rfl (take_ofW HT_.out HW_.out (by kernel_rfl)) (fun _ _ _ h => h) (Or.inl ⟨by rfl, ?_⟩) hHeld ?_ ?_; rotate_left; (rintro w' ⟨s0, s1, s2, s3, s4⟩; go_simp; with_reducible rfl); rotate_left; (simp only [Act.put, act1, act2, act3, i64_w, i32_w]; rfl)
            refine pure_ (i := 5) (N := some 26) (v := ?_) (a' := ?_) (bL 32 63) rfl rfl (any_of HT_.out (by kernel_rfl)) (fun _ _ _ h => h) (Or.inl ⟨by rfl, ?_⟩) ?_ ?_; rotate_left; (intro w'; go_simp; with_reducible rfl); rotate_left; (simp only [Act.put, act1, act2, act3, i64_w, i32_w]; rfl)
            refine pure_ (i := 6) (N := some 27) (v := ?_) (a' := ?_) (bL 32 127) rfl rfl (any_of HT_.out (by kernel_rfl)) (fun _ _ _ h => h) (Or.inl ⟨by rfl, ?_⟩) ?_ ?_; rotate_left; (intro w'; go_simp; with_reducible rfl); rotate_left; (simp only [Act.put, act1, act2, act3, i64_w, i32_w]; rfl)
            refine pure_ (i := 7) (N := some 28) (v := ?_) (a' := ?_) (bL 32 255) rfl rfl (any_of HT_.out (by kernel_rfl)) (fun _ _ _ h => h) (Or.inl ⟨by rfl, ?_⟩) ?_ ?_; rotate_left; (intro w'; go_simp; with_reducible rfl); rotate_left; (simp only [Act.put, act1, act2, act3, i64_w, i32_w]; rfl)
            refine pure_ (i := 8) (N := some 29) (v := ?_) (a' := ?_) (bL 32 511) rfl rfl (any_of HT_.out (by kernel_rfl)) (fun _ _ _ h => h) (Or.inl ⟨by rfl, ?_⟩) ?_ ?_; rotate_left; (intro w'; go_simp; with_reducible rfl); rotate_left; (simp only [Act.put, act1, act2, act3, i64_w, i32_w]; rfl)
            refine pure_ (i := 9) (N := some 30) (v := ?_) (a' := ?_) (bL 32 1023) rfl rfl (any_of HT_.out (by kernel_rfl)) (fun _ _ _ h => h) (Or.inl ⟨by rfl, ?_⟩) ?_ ?_; rotate_left; (intro w'; go_simp; with_reducible rfl); rotate_left; (simp only [Act.put, act1, act2, act3, i64_w, i32_w]; rfl)
            refine pure_ (i := 10) (N := some 31) (v := ?_) (a' := ?_) (bL 32 2047) rfl rfl (any_of HT_.out (by kernel_rfl)) (fun _ _ _ h => h) (Or.inl ⟨by rfl, ?_⟩) ?_ ?_; rotate_left; (intro w'; go_simp; with_reducible rfl); rotate_left; (simp only [Act.put, act1, act2, act3, i64_w, i32_w]; rfl)
            refine pure_ (i := 11) (N := some 32) (v := ?_) (a' := ?_) (bL 32 4095) rfl rfl (any_of HT_.out (by kernel_rfl)) (fun _ _ _ h => h) (Or.inl ⟨by rfl, ?_⟩) ?_ ?_; rotate_left; (intro w'; go_simp; with_reducible rfl); rotate_left; (simp only [Act.put, act1, act2, act3, i64_w, i32_w]; rfl)
            refine take_ (i := 12) (N := some 33) (v := ?_) (a' := ?_) (bL 32 8191) rfl rfl (take_ofW HT_.out HW_.out (by kernel_rfl)) (fun _ _ _ h => h) (Or.inl ⟨by rfl, ?_⟩) hHeld ?_ ?_; rotate_left; (rintro w' ⟨s0, s1, s2, s3, s4⟩; go_simp; with_reducible rfl); rotate_left; (simp only [Act.put, act1, act2, act3, i64_w, i32_w]; rfl)
            refine one_ (i := 13) (N := some 34) (bL 32 16383) rfl rfl (one_of HT_.out (by kernel_rfl)) (by decide) (fun K hK => ?_)
            refine call_ g #[.agg #[.int .i64 kind, .int .i64 t.f1.f0, .int .i64 t.f1.f1, .int .i64 t.f2, .int .i64 t.f3]] (by rfl) rfl ?_ ?_
            · unfold execOp
              simp [resolve, Deferred.ofValue, invoke, Act.eval, eg]
            refine (HPT.out _).mono ?_
            rw [k2]
            rintro e w2 ⟨rfl, hb_w2⟩
            refine ⟨_, rfl, ?_⟩
            refine hK.out _ _ ⟨pw_cell_below hb_w2 hHeld.1, pw_cell_below hb_w2 hHeld.2.1, pw_cell_below hb_w2 hHeld.2.2.1, pw_cell_below hb_w2 hHeld.2.2.2.1, pw_cell_below hb_w2 hHeld.2.2.2.2⟩ (fun hHeld => ?_)
            clear hK K
            refine norm_ (a' := ?_) ?_ ?_
            rotate_left
            · show Act.put _ (some 34) _ = _
              simp only [Act.put, List.setIfInBounds_toArray, List.set_cons_zero, List.set_cons_succ, i64_w, i32_w]
              rfl
            refine pure_ (i := 14) (N := some 35) (v := ?_) (a' := ?_) (bL 32 32767) rfl rfl (any_of HT_.out (by kernel_rfl)) (fun _ _ _ h => h) (Or.inl ⟨by rfl, ?_⟩) ?_ ?_; rotate_left; (intro w'; go_simp; with_reducible rfl); rotate_left; (simp only [Act.put, act1, act2, act3, i64_w, i32_w]; rfl)
            refine pure_ (i := 15) (N := some 36) (v := ?_) (a' := ?_) (bL 32 65535) rfl rfl (any_of HT_.out (by kernel_rfl)) (fun _ _ _ h => h) (Or.inl ⟨by rfl, ?_⟩) ?_ ?_; rotate_left; (intro w'; go_simp; with_reducible rfl); rotate_left; (simp only [Act.put, act1, act2, act3, i64_w, i32_w]; rfl)
            refine pure_ (i := 16) (N := some 37) (v := ?_) (a' := ?_) (bL 32 131071) rfl rfl (any_of HT_.out (by kernel_rfl)) (fun _ _ _ h => h) (Or.inl ⟨by rfl, ?_⟩) ?_ ?_; rotate_left; (intro w'; go_simp; with_reducible rfl); rotate_left; (simp only [Act.put, act1, act2, act3, i64_w, i32_w]; rfl)
            refine pure_ (i := 17) (N := some 38) (v := ?_) (a' := ?_) (bL 32 262143) rfl rfl (any_of HT_.out (by kernel_rfl)) (fun _ _ _ h => h) (Or.inl ⟨by rfl, ?_⟩) ?_ ?_; rotate_left; (intro w'; go_simp; with_reducible rfl); rotate_left; (simp only [Act.put, act1, act2, act3, i64_w, i32_w]; rfl)
            refine pure_ (i := 18) (N := some 39) (v := ?_) (a' := ?_) (bL 32 524287) rfl rfl (any_of HT_.out (by kernel_rfl)) (fun _ _ _ h => h) (Or.inl ⟨by rfl, ?_⟩) ?_ ?_; rotate_left; (intro w'; go_simp; with_reducible rfl); rotate_left; (simp only [Act.put, act1, act2, act3, i64_w, i32_w]; rfl)
            refine pure_ (i := 19) (N := some 40) (v := undef) (a' := ?_) (bL 32 1048575) rfl rfl (any_of HT_.out (by kernel_rfl)) (fun _ _ _ h => h) (Or.inr ⟨by rfl, rfl⟩) ?_ ?_
            rotate_left
            · simp only [Act.put, List.setIfInBounds_toArray, List.set_cons_zero, List.set_cons_succ, i64_w, i32_w]
              rfl
            refine pure_ (i := 20) (N := some 41) (v := undef) (a' := ?_) (bL 32 2097151) rfl rfl (any_of HT_.out (by kernel_rfl)) (fun _ _ _ h => h) (Or.inr ⟨by rfl, rfl⟩) ?_ ?_
            rotate_left
            · simp only [Act.put, List.setIfInBounds_toArray, List.set_cons_zero, List.set_cons_succ, i64_w, i32_w]
              rfl
            refine pure_ (i := 21) (N := some 42) (v := undef) (a' := ?_) (bL 32 4194303) rfl rfl (any_of HT_.out (by kernel_rfl)) (fun _ _ _ h => h) (Or.inr ⟨by rfl, rfl⟩) ?_ ?_
            rotate_left
            · simp only [Act.put, List.setIfInBounds_toArray, List.set_cons_zero, List.set_cons_succ, i64_w, i32_w]
              rfl
            refine pure_ (i := 22) (N := some 43) (v := undef) (a' := ?_) (bL 32 8388607) rfl rfl (any_of HT_.out (by kernel_rfl)) (fun _ _ _ h => h) (Or.inr ⟨by rfl, rfl⟩) ?_ ?_
            rotate_left
            · simp only [Act.put, List.setIfInBounds_toArray, List.set_cons_zero, List.set_cons_succ, i64_w, i32_w]
              rfl
            refine pure_ (i := 23) (N := some 44) (v := undef) (a' := ?_) (bL 32 16777215) rfl rfl (any_of HT_.out (by kernel_rfl)) (fun _ _ _ h => h) (Or.inr ⟨by rfl, rfl⟩) ?_ ?_
            rotate_left
            · simp only [Act.put, List.setIfInBounds_toArray, List.set_cons_zero, List.set_cons_succ, i64_w, i32_w]
              rfl
            refine pure_ (i := 24) (N := some 45) (v := undef) (a' := ?_) (bL 32 33554431) rfl rfl (any_of HT_.out (by kernel_rfl)) (fun _ _ _ h => h) (Or.inr ⟨by rfl, rfl⟩) ?_ ?_
            rotate_left
            · simp only [Act.put, List.setIfInBounds_toArray, List.set_cons_zero, List.set_cons_succ, i64_w, i32_w]
              rfl
            refine pure_ (i := 25) (N := some 46) (v := undef) (a' := ?_) (bL 32 67108863) rfl rfl (any_of HT_.out (by kernel_rfl)) (fun _ _ _ h => h) (Or.inr ⟨by rfl, rfl⟩) ?_ ?_
            rotate_left
            · simp only [Act.put, List.setIfInBounds_toArray, List.set_cons_zero, List.set_cons_succ, i64_w, i32_w]
              rfl
            refine pure_ (i := 26) (N := some 47) (v := undef) (a' := ?_) (bL 32 134217727) rfl rfl (any_of HT_.out (by kernel_rfl)) (fun _ _ _ h => h) (Or.inr ⟨by rfl, rfl⟩) ?_ ?_
            rotate_left
            · simp only [Act.put, List.setIfInBounds_toArray, List.set_cons_zero, List.set_cons_succ, i64_w, i32_w]
              rfl
            refine pure_ (i := 27) (N := some 48) (v := undef) (a' := ?_) (bL 32 268435455) rfl rfl (any_of HT_.out (by kernel_rfl)) (fun _ _ _ h => h) (Or.inr ⟨by rfl, rfl⟩) ?_ ?_
            rotate_left
            · simp only [Act.put, List.setIfInBounds_toArray, List.set_cons_zero, List.set_cons_succ, i64_w, i32_w]
              rfl
            refine pure_ (i := 28) (N := some 49) (v := undef) (a' := ?_) (bL 32 536870911) rfl rfl (any_of HT_.out (by kernel_rfl)) (fun _ _ _ h => h) (Or.inr ⟨by rfl, rfl⟩) ?_ ?_
            rotate_left
            · simp only [Act.put, List.setIfInBounds_toArray, List.set_cons_zero, List.set_cons_succ, i64_w, i32_w]
              rfl
            refine pure_ (i := 29) (N := some 50) (v := undef) (a' := ?_) (bL 32 1073741823) rfl rfl (any_of HT_.out (by kernel_rfl)) (fun _ _ _ h => h) (Or.inr ⟨by rfl, rfl⟩) ?_ ?_
            rotate_left
            · simp only [Act.put, List.setIfInBounds_toArray, List.set_cons_zero, List.set_cons_succ, i64_w, i32_w]
              rfl
            refine pure_ (i := 30) (N := some 51) (v := ?_) (a' := ?_) (bL 32 2147483647) rfl rfl (any_of HT_.out (by kernel_rfl)) (fun _ _ _ h => h) (Or.inl ⟨by rfl, ?_⟩) ?_ ?_; rotate_left; (intro w'; go_simp; with_reducible rfl); rotate_left; (simp only [Act.put, act1, act2, act3, i64_w, i32_w]; rfl)
            refine pure_ (i := 31) (N := some 52) (v := ?_) (a' := ?_) (bL 32 4294967295) rfl rfl (any_of HT_.out (by kernel_rfl)) (fun _ _ _ h => h) (Or.inl ⟨by rfl, ?_⟩) ?_ ?_; rotate_left; (intro w'; go_simp; with_reducible rfl); rotate_left; (simp only [Act.put, act1, act2, act3, i64_w, i32_w]; rfl)
            refine done_ (done_of HT_.out (by kernel_rfl)) ?_
            clear hHeld HT_ HW_
            go_wp2_with fail
            go_roundg (n - (i + 1))
            case measure => omega
            case rel => exact ⟨i + 1, x, by go_num, rfl, by omega, by omega, N1, NI, below_then HBd.out HBd.out.size hb_w2⟩
          · obtain ⟨adB, eB, d0, d1, d2, d3, d4⟩ := at_T58 (Kd.C_below HL.out HB.out) out o0 o1
            cases eB
            obtain ⟨u, hu⟩ : ∃ u, u = rd_T58 l out := ⟨_, rfl⟩
            rw [← hu] at d0 d1 d2 d3 d4 o2 o3
            rw [o2] at d0
            have HU := Lib.hid hu
            clear hu
            have HCU : Aside (∀ W : World, Calls Try.prog q #[.agg #[.int .i64 kind, .int .i64 t.f1.f0, .int .i64 t.f1.f1, .int .i64 t.f2, .int .i64 t.f3], .agg #[.int .i64 kind, .int .i64 u.f1.f0, .int .i64 u.f1.f1, .int .i64 u.f2, .int .i64 u.f3]] W fun e w' => e = .returned (.int .i64 (cf t u)) ∧ Below W.heap.size W w') := by
              have h := fun W => HC.out t u W k2 o3 k1 o2
              have hu2 : tv u = .agg #[.int .i64 kind, .int .i64 u.f1.f0, .int .i64 u.f1.f1, .int .i64 u.f2, .int .i64 u.f3] := by unfold tv; rw [o2]
              rw [HT2.out, hu2] at h
              exact h
            have ho : ¬ out < 0 := by omega
            have hob : decide (out < 0) = false := decide_eq_false ho
            clear HP HC
            by_cases k3 : cf t u < 0
            · have N1 := STEP.out x (by unfold bStep; rw [if_pos ⟨by rw [← HT.out]; exact k1, by rw [← HT.out]; exact k2, Or.inr (by rw [← HT.out, ← HU.out]; exact k3)⟩])
              have NI : Aside (BInv l kind p x) := Or.inr ⟨hx0, hx1, by rw [← HT.out]; exact k1, by rw [← HT.out]; exact k2⟩
              have k3b : decide (cf t u < 0) = true := decide_eq_true k3
              go_wp2_with fail
              refine start_ (n := 32) (S := fun w' => w'.cell? (adA.add (x.toNat * 5)) = some (.int .i64 kind) ∧ w'.cell? ⟨(adA.add (x.toNat * 5)).block, (adA.add (x.toNat * 5)).off + 1, none⟩ = some (.int .i64 t.f1.f0) ∧ w'.cell? ⟨(adA.add (x.toNat * 5)).block, (adA.add (x.toNat * 5)).off + 2, none⟩ = some (.int .i64 t.f1.f1) ∧ w'.cell? ⟨(adA.add (x.toNat * 5)).block, (adA.add (x.toNat * 5)).off + 3, none⟩ = some (.int .i64 t.f2) ∧ w'.cell? ⟨(adA.add (x.toNat * 5)).block, (adA.add (x.toNat * 5)).off + 4, none⟩ = some (.int .i64 t.f3) ∧ w'.cell? (adA.add (out.toNat * 5)) = some (.int .i64 kind) ∧ w'.cell? ⟨(adA.add (out.toNat * 5)).block, (adA.add (out.toNat * 5)).off + 1, none⟩ = some (.int .i64 u.f1.f0) ∧ w'.cell? ⟨(adA.add (out.toNat * 5)).block, (adA.add (out.toNat * 5)).off + 2, none⟩ = some (.int .i64 u.f1.f1) ∧ w'.cell? ⟨(adA.add (out.toNat * 5)).block, (adA.add (out.toNat * 5)).off + 3, none⟩ = some (.int .i64 u.f2) ∧ w'.cell? ⟨(adA.add (out.toNat * 5)).block, (adA.add (out.toNat * 5)).off + 4, none⟩ = some (.int .i64 u.f3)) (ds := []) (bL 32 0) (by kernel_rfl) rfl (by kernel_rfl) ⟨c0, c1, c2, c3, c4, d0, d1, d2, d3, d4⟩ (fun hHeld => ?_)
              refine with_tabW bestR.tab bestR.bits (fun HT_ HW_ => ?_)
              have HBd : Aside (Below w.heap.size w wr.drew) := below_drew1 HB.out
              clear HB c0 c1 c2 c3 c4 d0 d1 d2 d3 d4
              generalize wr.drew = wd at HBd hHeld ⊢
              refine pure_ (i := 0) (N := some 21) (v := ?_) (a' := ?_) (bL 32 1) rfl rfl (any_of HT_.out (by kernel_rfl)) (fun _ _ _ h => h) (Or.inl ⟨by rfl, ?_⟩) ?_ ?_; rotate_left; (intro w'; go_simp; with_reducible rfl); rotate_left; (simp only [Act.put, act1, act2, act3, i64_w, i32_w]; rfl)
              refine pure_ (i := 1) (N := some 22) (v := ?_) (a' := ?_) (bL 32 3) rfl rfl (any_of HT_.out (by kernel_rfl)) (fun _ _ _ h => h) (Or.inl ⟨by rfl, ?_⟩) ?_ ?_; rotate_left; (intro w'; go_simp; with_reducible rfl); rotate_left; (simp only [Act.put, act1, act2, act3, i64_w, i32_w]; rfl)
              refine pure_ (i := 2) (N := some 23) (v := ?_) (a' := ?_) (bL 32 7) rfl rfl (any_of HT_.out (by kernel_rfl)) (fun _ _ _ h => h) (Or.inl ⟨by rfl, ?_⟩) ?_ ?_; rotate_left; (intro w'; go_simp; with_reducible rfl); rotate_left; (simp only [Act.put, act1, act2, act3, i64_w, i32_w]; rfl)
              refine pure_ (i := 3) (N := some 24) (v := ?_) (a' := ?_) (bL 32 15) rfl rfl (any_of HT_.out (by kernel_rfl)) (fun _ _ _ h => h) (Or.inl ⟨by rfl, ?_⟩) ?_ ?_; rotate_left; (intro w'; go_simp; with_reducible rfl); rotate_left; (simp only [Act.put, act1, act2, act3, i64_w, i32_w]; rfl)
              refine take_ (i := 4) (N := some 25) (v := ?_) (a' := ?_) (bL 32 31) rfl rfl (take_ofW HT_.out HW_.out (by kernel_rfl)) (fun _ _ _ h => h) (Or.inl ⟨by rfl, ?_⟩) hHeld ?_ ?_; rotate_left; (rintro w' ⟨s0, s1, s2, s3, s4, s5, s6, s7, s8, s9⟩; go_simp; with_reducible rfl); rotate_left; (simp only [Act.put, act1, act2, act3, i64_w, i32_w]; rfl)
              refine pure_ (i := 5) (N := some 26) (v := ?_) (a' := ?_) (bL 32 63) rfl rfl (any_of HT_.out (by kernel_rfl)) (fun _ _ _ h => h) (Or.inl ⟨by rfl, ?_⟩) ?_ ?_; rotate_left; (intro w'; go_simp; with_reducible rfl); rotate_left; (simp only [Act.put, act1, act2, act3, i64_w, i32_w]; rfl)
              refine pure_ (i := 6) (N := some 27) (v := ?_) (a' := ?_) (bL 32 127) rfl rfl (any_of HT_.out (by kernel_rfl)) (fun _ _ _ h => h) (Or.inl ⟨by rfl, ?_⟩) ?_ ?_; rotate_left; (intro w'; go_simp; with_reducible rfl); rotate_left; (simp only [Act.put, act1, act2, act3, i64_w, i32_w]; rfl)
              refine pure_ (i := 7) (N := some 28) (v := ?_) (a' := ?_) (bL 32 255) rfl rfl (any_of HT_.out (by kernel_rfl)) (fun _ _ _ h => h) (Or.inl ⟨by rfl, ?_⟩) ?_ ?_; rotate_left; (intro w'; go_simp; with_reducible rfl); rotate_left; (simp only [Act.put, act1, act2, act3, i64_w, i32_w]; rfl)
              refine pure_ (i := 8) (N := some 29) (v := ?_) (a' := ?_) (bL 32 511) rfl rfl (any_of HT_.out (by kernel_rfl)) (fun _ _ _ h => h) (Or.inl ⟨by rfl, ?_⟩) ?_ ?_; rotate_left; (intro w'; go_simp; with_reducible rfl); rotate_left; (simp only [Act.put, act1, act2, act3, i64_w, i32_w]; rfl)
              refine pure_ (i := 9) (N := some 30) (v := ?_) (a' := ?_) (bL 32 1023) rfl rfl (any_of HT_.out (by kernel_rfl)) (fun _ _ _ h => h) (Or.inl ⟨by rfl, ?_⟩) ?_ ?_; rotate_left; (intro w'; go_simp; with_reducible rfl); rotate_left; (simp only [Act.put, act1, act2, act3, i64_w, i32_w]; rfl)
              refine pure_ (i := 10) (N := some 31) (v := ?_) (a' := ?_) (bL 32 2047) rfl rfl (any_of HT_.out (by kernel_rfl)) (fun _ _ _ h => h) (Or.inl ⟨by rfl, ?_⟩) ?_ ?_; rotate_left; (intro w'; go_simp; with_reducible rfl); rotate_left; (simp only [Act.put, act1, act2, act3, i64_w, i32_w]; rfl)
              refine pure_ (i := 11) (N := some 32) (v := ?_) (a' := ?_) (bL 32 4095) rfl rfl (any_of HT_.out (by kernel_rfl)) (fun _ _ _ h => h) (Or.inl ⟨by rfl, ?_⟩) ?_ ?_; rotate_left; (intro w'; go_simp; with_reducible rfl); rotate_left; (simp only [Act.put, act1, act2, act3, i64_w, i32_w]; rfl)
              refine take_ (i := 12) (N := some 33) (v := ?_) (a' := ?_) (bL 32 8191) rfl rfl (take_ofW HT_.out HW_.out (by kernel_rfl)) (fun _ _ _ h => h) (Or.inl ⟨by rfl, ?_⟩) hHeld ?_ ?_; rotate_left; (rintro w' ⟨s0, s1, s2, s3, s4, s5, s6, s7, s8, s9⟩; go_simp; with_reducible rfl); rotate_left; (simp only [Act.put, act1, act2, act3, i64_w, i32_w]; rfl)
              refine one_ (i := 13) (N := some 34) (bL 32 16383) rfl rfl (one_of HT_.out (by kernel_rfl)) (by decide) (fun K hK => ?_)
              refine call_ g #[.agg #[.int .i64 kind, .int .i64 t.f1.f0, .int .i64 t.f1.f1, .int .i64 t.f2, .int .i64 t.f3]] (by rfl) rfl ?_ ?_
              · unfold execOp
                simp [resolve, Deferred.ofValue, invoke, Act.eval, eg]
              refine (HPT.out _).mono ?_
              rw [k2]
              rintro e w2 ⟨rfl, hb_w2⟩
              refine ⟨_, rfl, ?_⟩
              refine hK.out _ _ ⟨pw_cell_below hb_w2 hHeld.1, pw_cell_below hb_w2 hHeld.2.1, pw_cell_below hb_w2 hHeld.2.2.1, pw_cell_below hb_w2 hHeld.2.2.2.1, pw_cell_below hb_w2 hHeld.2.2.2.2.1, pw_cell_below hb_w2 hHeld.2.2.2.2.2.1, pw_cell_below hb_w2 hHeld.2.2.2.2.2.2.1, pw_cell_below hb_w2 hHeld.2.2.2.2.2.2.2.1, pw_cell_below hb_w2 hHeld.2.2.2.2.2.2.2.2.1, pw_cell_below hb_w2 hHeld.2.2.2.2.2.2.2.2.2⟩ (fun hHeld => ?_)
              clear hK K
              refine norm_ (a' := ?_) ?_ ?_
              rotate_left
              · show Act.put _ (some 34) _ = _
                simp only [Act.put, List.setIfInBounds_toArray, List.set_cons_zero, List.set_cons_succ, i64_w, i32_w]
                rfl
              refine pure_ (i := 14) (N := some 35) (v := ?_) (a' := ?_) (bL 32 32767) rfl rfl (any_of HT_.out (by kernel_rfl)) (fun _ _ _ h => h) (Or.inl ⟨by rfl, ?_⟩) ?_ ?_; rotate_left; (intro w'; go_simp; with_reducible rfl); rotate_left; (simp only [Act.put, act1, act2, act3, i64_w, i32_w]; rfl)
              refine pure_ (i := 15) (N := some 36) (v := ?_) (a' := ?_) (bL 32 65535) rfl rfl (any_of HT_.out (by kernel_rfl)) (fun _ _ _ h => h) (Or.inl ⟨by rfl, ?_⟩) ?_ ?_; rotate_left; (intro w'; go_simp; with_reducible rfl); rotate_left; (simp only [Act.put, act1, act2, act3, i64_w, i32_w]; rfl)
              refine pure_ (i := 16) (N := some 37) (v := ?_) (a' := ?_) (bL 32 131071) rfl rfl (any_of HT_.out (by kernel_rfl)) (fun _ _ _ h => h) (Or.inl ⟨by rfl, ?_⟩) ?_ ?_; rotate_left; (intro w'; go_simp; with_reducible rfl); rotate_left; (simp only [Act.put, act1, act2, act3, i64_w, i32_w]; rfl)
              refine pure_ (i := 17) (N := some 38) (v := ?_) (a' := ?_) (bL 32 262143) rfl rfl (any_of HT_.out (by kernel_rfl)) (fun _ _ _ h => h) (Or.inl ⟨by rfl, ?_⟩) ?_ ?_; rotate_left; (intro w'; go_simp; with_reducible rfl); rotate_left; (simp only [Act.put, act1, act2, act3, i64_w, i32_w]; rfl)
              refine pure_ (i := 18) (N := some 39) (v := ?_) (a' := ?_) (bL 32 524287) rfl rfl (any_of HT_.out (by kernel_rfl)) (fun _ _ _ h => h) (Or.inl ⟨by rfl, ?_⟩) ?_ ?_; rotate_left; (intro w'; go_simp; with_reducible rfl); rotate_left; (simp only [Act.put, act1, act2, act3, i64_w, i32_w]; rfl)
              refine pure_ (i := 19) (N := some 40) (v := ?_) (a' := ?_) (bL 32 1048575) rfl rfl (any_of HT_.out (by kernel_rfl)) (fun _ _ _ h => h) (Or.inl ⟨by rfl, ?_⟩) ?_ ?_; rotate_left; (intro w'; go_simp; with_reducible rfl); rotate_left; (simp only [Act.put, act1, act2, act3, i64_w, i32_w]; rfl)
              refine pure_ (i := 20) (N := some 41) (v := ?_) (a' := ?_) (bL 32 2097151) rfl rfl (any_of HT_.out (by kernel_rfl)) (fun _ _ _ h => h) (Or.inl ⟨by rfl, ?_⟩) ?_ ?_; rotate_left; (intro w'; go_simp; with_reducible rfl); rotate_left; (simp only [Act.put, act1, act2, act3, i64_w, i32_w]; rfl)
              refine pure_ (i := 21) (N := some 42) (v := ?_) (a' := ?_) (bL 32 4194303) rfl rfl (any_of HT_.out (by kernel_rfl)) (fun _ _ _ h => h) (Or.inl ⟨by rfl, ?_⟩) ?_ ?_; rotate_left; (intro w'; go_simp; with_reducible rfl); rotate_left; (simp only [Act.put, act1, act2, act3, i64_w, i32_w]; rfl)
              refine pure_ (i := 22) (N := some 43) (v := ?_) (a' := ?_) (bL 32 8388607) rfl rfl (any_of HT_.out (by kernel_rfl)) (fun _ _ _ h => h) (Or.inl ⟨by rfl, ?_⟩) ?_ ?_; rotate_left; (intro w'; go_simp; with_reducible rfl); rotate_left; (simp only [Act.put, act1, act2, act3, i64_w, i32_w]; rfl)
              refine take_ (i := 23) (N := some 44) (v := ?_) (a' := ?_) (bL 32 16777215) rfl rfl (take_ofW HT_.out HW_.out (by kernel_rfl)) (fun _ _ _ h => h) (Or.inl ⟨by rfl, ?_⟩) hHeld ?_ ?_; rotate_left; (rintro w' ⟨s0, s1, s2, s3, s4, s5, s6, s7, s8, s9⟩; go_simp; with_reducible rfl); rotate_left; (simp only [Act.put, act1, act2, act3, i64_w, i32_w]; rfl)
              refine pure_ (i := 24) (N := some 45) (v := ?_) (a' := ?_) (bL 32 33554431) rfl rfl (any_of HT_.out (by kernel_rfl)) (fun _ _ _ h => h) (Or.inl ⟨by rfl, ?_⟩) ?_ ?_; rotate_left; (intro w'; go_simp; with_reducible rfl); rotate_left; (simp only [Act.put, act1, act2, act3, i64_w, i32_w]; rfl)
              refine pure_ (i := 25) (N := some 46) (v := ?_) (a' := ?_) (bL 32 67108863) rfl rfl (any_of HT_.out (by kernel_rfl)) (fun _ _ _ h => h) (Or.inl ⟨by rfl, ?_⟩) ?_ ?_; rotate_left; (intro w'; go_simp; with_reducible rfl); rotate_left; (simp only [Act.put, act1, act2, act3, i64_w, i32_w]; rfl)
              refine pure_ (i := 26) (N := some 47) (v := ?_) (a' := ?_) (bL 32 134217727) rfl rfl (any_of HT_.out (by kernel_rfl)) (fun _ _ _ h => h) (Or.inl ⟨by rfl, ?_⟩) ?_ ?_; rotate_left; (intro w'; go_simp; with_reducible rfl); rotate_left; (simp only [Act.put, act1, act2, act3, i64_w, i32_w]; rfl)
              refine take_ (i := 27) (N := some 48) (v := ?_) (a' := ?_) (bL 32 268435455) rfl rfl (take_ofW HT_.out HW_.out (by kernel_rfl)) (fun _ _ _ h => h) (Or.inl ⟨by rfl, ?_⟩) hHeld ?_ ?_; rotate_left; (rintro w' ⟨s0, s1, s2, s3, s4, s5, s6, s7, s8, s9⟩; go_simp; with_reducible rfl); rotate_left; (simp only [Act.put, act1, act2, act3, i64_w, i32_w]; rfl)
              refine one_ (i := 28) (N := some 49) (bL 32 536870911) rfl rfl (one_of HT_.out (by kernel_rfl)) (by decide) (fun K hK => ?_)
              refine call_ q #[.agg #[.int .i64 kind, .int .i64 t.f1.f0, .int .i64 t.f1.f1, .int .i64 t.f2, .int .i64 t.f3], .agg #[.int .i64 kind, .int .i64 u.f1.f0, .int .i64 u.f1.f1, .int .i64 u.f2, .int .i64 u.f3]] (by rfl) rfl ?_ ?_
              · unfold execOp
                simp [resolve, Deferred.ofValue, invoke, Act.eval, ec]
              refine (HCU.out _).mono ?_
              rintro e w3 ⟨rfl, hb_w3⟩
              refine ⟨_, rfl, ?_⟩
              refine hK.out _ _ ⟨pw_cell_below hb_w3 hHeld.1, pw_cell_below hb_w3 hHeld.2.1, pw_cell_below hb_w3 hHeld.2.2.1, pw_cell_below hb_w3 hHeld.2.2.2.1, pw_cell_below hb_w3 hHeld.2.2.2.2.1, pw_cell_below hb_w3 hHeld.2.2.2.2.2.1, pw_cell_below hb_w3 hHeld.2.2.2.2.2.2.1, pw_cell_below hb_w3 hHeld.2.2.2.2.2.2.2.1, pw_cell_below hb_w3 hHeld.2.2.2.2.2.2.2.2.1, pw_cell_below hb_w3 hHeld.2.2.2.2.2.2.2.2.2⟩ (fun hHeld => ?_)
              clear hK K
              refine norm_ (a' := ?_) ?_ ?_
              rotate_left
              · show Act.put _ (some 49) _ = _
                simp only [Act.put, List.setIfInBounds_toArray, List.set_cons_zero, List.set_cons_succ, i64_w, i32_w]
                rfl
              refine pure_ (i := 29) (N := some 50) (v := ?_) (a' := ?_) (bL 32 1073741823) rfl rfl (any_of HT_.out (by kernel_rfl)) (fun _ _ _ h => h) (Or.inl ⟨by rfl, ?_⟩) ?_ ?_; rotate_left; (intro w'; go_simp; with_reducible rfl); rotate_left; (simp only [Act.put, act1, act2, act3, i64_w, i32_w]; rfl)
              refine pure_ (i := 30) (N := some 51) (v := ?_) (a' := ?_) (bL 32 2147483647) rfl rfl (any_of HT_.out (by kernel_rfl)) (fun _ _ _ h => h) (Or.inl ⟨by rfl, ?_⟩) ?_ ?_; rotate_left; (intro w'; go_simp; with_reducible rfl); rotate_left; (simp only [Act.put, act1, act2, act3, i64_w, i32_w]; rfl)
              refine pure_ (i := 31) (N := some 52) (v := ?_) (a' := ?_) (bL 32 4294967295) rfl rfl (any_of HT_.out (by kernel_rfl)) (fun _ _ _ h => h) (Or.inl ⟨by rfl, ?_⟩) ?_ ?_; rotate_left; (intro w'; go_simp; with_reducible rfl); rotate_left; (simp only [Act.put, act1, act2, act3, i64_w, i32_w]; rfl)
              refine done_ (done_of HT_.out (by kernel_rfl)) ?_
              clear hHeld HT_ HW_
              go_wp2_with fail
              go_roundg (n - (i + 1))
              case measure => omega
              case rel => exact ⟨i + 1, x, by go_num, rfl, by omega, by omega, N1, NI, below_then (below_then HBd.out HBd.out.size hb_w2) (below_then HBd.out HBd.out.size hb_w2).size hb_w3⟩
            · have N1 := STEP.out out (by unfold bStep; rw [if_neg (fun h => by rcases h.2.2 with h | h; exact ho h; exact k3 (by rw [HT.out, HU.out]; exact h))])
              have k3b : decide (cf t u < 0) = false := decide_eq_false k3
              go_wp2_with fail
              refine start_ (n := 32) (S := fun w' => w'.cell? (adA.add (x.toNat * 5)) = some (.int .i64 kind) ∧ w'.cell? ⟨(adA.add (x.toNat * 5)).block, (adA.add (x.toNat * 5)).off + 1, none⟩ = some (.int .i64 t.f1.f0) ∧ w'.cell? ⟨(adA.add (x.toNat * 5)).block, (adA.add (x.toNat * 5)).off + 2, none⟩ = some (.int .i64 t.f1.f1) ∧ w'.cell? ⟨(adA.add (x.toNat * 5)).block, (adA.add (x.toNat * 5)).off + 3, none⟩ = some (.int .i64 t.f2) ∧ w'.cell? ⟨(adA.add (x.toNat * 5)).block, (adA.add (x.toNat * 5)).off + 4, none⟩ = some (.int .i64 t.f3) ∧ w'.cell? (adA.add (out.toNat * 5)) = some (.int .i64 kind) ∧ w'.cell? ⟨(adA.add (out.toNat * 5)).block, (adA.add (out.toNat * 5)).off + 1, none⟩ = some (.int .i64 u.f1.f0) ∧ w'.cell? ⟨(adA.add (out.toNat * 5)).block, (adA.add (out.toNat * 5)).off + 2, none⟩ = some (.int .i64 u.f1.f1) ∧ w'.cell? ⟨(adA.add (out.toNat * 5)).block, (adA.add (out.toNat * 5)).off + 3, none⟩ = some (.int .i64 u.f2) ∧ w'.cell? ⟨(adA.add (out.toNat * 5)).block, (adA.add (out.toNat * 5)).off + 4, none⟩ = some (.int .i64 u.f3)) (ds := []) (bL 32 0) (by kernel_rfl) rfl (by kernel_rfl) ⟨c0, c1, c2, c3, c4, d0, d1, d2, d3, d4⟩ (fun hHeld => ?_)
              refine with_tabW bestR.tab bestR.bits (fun HT_ HW_ => ?_)
              have HBd : Aside (Below w.heap.size w wr.drew) := below_drew1 HB.out
              clear HB c0 c1 c2 c3 c4 d0 d1 d2 d3 d4
              generalize wr.drew = wd at HBd hHeld ⊢
              refine pure_ (i := 0) (N := some 21) (v := ?_) (a' := ?_) (bL 32 1) rfl rfl (any_of HT_.out (by kernel_rfl)) (fun _ _ _ h => h) (Or.inl ⟨by rfl, ?_⟩) ?_ ?_; rotate_left; (intro w'; go_simp; with_reducible rfl); rotate_left; (simp only [Act.put, act1, act2, act3, i64_w, i32_w]; rfl)
              refine pure_ (i := 1) (N := some 22) (v := ?_) (a' := ?_) (bL 32 3) rfl rfl (any_of HT_.out (by kernel_rfl)) (fun _ _ _ h => h) (Or.inl ⟨by rfl, ?_⟩) ?_ ?_; rotate_left; (intro w'; go_simp; with_reducible rfl); rotate_left; (simp only [Act.put, act1, act2, act3, i64_w, i32_w]; rfl)
              refine pure_ (i := 2) (N := some 23) (v := ?_) (a' := ?_) (bL 32 7) rfl rfl (any_of HT_.out (by kernel_rfl)) (fun _ _ _ h => h) (Or.inl ⟨by rfl, ?_⟩) ?_ ?_; rotate_left; (intro w'; go_simp; with_reducible rfl); rotate_left; (simp only [Act.put, act1, act2, act3, i64_w, i32_w]; rfl)
              refine pure_ (i := 3) (N := some 24) (v := ?_) (a' := ?_) (bL 32 15) rfl rfl (any_of HT_.out (by kernel_rfl)) (fun _ _ _ h => h) (Or.inl ⟨by rfl, ?_⟩) ?_ ?_; rotate_left; (intro w'; go_simp; with_reducible rfl); rotate_left; (simp only [Act.put, act1, act2, act3, i64_w, i32_w]; rfl)
              refine take_ (i := 4) (N := some 25) (v := ?_) (a' := ?_) (bL 32 31) rfl rfl (take_ofW HT_.out HW_.out (by kernel_rfl)) (fun _ _ _ h => h) (Or.inl ⟨by rfl, ?_⟩) hHeld ?_ ?_; rotate_left; (rintro w' ⟨s0, s1, s2, s3, s4, s5, s6, s7, s8, s9⟩; go_simp; with_reducible rfl); rotate_left; (simp only [Act.put, act1, act2, act3, i64_w, i32_w]; rfl)
              refine pure_ (i := 5) (N := some 26) (v := ?_) (a' := ?_) (bL 32 63) rfl rfl (any_of HT_.out (by kernel_rfl)) (fun _ _ _ h => h) (Or.inl ⟨by rfl, ?_⟩) ?_ ?_; rotate_left; (intro w'; go_simp; with_reducible rfl); rotate_left; (simp only [Act.put, act1, act2, act3, i64_w, i32_w]; rfl)
              refine pure_ (i := 6) (N := some 27) (v := ?_) (a' := ?_) (bL 32 127) rfl rfl (any_of HT_.out (by kernel_rfl)) (fun _ _ _ h => h) (Or.inl ⟨by rfl, ?_⟩) ?_ ?_; rotate_left; (intro w'; go_simp; with_reducible rfl); rotate_left; (simp only [Act.put, act1, act2, act3, i64_w, i32_w]; rfl)
              refine pure_ (i := 7) (N := some 28) (v := ?_) (a' := ?_) (bL 32 255) rfl rfl (any_of HT_.out (by kernel_rfl)) (fun _ _ _ h => h) (Or.inl ⟨by rfl, ?_⟩) ?_ ?_; rotate_left; (intro w'; go_simp; with_reducible rfl); rotate_left; (simp only [Act.put, act1, act2, act3, i64_w, i32_w]; rfl)
              refine pure_ (i := 8) (N := some 29) (v := ?_) (a' := ?_) (bL 32 511) rfl rfl (any_of HT_.out (by kernel_rfl)) (fun _ _ _ h => h) (Or.inl ⟨by rfl, ?_⟩) ?_ ?_; rotate_left; (intro w'; go_simp; with_reducible rfl); rotate_left; (simp only [Act.put, act1, act2, act3, i64_w, i32_w]; rfl)
              refine pure_ (i := 9) (N := some 30) (v := ?_) (a' := ?_) (bL 32 1023) rfl rfl (any_of HT_.out (by kernel_rfl)) (fun _ _ _ h => h) (Or.inl ⟨by rfl, ?_⟩) ?_ ?_; rotate_left; (intro w'; go_simp; with_reducible rfl); rotate_left; (simp only [Act.put, act1, act2, act3, i64_w, i32_w]; rfl)
              refine pure_ (i := 10) (N := some 31) (v := ?_) (a' := ?_) (bL 32 2047) rfl rfl (any_of HT_.out (by kernel_rfl)) (fun _ _ _ h => h) (Or.inl ⟨by rfl, ?_⟩) ?_ ?_; rotate_left; (intro w'; go_simp; with_reducible rfl); rotate_left; (simp only [Act.put, act1, act2, act3, i64_w, i32_w]; rfl)
              refine pure_ (i := 11) (N := some 32) (v := ?_) (a' := ?_) (bL 32 4095) rfl rfl (any_of HT_.out (by kernel_rfl)) (fun _ _ _ h => h) (Or.inl ⟨by rfl, ?_⟩) ?_ ?_; rotate_left; (intro w'; go_simp; with_reducible rfl); rotate_left; (simp only [Act.put, act1, act2, act3, i64_w, i32_w]; rfl)
              refine take_ (i := 12) (N := some 33) (v := ?_) (a' := ?_) (bL 32 8191) rfl rfl (take_ofW HT_.out HW_.out (by kernel_rfl)) (fun _ _ _ h => h) (Or.inl ⟨by rfl, ?_⟩) hHeld ?_ ?_; rotate_left; (rintro w' ⟨s0, s1, s2, s3, s4, s5, s6, s7, s8, s9⟩; go_simp; with_reducible rfl); rotate_left; (simp only [Act.put, act1, act2, act3, i64_w, i32_w]; rfl)
              refine one_ (i := 13) (N := some 34) (bL 32 16383) rfl rfl (one_of HT_.out (by kernel_rfl)) (by decide) (fun K hK => ?_)
              refine call_ g #[.agg #[.int .i64 kind, .int .i64 t.f1.f0, .int .i64 t.f1.f1, .int .i64 t.f2, .int .i64 t.f3]] (by rfl) rfl ?_ ?_
              · unfold execOp
                simp [resolve, Deferred.ofValue, invoke, Act.eval, eg]
              refine (HPT.out _).mono ?_
              rw [k2]
              rintro e w2 ⟨rfl, hb_w2⟩
              refine ⟨_, rfl, ?_⟩
              refine hK.out _ _ ⟨pw_cell_below hb_w2 hHeld.1, pw_cell_below hb_w2 hHeld.2.1, pw_cell_below hb_w2 hHeld.2.2.1, pw_cell_below hb_w2 hHeld.2.2.2.1, pw_cell_below hb_w2 hHeld.2.2.2.2.1, pw_cell_below hb_w2 hHeld.2.2.2.2.2.1, pw_cell_below hb_w2 hHeld.2.2.2.2.2.2.1, pw_cell_below hb_w2 hHeld.2.2.2.2.2.2.2.1, pw_cell_below hb_w2 hHeld.2.2.2.2.2.2.2.2.1, pw_cell_below hb_w2 hHeld.2.2.2.2.2.2.2.2.2⟩ (fun hHeld => ?_)
              clear hK K
              refine norm_ (a' := ?_) ?_ ?_
              rotate_left
              · show Act.put _ (some 34) _ = _
                simp only [Act.put, List.setIfInBounds_toArray, List.set_cons_zero, List.set_cons_succ, i64_w, i32_w]
                rfl
              refine pure_ (i := 14) (N := some 35) (v := ?_) (a' := ?_) (bL 32 32767) rfl rfl (any_of HT_.out (by kernel_rfl)) (fun _ _ _ h => h) (Or.inl ⟨by rfl, ?_⟩) ?_ ?_; rotate_left; (intro w'; go_simp; with_reducible rfl); rotate_left; (simp only [Act.put, act1, act2, act3, i64_w, i32_w]; rfl)
              refine pure_ (i := 15) (N := some 36) (v := ?_) (a' := ?_) (bL 32 65535) rfl rfl (any_of HT_.out (by kernel_rfl)) (fun _ _ _ h => h) (Or.inl ⟨by rfl, ?_⟩) ?_ ?_; rotate_left; (intro w'; go_simp; with_reducible rfl); rotate_left; (simp only [Act.put, act1, act2, act3, i64_w, i32_w]; rfl)
              refine pure_ (i := 16) (N := some 37) (v := ?_) (a' := ?_) (bL 32 131071) rfl rfl (any_of HT_.out (by kernel_rfl)) (fun _ _ _ h => h) (Or.inl ⟨by rfl, ?_⟩) ?_ ?_; rotate_left; (intro w'; go_simp; with_reducible rfl); rotate_left; (simp only [Act.put, act1, act2, act3, i64_w, i32_w]; rfl)
              refine pure_ (i := 17) (N := some 38) (v := ?_) (a' := ?_) (bL 32 262143) rfl rfl (any_of HT_.out (by kernel_rfl)) (fun _ _ _ h => h) (Or.inl ⟨by rfl, ?_⟩) ?_ ?_; rotate_left; (intro w'; go_simp; with_reducible rfl); rotate_left; (simp only [Act.put, act1, act2, act3, i64_w, i32_w]; rfl)
              refine pure_ (i := 18) (N := some 39) (v := ?_) (a' := ?_) (bL 32 524287) rfl rfl (any_of HT_.out (by kernel_rfl)) (fun _ _ _ h => h) (Or.inl ⟨by rfl, ?_⟩) ?_ ?_; rotate_left; (intro w'; go_simp; with_reducible rfl); rotate_left; (simp only [Act.put, act1, act2, act3, i64_w, i32_w]; rfl)
              refine pure_ (i := 19) (N := some 40) (v := ?_) (a' := ?_) (bL 32 1048575) rfl rfl (any_of HT_.out (by kernel_rfl)) (fun _ _ _ h => h) (Or.inl ⟨by rfl, ?_⟩) ?_ ?_; rotate_left; (intro w'; go_simp; with_reducible rfl); rotate_left; (simp only [Act.put, act1, act2, act3, i64_w, i32_w]; rfl)
              refine pure_ (i := 20) (N := some 41) (v := ?_) (a' := ?_) (bL 32 2097151) rfl rfl (any_of HT_.out (by kernel_rfl)) (fun _ _ _ h => h) (Or.inl ⟨by rfl, ?_⟩) ?_ ?_; rotate_left; (intro w'; go_simp; with_reducible rfl); rotate_left; (simp only [Act.put, act1, act2, act3, i64_w, i32_w]; rfl)
              refine pure_ (i := 21) (N := some 42) (v := ?_) (a' := ?_) (bL 32 4194303) rfl rfl (any_of HT_.out (by kernel_rfl)) (fun _ _ _ h => h) (Or.inl ⟨by rfl, ?_⟩) ?_ ?_; rotate_left; (intro w'; go_simp; with_reducible rfl); rotate_left; (simp only [Act.put, act1, act2, act3, i64_w, i32_w]; rfl)
              refine pure_ (i := 22) (N := some 43) (v := ?_) (a' := ?_) (bL 32 8388607) rfl rfl (any_of HT_.out (by kernel_rfl)) (fun _ _ _ h => h) (Or.inl ⟨by rfl, ?_⟩) ?_ ?_; rotate_left; (intro w'; go_simp; with_reducible rfl); rotate_left; (simp only [Act.put, act1, act2, act3, i64_w, i32_w]; rfl)
              refine take_ (i := 23) (N := some 44) (v := ?_) (a' := ?_) (bL 32 16777215) rfl rfl (take_ofW HT_.out HW_.out (by kernel_rfl)) (fun _ _ _ h => h) (Or.inl ⟨by rfl, ?_⟩) hHeld ?_ ?_; rotate_left; (rintro w' ⟨s0, s1, s2, s3, s4, s5, s6, s7, s8, s9⟩; go_simp; with_reducible rfl); rotate_left; (simp only [Act.put, act1, act2, act3, i64_w, i32_w]; rfl)
              refine pure_ (i := 24) (N := some 45) (v := ?_) (a' := ?_) (bL 32 33554431) rfl rfl (any_of HT_.out (by kernel_rfl)) (fun _ _ _ h => h) (Or.inl ⟨by rfl, ?_⟩) ?_ ?_; rotate_left; (intro w'; go_simp; with_reducible rfl); rotate_left; (simp only [Act.put, act1, act2, act3, i64_w, i32_w]; rfl)
              refine pure_ (i := 25) (N := some 46) (v := ?_) (a' := ?_) (bL 32 67108863) rfl rfl (any_of HT_.out (by kernel_rfl)) (fun _ _ _ h => h) (Or.inl ⟨by rfl, ?_⟩) ?_ ?_; rotate_left; (intro w'; go_simp; with_reducible rfl); rotate_left; (simp only [Act.put, act1, act2, act3, i64_w, i32_w]; rfl)
              refine pure_ (i := 26) (N := some 47) (v := ?_) (a' := ?_) (bL 32 134217727) rfl rfl (any_of HT_.out (by kernel_rfl)) (fun _ _ _ h => h) (Or.inl ⟨by rfl, ?_⟩) ?_ ?_; rotate_left; (intro w'; go_simp; with_reducible rfl); rotate_left; (simp only [Act.put, act1, act2, act3, i64_w, i32_w]; rfl)
              refine take_ (i := 27) (N := some 48) (v := ?_) (a' := ?_) (bL 32 268435455) rfl rfl (take_ofW HT_.out HW_.out (by kernel_rfl)) (fun _ _ _ h => h) (Or.inl ⟨by rfl, ?_⟩) hHeld ?_ ?_; rotate_left; (rintro w' ⟨s0, s1, s2, s3, s4, s5, s6, s7, s8, s9⟩; go_simp; with_reducible rfl); rotate_left; (simp only [Act.put, act1, act2, act3, i64_w, i32_w]; rfl)
              refine one_ (i := 28) (N := some 49) (bL 32 536870911) rfl rfl (one_of HT_.out (by kernel_rfl)) (by decide) (fun K hK => ?_)
              refine call_ q #[.agg #[.int .i64 kind, .int .i64 t.f1.f0, .int .i64 t.f1.f1, .int .i64 t.f2, .int .i64 t.f3], .agg #[.int .i64 kind, .int .i64 u.f1.f0, .int .i64 u.f1.f1, .int .i64 u.f2, .int .i64 u.f3]] (by rfl) rfl ?_ ?_
              · unfold execOp
                simp [resolve, Deferred.ofValue, invoke, Act.eval, ec]
              refine (HCU.out _).mono ?_
              rintro e w3 ⟨rfl, hb_w3⟩
              refine ⟨_, rfl, ?_⟩
              refine hK.out _ _ ⟨pw_cell_below hb_w3 hHeld.1, pw_cell_below hb_w3 hHeld.2.1, pw_cell_below hb_w3 hHeld.2.2.1, pw_cell_below hb_w3 hHeld.2.2.2.1, pw_cell_below hb_w3 hHeld.2.2.2.2.1, pw_cell_below hb_w3 hHeld.2.2.2.2.2.1, pw_cell_below hb_w3 hHeld.2.2.2.2.2.2.1, pw_cell_below hb_w3 hHeld.2.2.2.2.2.2.2.1, pw_cell_below hb_w3 hHeld.2.2.2.2.2.2.2.2.1, pw_cell_below hb_w3 hHeld.2.2.2.2.2.2.2.2.2⟩ (fun hHeld => ?_)
              clear hK K
              refine norm_ (a' := ?_) ?_ ?_
              rotate_left
              · show Act.put _ (some 49) _ = _
                simp only [Act.put, List.setIfInBounds_toArray, List.set_cons_zero, List.set_cons_succ, i64_w, i32_w]
                rfl
              refine pure_ (i := 29) (N := some 50) (v := ?_) (a' := ?_) (bL 32 1073741823) rfl rfl (any_of HT_.out (by kernel_rfl)) (fun _ _ _ h => h) (Or.inl ⟨by rfl, ?_⟩) ?_ ?_; rotate_left; (intro w'; go_simp; with_reducible rfl); rotate_left; (simp only [Act.put, act1, act2, act3, i64_w, i32_w]; rfl)
              refine pure_ (i := 30) (N := some 51) (v := ?_) (a' := ?_) (bL 32 2147483647) rfl rfl (any_of HT_.out (by kernel_rfl)) (fun _ _ _ h => h) (Or.inl ⟨by rfl, ?_⟩) ?_ ?_; rotate_left; (intro w'; go_simp; with_reducible rfl); rotate_left; (simp only [Act.put, act1, act2, act3, i64_w, i32_w]; rfl)
              refine pure_ (i := 31) (N := some 52) (v := ?_) (a' := ?_) (bL 32 4294967295) rfl rfl (any_of HT_.out (by kernel_rfl)) (fun _ _ _ h => h) (Or.inl ⟨by rfl, ?_⟩) ?_ ?_; rotate_left; (intro w'; go_simp; with_reducible rfl); rotate_left; (simp only [Act.put, act1, act2, act3, i64_w, i32_w]; rfl)
              refine done_ (done_of HT_.out (by kernel_rfl)) ?_
              clear hHeld HT_ HW_
              go_wp2_with fail
              go_roundg (n - (i + 1))
              case measure => omega
              case rel => exact ⟨i + 1, out, by go_num, rfl, by omega, by omega, N1, HI, below_then (below_then HBd.out HBd.out.size hb_w2) (below_then HBd.out HBd.out.size hb_w2).size hb_w3⟩
        · have k2b : p t = false := by simpa using k2
          have N1 := STEP.out out (by unfold bStep; rw [if_neg (fun h => k2 (by rw [HT.out]; exact h.2.1))])
          go_wp2_with fail
          refine start_ (n := 32) (S := fun w' => w'.cell? (adA.add (x.toNat * 5)) = some (.int .i64 kind) ∧ w'.cell? ⟨(adA.add (x.toNat * 5)).block, (adA.add (x.toNat * 5)).off + 1, none⟩ = some (.int .i64 t.f1.f0) ∧ w'.cell? ⟨(adA.add (x.toNat * 5)).block, (adA.add (x.toNat * 5)).off + 2, none⟩ = some (.int .i64 t.f1.f1) ∧ w'.cell? ⟨(adA.add (x.toNat * 5)).block, (adA.add (x.toNat * 5)).off + 3, none⟩ = some (.int .i64 t.f2) ∧ w'.cell? ⟨(adA.add (x.toNat * 5)).block, (adA.add (x.toNat * 5)).off + 4, none⟩ = some (.int .i64 t.f3)) (ds := []) (bL 32 0) (by kernel_rfl) rfl (by kernel_rfl) ⟨c0, c1, c2, c3, c4⟩ (fun hHeld => ?_)
          refine with_tabW bestR.tab bestR.bits (fun HT_ HW_ => ?_)
          have HBd : Aside (Below w.heap.size w wr.drew) := below_drew1 HB.out
          clear HB c0 c1 c2 c3 c4
          generalize wr.drew = wd at HBd hHeld ⊢
          refine pure_ (i := 0) (N := some 21) (v := ?_) (a' := ?_) (bL 32 1) rfl rfl (any_of HT_.out (by kernel_rfl)) (fun _ _ _ h => h) (Or.inl ⟨by rfl, ?_⟩) ?_ ?_; rotate_left; (intro w'; go_simp; with_reducible rfl); rotate_left; (simp only [Act.put, act1, act2, act3, i64_w, i32_w]; rfl)
          refine pure_ (i := 1) (N := some 22) (v := ?_) (a' := ?_) (bL 32 3) rfl rfl (any_of HT_.out (by kernel_rfl)) (fun _ _ _ h => h) (Or.inl ⟨by rfl, ?_⟩) ?_ ?_; rotate_left; (intro w'; go_simp; with_reducible rfl); rotate_left; (simp only [Act.put, act1, act2, act3, i64_w, i32_w]; rfl)
          refine pure_ (i := 2) (N := some 23) (v := ?_) (a' := ?_) (bL 32 7) rfl rfl (any_of HT_.out (by kernel_rfl)) (fun _ _ _ h => h) (Or.inl ⟨by rfl, ?_⟩) ?_ ?_; rotate_left; (intro w'; go_simp; with_reducible rfl); rotate_left; (simp only [Act.put, act1, act2, act3, i64_w, i32_w]; rfl)
          refine pure_ (i := 3) (N := some 24) (v := ?_) (a' := ?_) (bL 32 15) rfl rfl (any_of HT_.out (by kernel_rfl)) (fun _ _ _ h => h) (Or.inl ⟨by rfl, ?_⟩) ?_ ?_; rotate_left; (intro w'; go_simp; with_reducible rfl); rotate_left; (simp only [Act.put, act1, act2, act3, i64_w, i32_w]; rfl)
          refine take_ (i := 4) (N := some 25) (v := ?_) (a' := ?_) (bL 32 31) rfl rfl (take_ofW HT_.out HW_.out (by kernel_rfl)) (fun _ _ _ h => h) (Or.inl ⟨by rfl, ?_⟩) hHeld ?_ ?_; rotate_left; (rintro w' ⟨s0, s1, s2, s3, s4⟩; go_simp; with_reducible rfl); rotate_left; (simp only [Act.put, act1, act2, act3, i64_w, i32_w]; rfl)
          refine pure_ (i := 5) (N := some 26) (v := ?_) (a' := ?_) (bL 32 63) rfl rfl (any_of HT_.out (by kernel_rfl)) (fun _ _ _ h => h) (Or.inl ⟨by rfl, ?_⟩) ?_ ?_; rotate_left; (intro w'; go_simp; with_reducible rfl); rotate_left; (simp only [Act.put, act1, act2, act3, i64_w, i32_w]; rfl)
          refine pure_ (i := 6) (N := some 27) (v := ?_) (a' := ?_) (bL 32 127) rfl rfl (any_of HT_.out (by kernel_rfl)) (fun _ _ _ h => h) (Or.inl ⟨by rfl, ?_⟩) ?_ ?_; rotate_left; (intro w'; go_simp; with_reducible rfl); rotate_left; (simp only [Act.put, act1, act2, act3, i64_w, i32_w]; rfl)
          refine pure_ (i := 7) (N := some 28) (v := ?_) (a' := ?_) (bL 32 255) rfl rfl (any_of HT_.out (by kernel_rfl)) (fun _ _ _ h => h) (Or.inl ⟨by rfl, ?_⟩) ?_ ?_; rotate_left; (intro w'; go_simp; with_reducible rfl); rotate_left; (simp only [Act.put, act1, act2, act3, i64_w, i32_w]; rfl)
          refine pure_ (i := 8) (N := some 29) (v := ?_) (a' := ?_) (bL 32 511) rfl rfl (any_of HT_.out (by kernel_rfl)) (fun _ _ _ h => h) (Or.inl ⟨by rfl, ?_⟩) ?_ ?_; rotate_left; (intro w'; go_simp; with_reducible rfl); rotate_left; (simp only [Act.put, act1, act2, act3, i64_w, i32_w]; rfl)
          refine pure_ (i := 9) (N := some 30) (v := ?_) (a' := ?_) (bL 32 1023) rfl rfl (any_of HT_.out (by kernel_rfl)) (fun _ _ _ h => h) (Or.inl ⟨by rfl, ?_⟩) ?_ ?_; rotate_left; (intro w'; go_simp; with_reducible rfl); rotate_left; (simp only [Act.put, act1, act2, act3, i64_w, i32_w]; rfl)
          refine pure_ (i := 10) (N := some 31) (v := ?_) (a' := ?_) (bL 32 2047) rfl rfl (any_of HT_.out (by kernel_rfl)) (fun _ _ _ h => h) (Or.inl ⟨by rfl, ?_⟩) ?_ ?_; rotate_left; (intro w'; go_simp; with_reducible rfl); rotate_left; (simp only [Act.put, act1, act2, act3, i64_w, i32_w]; rfl)
          refine pure_ (i := 11) (N := some 32) (v := ?_) (a' := ?_) (bL 32 4095) rfl rfl (any_of HT_.out (by kernel_rfl)) (fun _ _ _ h => h) (Or.inl ⟨by rfl, ?_⟩) ?_ ?_; rotate_left; (intro w'; go_simp; with_reducible rfl); rotate_left; (simp only [Act.put, act1, act2, act3, i64_w, i32_w]; rfl)
          refine take_ (i := 12) (N := some 33) (v := ?_) (a' := ?_) (bL 32 8191) rfl rfl (take_ofW HT_.out HW_.out (by kernel_rfl)) (fun _ _ _ h => h) (Or.inl ⟨by rfl, ?_⟩) hHeld ?_ ?_; rotate_left; (rintro w' ⟨s0, s1, s2, s3, s4⟩; go_simp; with_reducible rfl); rotate_left; (simp only [Act.put, act1, act2, act3, i64_w, i32_w]; rfl)
          refine one_ (i := 13) (N := some 34) (bL 32 16383) rfl rfl (one_of HT_.out (by kernel_rfl)) (by decide) (fun K hK => ?_)
          refine call_ g #[.agg #[.int .i64 kind, .int .i64 t.f1.f0, .int .i64 t.f1.f1, .int .i64 t.f2, .int .i64 t.f3]] (by rfl) rfl ?_ ?_
          · unfold execOp
            simp [resolve, Deferred.ofValue, invoke, Act.eval, eg]
          refine (HPT.out _).mono ?_
          rw [k2b]
          rintro e w2 ⟨rfl, hb_w2⟩
          refine ⟨_, rfl, ?_⟩
          refine hK.out _ _ ⟨pw_cell_below hb_w2 hHeld.1, pw_cell_below hb_w2 hHeld.2.1, pw_cell_below hb_w2 hHeld.2.2.1, pw_cell_below hb_w2 hHeld.2.2.2.1, pw_cell_below hb_w2 hHeld.2.2.2.2⟩ (fun hHeld => ?_)
          clear hK K
          refine norm_ (a' := ?_) ?_ ?_
          rotate_left
          · show Act.put _ (some 34) _ = _
            simp only [Act.put, List.setIfInBounds_toArray, List.set_cons_zero, List.set_cons_succ, i64_w, i32_w]
            rfl
          refine pure_ (i := 14) (N := some 35) (v := ?_) (a' := ?_) (bL 32 32767) rfl rfl (any_of HT_.out (by kernel_rfl)) (fun _ _ _ h => h) (Or.inl ⟨by rfl, ?_⟩) ?_ ?_; rotate_left; (intro w'; go_simp; with_reducible rfl); rotate_left; (simp only [Act.put, act1, act2, act3, i64_w, i32_w]; rfl)
          refine pure_ (i := 15) (N := some 36) (v := ?_) (a' := ?_) (bL 32 65535) rfl rfl (any_of HT_.out (by kernel_rfl)) (fun _ _ _ h => h) (Or.inl ⟨by rfl, ?_⟩) ?_ ?_; rotate_left; (intro w'; go_simp; with_reducible rfl); rotate_left; (simp only [Act.put, act1, act2, act3, i64_w, i32_w]; rfl)
          refine pure_ (i := 16) (N := some 37) (v := undef) (a' := ?_) (bL 32 131071) rfl rfl (any_of HT_.out (by kernel_rfl)) (fun _ _ _ h => h) (Or.inr ⟨by rfl, rfl⟩) ?_ ?_
          rotate_left
          · simp only [Act.put, List.setIfInBounds_toArray, List.set_cons_zero, List.set_cons_succ, i64_w, i32_w]
            rfl
          refine pure_ (i := 17) (N := some 38) (v := undef) (a' := ?_) (bL 32 262143) rfl rfl (any_of HT_.out (by kernel_rfl)) (fun _ _ _ h => h) (Or.inr ⟨by rfl, rfl⟩) ?_ ?_
          rotate_left
          · simp only [Act.put, List.setIfInBounds_toArray, List.set_cons_zero, List.set_cons_succ, i64_w, i32_w]
            rfl
          refine pure_ (i := 18) (N := some 39) (v := undef) (a' := ?_) (bL 32 524287) rfl rfl (any_of HT_.out (by kernel_rfl)) (fun _ _ _ h => h) (Or.inr ⟨by rfl, rfl⟩) ?_ ?_
          rotate_left
          · simp only [Act.put, List.setIfInBounds_toArray, List.set_cons_zero, List.set_cons_succ, i64_w, i32_w]
            rfl
          refine pure_ (i := 19) (N := some 40) (v := undef) (a' := ?_) (bL 32 1048575) rfl rfl (any_of HT_.out (by kernel_rfl)) (fun _ _ _ h => h) (Or.inr ⟨by rfl, rfl⟩) ?_ ?_
          rotate_left
          · simp only [Act.put, List.setIfInBounds_toArray, List.set_cons_zero, List.set_cons_succ, i64_w, i32_w]
            rfl
          refine pure_ (i := 20) (N := some 41) (v := undef) (a' := ?_) (bL 32 2097151) rfl rfl (any_of HT_.out (by kernel_rfl)) (fun _ _ _ h => h) (Or.inr ⟨by rfl, rfl⟩) ?_ ?_
          rotate_left
          · simp only [Act.put, List.setIfInBounds_toArray, List.set_cons_zero, List.set_cons_succ, i64_w, i32_w]
            rfl
          refine pure_ (i := 21) (N := some 42) (v := undef) (a' := ?_) (bL 32 4194303) rfl rfl (any_of HT_.out (by kernel_rfl)) (fun _ _ _ h => h) (Or.inr ⟨by rfl, rfl⟩) ?_ ?_
          rotate_left
          · simp only [Act.put, List.setIfInBounds_toArray, List.set_cons_zero, List.set_cons_succ, i64_w, i32_w]
            rfl
          refine pure_ (i := 22) (N := some 43) (v := undef) (a' := ?_) (bL 32 8388607) rfl rfl (any_of HT_.out (by kernel_rfl)) (fun _ _ _ h => h) (Or.inr ⟨by rfl, rfl⟩) ?_ ?_
          rotate_left
          · simp only [Act.put, List.setIfInBounds_toArray, List.set_cons_zero, List.set_cons_succ, i64_w, i32_w]
            rfl
          refine pure_ (i := 23) (N := some 44) (v := undef) (a' := ?_) (bL 32 16777215) rfl rfl (any_of HT_.out (by kernel_rfl)) (fun _ _ _ h => h) (Or.inr ⟨by rfl, rfl⟩) ?_ ?_
          rotate_left
          · simp only [Act.put, List.setIfInBounds_toArray, List.set_cons_zero, List.set_cons_succ, i64_w, i32_w]
            rfl
          refine pure_ (i := 24) (N := some 45) (v := undef) (a' := ?_) (bL 32 33554431) rfl rfl (any_of HT_.out (by kernel_rfl)) (fun _ _ _ h => h) (Or.inr ⟨by rfl, rfl⟩) ?_ ?_
          rotate_left
          · simp only [Act.put, List.setIfInBounds_toArray, List.set_cons_zero, List.set_cons_succ, i64_w, i32_w]
            rfl
          refine pure_ (i := 25) (N := some 46) (v := undef) (a' := ?_) (bL 32 67108863) rfl rfl (any_of HT_.out (by kernel_rfl)) (fun _ _ _ h => h) (Or.inr ⟨by rfl, rfl⟩) ?_ ?_
          rotate_left
          · simp only [Act.put, List.setIfInBounds_toArray, List.set_cons_zero, List.set_cons_succ, i64_w, i32_w]
            rfl
          refine pure_ (i := 26) (N := some 47) (v := undef) (a' := ?_) (bL 32 134217727) rfl rfl (any_of HT_.out (by kernel_rfl)) (fun _ _ _ h => h) (Or.inr ⟨by rfl, rfl⟩) ?_ ?_
          rotate_left
          · simp only [Act.put, List.setIfInBounds_toArray, List.set_cons_zero, List.set_cons_succ, i64_w, i32_w]
            rfl
          refine pure_ (i := 27) (N := some 48) (v := undef) (a' := ?_) (bL 32 268435455) rfl rfl (any_of HT_.out (by kernel_rfl)) (fun _ _ _ h => h) (Or.inr ⟨by rfl, rfl⟩) ?_ ?_
          rotate_left
          · simp only [Act.put, List.setIfInBounds_toArray, List.set_cons_zero, List.set_cons_succ, i64_w, i32_w]
            rfl
          refine pure_ (i := 28) (N := some 49) (v := undef) (a' := ?_) (bL 32 536870911) rfl rfl (any_of HT_.out (by kernel_rfl)) (fun _ _ _ h => h) (Or.inr ⟨by rfl, rfl⟩) ?_ ?_
          rotate_left
          · simp only [Act.put, List.setIfInBounds_toArray, List.set_cons_zero, List.set_cons_succ, i64_w, i32_w]
            rfl
          refine pure_ (i := 29) (N := some 50) (v := undef) (a' := ?_) (bL 32 1073741823) rfl rfl (any_of HT_.out (by kernel_rfl)) (fun _ _ _ h => h) (Or.inr ⟨by rfl, rfl⟩) ?_ ?_
          rotate_left
          · simp only [Act.put, List.setIfInBounds_toArray, List.set_cons_zero, List.set_cons_succ, i64_w, i32_w]
            rfl
          refine pure_ (i := 30) (N := some 51) (v := undef) (a' := ?_) (bL 32 2147483647) rfl rfl (any_of HT_.out (by kernel_rfl)) (fun _ _ _ h => h) (Or.inr ⟨by rfl, rfl⟩) ?_ ?_
          rotate_left
          · simp only [Act.put, List.setIfInBounds_toArray, List.set_cons_zero, List.set_cons_succ, i64_w, i32_w]
            rfl
          refine pure_ (i := 31) (N := some 52) (v := ?_) (a' := ?_) (bL 32 4294967295) rfl rfl (any_of HT_.out (by kernel_rfl)) (fun _ _ _ h => h) (Or.inl ⟨by rfl, ?_⟩) ?_ ?_; rotate_left; (intro w'; go_simp; with_reducible rfl); rotate_left; (simp only [Act.put, act1, act2, act3, i64_w, i32_w]; rfl)
          refine done_ (done_of HT_.out (by kernel_rfl)) ?_
          clear hHeld HT_ HW_
          go_wp2_with fail
          go_roundg (n - (i + 1))
          case measure => omega
          case rel => exact ⟨i + 1, out, by go_num, rfl, by omega, by omega, N1, HI, below_then HBd.out HBd.out.size hb_w2⟩
      · have k1b : (t.f0 == kind) = false := by simp [k1]
        have k1c : decide (t.f0 = kind) = false := by simp [k1]
        have N1 := STEP.out out (by unfold bStep; rw [if_neg (fun h => k1 (by rw [HT.out]; exact h.1))])
        go_wp2_with fail
        go_quiet (fail)
        go_wp2_with fail
        clear c0 c1 c2 c3 c4 hcell2
        go_roundg (n - (i + 1))
        case measure => omega
        case rel => exact ⟨i + 1, out, by go_num, rfl, by omega, by omega, N1, HI, pw_below_drewN HB.out _⟩
    · obtain rfl : i = n := by omega
      have hltz : ¬ (i : Int) < (i : Int) := by omega
      have e : out = bst l kind p cf left := by
        rw [HO.out, HN.out, List.take_length]; rfl
      subst e
      go_wp2_with fail
      go_ret
      exact ⟨rfl, HB.out⟩

end Go.Proofs.Ytmpeekkbmfbjeaa

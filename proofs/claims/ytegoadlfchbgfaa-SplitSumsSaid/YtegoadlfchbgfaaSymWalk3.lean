/- The walk of slices.symMergeCmpFunc at []int. -/
import Derived.Test.YtegoadlfchbgfaaSymWalk2
import Derived.Deep.DeepCutAuto
import Derived.Lib.Hide
namespace Go.Proofs.Ytegoadlfchbgfaa
open Go.Shelf Go.RowKit Go.Lib Go.Sort
variable {α : Type} [Inhabited α]

theorem size_symMerge (lt : α → α → Bool) : ∀ (f : Nat) (d : Array α) (a m b : Nat), (symMerge lt f d a m b).size = d.size
  | 0, _, _, _, _ => rfl
  | f + 1, d, a, m, b => by
    rw [symMerge]
    dsimp only
    repeat' split
    all_goals first | rfl | (simp only [size_shiftUp1, size_shiftDown1, size_symMerge, size_rotate])

set_option maxHeartbeats 8000000 in
set_option maxRecDepth 1000000 in
theorem symMerge_many (enc : α → Value) (cf : α → α → Int) (g : Nat) (cb : Array Value) (blk off cap a m b : Nat) (d0 d : Array α) (w0 w : World)
    (eg : ∀ args w, (callFunc g args).run Try.prog w = .ok (.enter g args) w) (hcmp : CmpReads Try.prog g cb enc cf blk off d0.size w0)
    (R : Row1 enc w0 blk off d0) (hs : d0.size = d.size) (S : SW enc w0 blk off d w) (ham : a + 1 < m) (hmb : m + 1 < b) (hb : b ≤ d.size) (hsz : d.size < 2305843009213693952) (f : Nat) (hf : b - a ≤ f + 1)
    (ih : ∀ (a m b : Nat) (d : Array α) (w : World), d0.size = d.size → SW enc w0 blk off d w → a < m → m < b → b ≤ d.size → b - a ≤ f →
      Calls Try.prog 26 #[.slice (some ⟨blk, off, none⟩) d.size cap, .int .i64 a, .int .i64 m, .int .i64 b, .func (.func g) #[] cb] w fun e w' =>
        e = .returned (.tuple #[]) ∧ SW enc w0 blk off (symMerge (ltOf cf) f d a m b) w') :
    Calls Try.prog 26 #[.slice (some ⟨blk, off, none⟩) d.size cap, .int .i64 a, .int .i64 m, .int .i64 b, .func (.func g) #[] cb] w fun e w' =>
      e = .returned (.tuple #[]) ∧ SW enc w0 blk off (symMerge (ltOf cf) (f + 1) d a m b) w' := by
  have HC : Aside _ := hcmp
  have S0 : Aside (SW enc w0 blk off d w) := S
  have HS : Hid (d0.size = d.size) := hs
  have IH : Aside _ := ih
  clear S hcmp hs ih
  have t1 : ((m : Int) - (a : Int) == 1) = false := by rw [beq_eq_false_iff_ne]; omega
  have t2 : ((b : Int) - (m : Int) == 1) = false := by rw [beq_eq_false_iff_ne]; omega
  obtain ⟨mid, hmid⟩ : ∃ q, q = smMid a b := ⟨_, rfl⟩
  have e1 : 2 * mid ≤ a + b := by rw [hmid]; unfold smMid; omega
  have e2 : a + b ≤ 2 * mid + 1 := by rw [hmid]; unfold smMid; omega
  have em : ((a : Int) + (b : Int)) / 2 = (mid : Int) := by omega
  obtain ⟨s0, hs0⟩ : ∃ q, q = smStart0 a m b := ⟨_, rfl⟩
  obtain ⟨r0, hr0⟩ : ∃ q, q = smR0 a m b := ⟨_, rfl⟩
  have e3 : a ≤ s0 ∧ s0 ≤ r0 ∧ r0 ≤ b ∧ r0 ≤ mid + m ∧ mid + m ≤ b + s0 ∧ r0 ≤ m := by rw [hs0, hr0]; unfold smStart0 smR0; rw [← hmid]; split <;> omega
  obtain ⟨e3a, e3b, e3c, e3d, e3e, e3f⟩ := e3
  have HM : Hid (mid = smMid a b) := hmid
  have HS0 : Hid (s0 = smStart0 a m b) := hs0
  have HR0 : Hid (r0 = smR0 a m b) := hr0
  clear hmid hs0 hr0
  go_enter Try.func26, Try.ntmps26
  go_upto_if 140 with (fail)
  go_cut [20, 21] (fun v20 v21 wc => v20 = .int .i64 s0 ∧ v21 = .int .i64 r0 ∧ Aside (SW enc w0 blk off d wc))
  case first =>
    as_aux_lemma =>
    by_cases hm : mid < m
    · go_wp2
      go_meet
      exact ⟨by congr 1; rw [HS0.out]; unfold smStart0; rw [← HM.out, if_pos hm]; omega, by congr 1; rw [HR0.out]; unfold smR0; rw [← HM.out, if_pos hm], S0⟩
    · go_wp2
      go_meet
      exact ⟨by congr 1; rw [HS0.out]; unfold smStart0; rw [← HM.out, if_neg hm], by congr 1; rw [HR0.out]; unfold smR0; rw [← HM.out, if_neg hm], S0⟩
  case rest =>
    obtain ⟨rfl, rfl, S1⟩ := hcut
    clear S0
    go_wp2_with fail
    go_loopg [20, 21] (r0 - s0) (fun g1 vi vj wr => ∃ (i j fu : Nat), vi = .int .i64 i ∧ vj = .int .i64 j ∧ s0 ≤ i ∧ i ≤ j ∧ j ≤ r0 ∧ j - i ≤ g1 ∧ j - i ≤ fu ∧ Aside (SW enc w0 blk off d wr) ∧ Hid (bsearch (fun c => !ltOf cf d[mid + m - 1 - c]! d[c]!) fu i j = bsearch (fun c => !ltOf cf d[mid + m - 1 - c]! d[c]!) (b - a) s0 r0))
    case atStart => exact ⟨s0, r0, b - a, rfl, rfl, by omega, by omega, by omega, by omega, by omega, S1, rfl⟩
    case round =>
      clear S1
      obtain ⟨i, j, fu, rfl, rfl, hmi, hij, hjb, hg1, hfu, S1, HB⟩ := hrel
      by_cases hlt : i < j
      · as_aux_lemma =>
        have hltz : (i : Int) < (j : Int) := by omega
        obtain ⟨hN, hhN⟩ : ∃ q, q = (i + j) / 2 := ⟨_, rfl⟩
        obtain ⟨pN, hpN⟩ : ∃ q, q = mid + m - 1 - hN := ⟨_, rfl⟩
        have eh : ((i : Int) + (j : Int)) / 2 = (hN : Int) := by omega
        have bN1 : i ≤ hN := by omega
        have bN2 : hN < j := by omega
        have ea : ((mid : Int) + (m : Int) - 1 - (hN : Int)).toNat = pN := by omega
        have pa : (0 : Int) ≤ (mid : Int) + (m : Int) - 1 - (hN : Int) := by omega
        have ba : (mid : Int) + (m : Int) - 1 - (hN : Int) < (d.size : Int) := by omega
        have b2 : (hN : Int) < (d.size : Int) := by omega
        obtain ⟨x, hx⟩ : ∃ x, x = d[pN]! := ⟨_, rfl⟩
        obtain ⟨y, hy⟩ : ∃ x, x = d[hN]! := ⟨_, rfl⟩
        have ca := S1.out.c1 R HS.out.symm pN (by omega)
        have cb' := S1.out.c1 R HS.out.symm hN (by omega)
        rw [← hx] at ca
        rw [← hy] at cb'
        have hc := SW.cmpR S1.out HC.out HS.out.symm x y
        have HX : Hid (x = d[pN]!) := hx
        have HY : Hid (y = d[hN]!) := hy
        have HN : Hid (hN = (i + j) / 2) := hhN
        have HP : Hid (pN = mid + m - 1 - hN) := hpN
        clear hx hy hhN hpN
        by_cases hv : cf x y < 0
        · have hd : decide (cf x y < 0) = true := decide_eq_true hv
          go_wp2_with fail
          go_quiet (first | (go_at_fn g; refine Calls.quiet_of (hc _)))
          have S2 : Aside (SW enc w0 blk off d (wr.drewN nq)) := S1.out.drewN nq
          clear ca cb' hc S1
          generalize wr.drewN nq = w2 at S2 ⊢
          go_wp2_with fail
          go_roundg (hN - i)
          case measure => omega
          case rel => exact ⟨i, hN, fu - 1, rfl, rfl, by omega, by omega, by omega, by omega, by omega, S2, (show Hid _ from by show _ = _; rw [← HB.out, bsearch_no _ fu i j (by omega) hlt (by rw [← HN.out, ← HP.out, ← HX.out, ← HY.out]; simp [ltOf, hv]), HN.out])⟩
        · have hd : decide (cf x y < 0) = false := decide_eq_false hv
          go_wp2_with fail
          go_quiet (first | (go_at_fn g; refine Calls.quiet_of (hc _)))
          have S2 : Aside (SW enc w0 blk off d (wr.drewN nq)) := S1.out.drewN nq
          clear ca cb' hc S1
          generalize wr.drewN nq = w2 at S2 ⊢
          go_wp2_with fail
          go_roundg (j - (hN + 1))
          case measure => omega
          case rel => exact ⟨hN + 1, j, fu - 1, by go_num, rfl, by omega, by omega, by omega, by omega, by omega, S2, (show Hid _ from by show _ = _; rw [← HB.out, bsearch_yes _ fu i j (by omega) hlt (by rw [← HN.out, ← HP.out, ← HX.out, ← HY.out]; simp [ltOf]; omega), HN.out])⟩
      · obtain rfl : i = j := by omega
        have hltz : ¬ (i : Int) < (i : Int) := by omega
        have HB2 : Hid (i = smStart (ltOf cf) d a m b) := by
          show _ = _
          rw [← bsearch_stop (fun c => !ltOf cf d[mid + m - 1 - c]! d[c]!) fu i i (Nat.le_refl _), HB.out, HM.out, HS0.out, HR0.out]
          rfl
        clear HB
        obtain ⟨fin, hfin⟩ : ∃ q, q = mid + m - i := ⟨_, rfl⟩
        have ef : (mid : Int) + (m : Int) - (i : Int) = (fin : Int) := by omega
        have ef1 : fin + i ≤ mid + m := by omega
        have ef2 : mid + m ≤ fin + i := by omega
        have HF : Hid (fin = mid + m - i) := hfin
        have ef3 : fin ≤ d.size := by omega
        have ef4 : mid + m ≤ d.size + d.size := by omega
        have ef5 : i ≤ m := by omega
        have KK : Hid (a + 1 < m ∧ m + 1 < b ∧ b ≤ d.size ∧ d.size < 2305843009213693952 ∧ b - a ≤ f + 1 ∧ 2 * mid ≤ a + b ∧ a + b ≤ 2 * mid + 1 ∧ a ≤ i ∧ i ≤ m ∧ fin ≤ b) := ⟨ham, hmb, hb, hsz, hf, e1, e2, by omega, by omega, by omega⟩
        clear hfin hltz hlt hmi hij hjb hg1 hfu e3a e3b e3c e3d e3e e3f e1 e2 ham hmb hb hf t1 t2 eg HC em
        go_upto_region 39 with (fail)
        go_cut [185] (fun v wc => v = .bool (decide (i < m ∧ m < fin)) ∧ Aside (SW enc w0 blk off d wc))
        case first =>
          as_aux_lemma =>
          by_cases h1 : i < m
          · by_cases h2 : m < fin
            · go_wp2
              go_meet
              exact ⟨by congr 1; simp [h1, h2], S1⟩
            · go_wp2
              go_meet
              exact ⟨by congr 1; simp [h2], S1⟩
          · go_wp2
            go_meet
            exact ⟨by congr 1; simp [h1], S1⟩
        case rest =>
        obtain ⟨rfl, S2⟩ := hcut
        clear S1
        go_upto_if 185 with (fail)
        go_cut [] (fun wc => ∃ d1 : Array α, d1.size = d.size ∧ Aside (SW enc w0 blk off d1 wc) ∧ Hid (d1 = if i < m ∧ m < fin then rotate d i m fin else d))
        case first =>
          as_aux_lemma =>
          by_cases h1 : i < m ∧ m < fin
          · have hd1 : decide (i < m ∧ m < fin) = true := decide_eq_true h1
            have h1a := h1.1
            have h1b := h1.2
            have H1 := Lib.hid h1
            clear h1
            have hrot := Lib.hid (rotate_any enc blk off cap i m fin d0 d w0 wc (.func (.func g) #[] cb) R HS.out S2.out h1a h1b (by have := KK.out; omega) (by have := KK.out; omega))
            go_wp2_with fail
            refine hrot.out.mono ?_
            rintro e w' ⟨rfl, S3⟩
            clear hrot
            go_wp2_with fail
            go_meet
            exact ⟨_, size_rotate _ _ _ _, S3, by show _ = _; rw [if_pos H1.out]⟩
          · have hd1 : decide (i < m ∧ m < fin) = false := decide_eq_false h1
            have H1 := Lib.hid h1
            clear h1
            go_wp2_with fail
            go_meet
            exact ⟨d, rfl, S2, by show _ = _; rw [if_neg H1.out]⟩
        case rest =>
        obtain ⟨d1, hd1, S3, HD1⟩ := hcut
        have HSZ1 : Hid (d1.size = d.size) := hd1
        clear S2 hd1
        go_upto_region 41 with (fail)
        go_cut [199] (fun v wc => v = .bool (decide (a < i ∧ i < mid)) ∧ Aside (SW enc w0 blk off d1 wc))
        case first =>
          as_aux_lemma =>
          by_cases h1 : a < i
          · by_cases h2 : i < mid
            · go_wp2
              go_meet
              exact ⟨by congr 1; simp [h1, h2], S3⟩
            · go_wp2
              go_meet
              exact ⟨by congr 1; simp [h2], S3⟩
          · go_wp2
            go_meet
            exact ⟨by congr 1; simp [h1], S3⟩
        case rest =>
        obtain ⟨rfl, S4⟩ := hcut
        clear S3
        go_upto_if 199 with (fail)
        go_cut [] (fun wc => ∃ d2 : Array α, d2.size = d.size ∧ Aside (SW enc w0 blk off d2 wc) ∧ Hid (d2 = if a < i ∧ i < mid then symMerge (ltOf cf) f d1 a i mid else d1))
        case first =>
          as_aux_lemma =>
          by_cases h1 : a < i ∧ i < mid
          · have hd1 : decide (a < i ∧ i < mid) = true := decide_eq_true h1
            have h1a := h1.1
            have h1b := h1.2
            have H1 := Lib.hid h1
            clear h1
            rw [← HSZ1.out]
            go_wp2_with fail
            refine (IH.out a i mid d1 _ (HS.out.trans HSZ1.out.symm) S4.out h1a h1b ?_ ?_).mono ?_
            · rw [HSZ1.out]; have := KK.out; omega
            · have := KK.out; omega
            rintro e w' ⟨rfl, S5⟩
            rw [HSZ1.out]
            go_wp2_with fail
            go_meet
            exact ⟨_, by rw [size_symMerge]; exact HSZ1.out, S5, by show _ = _; rw [if_pos H1.out]⟩
          · have hd1 : decide (a < i ∧ i < mid) = false := decide_eq_false h1
            have H1 := Lib.hid h1
            clear h1
            go_wp2_with fail
            go_meet
            exact ⟨d1, HSZ1.out, S4, by show _ = _; rw [if_neg H1.out]⟩
        case rest =>
        obtain ⟨d2, hd2, S5, HD2⟩ := hcut
        have HSZ2 : Hid (d2.size = d.size) := hd2
        clear S4 hd2
        go_upto_region 43 with (fail)
        go_cut [213] (fun v wc => v = .bool (decide (mid < fin ∧ fin < b)) ∧ Aside (SW enc w0 blk off d2 wc))
        case first =>
          as_aux_lemma =>
          by_cases h1 : mid < fin
          · by_cases h2 : fin < b
            · go_wp2
              go_meet
              exact ⟨by congr 1; simp [h1, h2], S5⟩
            · go_wp2
              go_meet
              exact ⟨by congr 1; simp [h2], S5⟩
          · go_wp2
            go_meet
            exact ⟨by congr 1; simp [h1], S5⟩
        case rest =>
        obtain ⟨rfl, S6⟩ := hcut
        clear S5
        have fin_eq : symMerge (ltOf cf) (f + 1) d a m b = if mid < fin ∧ fin < b then symMerge (ltOf cf) f d2 mid fin b else d2 := by
          rw [symMerge, if_neg (by have := KK.out; omega), if_neg (by have := KK.out; omega)]
          dsimp only
          rw [← HB2.out, ← HM.out, ← HF.out, ← HD1.out, ← HD2.out]
        have FE := Lib.hid fin_eq
        clear fin_eq
        by_cases h1 : mid < fin ∧ fin < b
        · as_aux_lemma =>
          have hd1 : decide (mid < fin ∧ fin < b) = true := decide_eq_true h1
          have h1a := h1.1
          have h1b := h1.2
          have H1 := Lib.hid h1
          clear h1
          rw [← HSZ2.out]
          go_wp2_with fail
          refine (IH.out mid fin b d2 _ (HS.out.trans HSZ2.out.symm) S6.out h1a h1b ?_ ?_).mono ?_
          · rw [HSZ2.out]; have := KK.out; omega
          · have := KK.out; omega
          rintro e w' ⟨rfl, S7⟩
          go_wp2_with fail
          go_end0
          exact ⟨rfl, by rw [FE.out, if_pos H1.out]; exact S7⟩
        · have hd1 : decide (mid < fin ∧ fin < b) = false := decide_eq_false h1
          have H1 := Lib.hid h1
          clear h1
          go_wp2_with fail
          go_end0
          exact ⟨rfl, by rw [FE.out, if_neg H1.out]; exact S6.out⟩

theorem symMerge_any (enc : α → Value) (cf : α → α → Int) (g : Nat) (cb : Array Value) (blk off cap : Nat) (d0 : Array α) (w0 : World)
    (eg : ∀ args w, (callFunc g args).run Try.prog w = .ok (.enter g args) w) (hcmp : CmpReads Try.prog g cb enc cf blk off d0.size w0)
    (R : Row1 enc w0 blk off d0) (hsz : d0.size < 2305843009213693952) (f : Nat) : ∀ (a m b : Nat) (d : Array α) (w : World), d0.size = d.size → SW enc w0 blk off d w → a < m → m < b → b ≤ d.size → b - a ≤ f →
    Calls Try.prog 26 #[.slice (some ⟨blk, off, none⟩) d.size cap, .int .i64 a, .int .i64 m, .int .i64 b, .func (.func g) #[] cb] w fun e w' =>
      e = .returned (.tuple #[]) ∧ SW enc w0 blk off (symMerge (ltOf cf) f d a m b) w' := by
  induction f with
  | zero => intro a m b d w hs S ham hmb hb hf; omega
  | succ f ih =>
    intro a m b d w hs S ham hmb hb hf
    by_cases h1 : m = a + 1
    · exact symMerge_left enc cf g cb blk off cap a m b d0 d w0 w eg hcmp R hs S (by omega) (by omega) hmb hb (by omega) (f + 1) (by omega)
    · by_cases h2 : b = m + 1
      · exact symMerge_right enc cf g cb blk off cap a m b d0 d w0 w eg hcmp R hs S (by omega) (by omega) (by omega) hb (by omega) (f + 1) (by omega)
      · refine symMerge_many enc cf g cb blk off cap a m b d0 d w0 w eg hcmp R hs S (by omega) (by omega) hb (by omega) f hf ?_
        intro a' m' b' d' w' hs' S' ham' hmb' hb' hf'
        exact ih a' m' b' d' w' hs' S' ham' hmb' hb' hf'

end Go.Proofs.Ytegoadlfchbgfaa

/- The walk of slices.symMergeCmpFunc at []int: one element on the right. -/
import Derived.Test.YtegoadlfchbgfaaSymWalk1
namespace Go.Proofs.Ytegoadlfchbgfaa
open Go.Shelf Go.RowKit Go.Lib Go.Sort
variable {α : Type} [Inhabited α]

set_option maxHeartbeats 4000000 in
set_option maxRecDepth 1000000 in
theorem symMerge_right (enc : α → Value) (cf : α → α → Int) (g : Nat) (cb : Array Value) (blk off cap a m b : Nat) (d0 d : Array α) (w0 w : World)
    (eg : ∀ args w, (callFunc g args).run Try.prog w = .ok (.enter g args) w) (hcmp : CmpReads Try.prog g cb enc cf blk off d0.size w0)
    (R : Row1 enc w0 blk off d0) (hs : d0.size = d.size) (S : SW enc w0 blk off d w) (ham : a + 1 < m) (hmb1 : b ≤ m + 1) (hmb2 : m + 1 ≤ b) (hb : b ≤ d.size) (hsz : d.size < 2305843009213693952) (f : Nat) (hf : 0 < f) :
    Calls Try.prog 26 #[.slice (some ⟨blk, off, none⟩) d.size cap, .int .i64 a, .int .i64 m, .int .i64 b, .func (.func g) #[] cb] w fun e w' =>
      e = .returned (.tuple #[]) ∧ SW enc w0 blk off (symMerge (ltOf cf) f d a m b) w' := by
  have hcl0 := R.hO.cells
  simp only [Value.cells] at hcl0
  have hst := R.hO.store Try.prog
  have HC : Aside _ := hcmp
  have S0 : Aside (SW enc w0 blk off d w) := S
  have HS : Hid (d0.size = d.size) := hs
  clear S hcmp hs
  have t1 : ((m : Int) - (a : Int) == 1) = false := by rw [beq_eq_false_iff_ne]; omega
  have t2 : ((b : Int) - (m : Int) == 1) = true := by rw [beq_iff_eq]; omega
  go_enter Try.func26, Try.ntmps26
  go_wp2
  go_loopg [14, 15] (m - a) (fun g1 vi vj wr => ∃ (i j fu : Nat), vi = .int .i64 i ∧ vj = .int .i64 j ∧ a ≤ i ∧ i ≤ j ∧ j ≤ m ∧ j - i ≤ g1 ∧ j - i ≤ fu ∧ Aside (SW enc w0 blk off d wr) ∧ Hid (bsearch (fun h => !ltOf cf d[m]! d[h]!) fu i j = bsearch (fun h => !ltOf cf d[m]! d[h]!) (m - a) a m))
  case atStart => exact ⟨a, m, m - a, rfl, rfl, by omega, by omega, by omega, by omega, by omega, S0, rfl⟩
  case round =>
    clear S0
    obtain ⟨i, j, fu, rfl, rfl, hmi, hij, hjb, hg1, hfu, S1, HB⟩ := hrel
    by_cases hlt : i < j
    · have hltz : (i : Int) < (j : Int) := by omega
      obtain ⟨hN, hhN⟩ : ∃ q, q = (i + j) / 2 := ⟨_, rfl⟩
      have ea : (((i : Int) + (j : Int)) / 2).toNat = hN := by omega
      have pa : (0 : Int) ≤ ((i : Int) + (j : Int)) / 2 := by omega
      have ba : ((i : Int) + (j : Int)) / 2 < (d.size : Int) := by omega
      have b2 : (m : Int) < (d.size : Int) := by omega
      obtain ⟨x, hx⟩ : ∃ x, x = d[hN]! := ⟨_, rfl⟩
      obtain ⟨y, hy⟩ : ∃ x, x = d[m]! := ⟨_, rfl⟩
      have ca := S1.out.c1 R HS.out.symm hN (by omega)
      have cb' := S1.out.c1 R HS.out.symm m (by omega)
      rw [← hx] at ca
      rw [← hy] at cb'
      have hc := SW.cmpR S1.out HC.out HS.out.symm y x
      have HX : Hid (x = d[hN]!) := hx
      have HY : Hid (y = d[m]!) := hy
      have HN : Hid (hN = (i + j) / 2) := hhN
      have bN1 : i ≤ hN := by omega
      have bN2 : hN < j := by omega
      clear hx hy hhN
      by_cases hv : cf y x < 0
      · have hd : decide (cf y x < 0) = true := decide_eq_true hv
        go_wp2_with fail
        go_quiet (first | (go_at_fn g; refine Calls.quiet_of (hc _)))
        have S2 : Aside (SW enc w0 blk off d (wr.drewN nq)) := S1.out.drewN nq
        clear ca cb' hc S1
        generalize wr.drewN nq = w2 at S2 ⊢
        go_wp2_with fail
        go_roundg (hN - i)
        case measure => omega
        case rel => exact ⟨i, hN, fu - 1, rfl, by rw [HN.out]; go_num, by omega, by omega, by omega, by omega, by omega, S2, (show Hid _ from by show _ = _; rw [← HB.out, bsearch_no _ fu i j (by omega) hlt (by rw [← HN.out, ← HX.out, ← HY.out]; simp [ltOf, hv]), HN.out])⟩
      · have hd : decide (cf y x < 0) = false := decide_eq_false hv
        go_wp2_with fail
        go_quiet (first | (go_at_fn g; refine Calls.quiet_of (hc _)))
        have S2 : Aside (SW enc w0 blk off d (wr.drewN nq)) := S1.out.drewN nq
        clear ca cb' hc S1
        generalize wr.drewN nq = w2 at S2 ⊢
        go_wp2_with fail
        go_roundg (j - (hN + 1))
        case measure => omega
        case rel => exact ⟨hN + 1, j, fu - 1, by rw [HN.out]; go_num, rfl, by omega, by omega, by omega, by omega, by omega, S2, (show Hid _ from by show _ = _; rw [← HB.out, bsearch_yes _ fu i j (by omega) hlt (by rw [← HN.out, ← HX.out, ← HY.out]; simp [ltOf]; omega), HN.out])⟩
    · obtain rfl : i = j := by omega
      have hltz : ¬ (i : Int) < (i : Int) := by omega
      have HB2 : Hid (i = bsearch (fun h => !ltOf cf d[m]! d[h]!) (m - a) a m) := (bsearch_stop _ _ _ _ (Nat.le_refl _)).symm.trans HB.out
      clear HB
      go_wp2_with fail
      go_loopg [17] (m - i) (fun g1 vk wr => ∃ (k : Nat) (dk : Array α), vk = .int .i64 k ∧ i ≤ k ∧ k ≤ m ∧ k - i ≤ g1 ∧ dk.size = d.size ∧ Aside (SW enc w0 blk off dk wr) ∧ Hid (shiftDown1 (k - i) k dk = shiftDown1 (m - i) m d))
      case atStart => exact ⟨m, d, rfl, by omega, by omega, by omega, rfl, S1, rfl⟩
      case round =>
        clear S1
        obtain ⟨k, dk, rfl, hak, hki, hg2, hsk, S1, HD⟩ := hrel
        by_cases hlt2 : i < k
        · have hltz2 : (i : Int) < (k : Int) := by omega
          have bk0 : (k : Int) < (d.size : Int) := by omega
          have bk1 : (k : Int) - 1 < (d.size : Int) := by omega
          have bk2 : 0 ≤ (k : Int) - 1 := by omega
          have bk3 : 1 ≤ (k : Int) := by omega
          have hs2 : dk.size = d0.size := hsk.trans HS.out.symm
          obtain ⟨k1, hk1⟩ : ∃ q, q = k - 1 := ⟨_, rfl⟩
          obtain ⟨x, hx⟩ : ∃ x, x = dk[k]! := ⟨_, rfl⟩
          obtain ⟨y, hy⟩ : ∃ x, x = dk[k - 1]! := ⟨_, rfl⟩
          have ek : ((k : Int) - 1).toNat = k1 := by omega
          have S3 : Aside (SW enc w0 blk off (swp dk k (k - 1)) ((wr.setCell ⟨blk, off + k, none⟩ (enc y)).setCell ⟨blk, off + k1, none⟩ (enc x)).drew) := by rw [hk1, hx, hy]; exact S1.out.swapped R k (k - 1) (by omega) (by omega)
          have ca := S1.out.c1 R hs2 k (by omega)
          have cb' := S1.out.c1 R hs2 (k - 1) (by omega)
          have fa := S1.out.f1 R hs2 k (by omega)
          have fb := S1.out.f1 R hs2 (k - 1) (by omega)
          obtain ⟨u, cc⟩ := S1.out.c2 R hs2 k (k - 1) (by omega) (by omega) (enc y)
          rw [← hk1] at cc
          rw [← hx] at ca
          rw [← hy, ← hk1] at cb'
          rw [← hk1] at fb
          have HSK : Hid (dk.size = d.size) := hsk
          clear S1 hx hy hk1 hs2 hsk
          go_wp2_with fail
          go_region
          clear ca cb' cc fa fb
          generalize ((wr.setCell ⟨blk, off + k, none⟩ (enc y)).setCell ⟨blk, off + k1, none⟩ (enc x)).drew = w3 at S3 ⊢
          clear ek
          go_wp2
          go_roundg (k - 1 - i)
          case measure => omega
          case rel => exact ⟨k - 1, swp dk k (k - 1), by go_num, by omega, by omega, by omega, by rw [size_swp]; exact HSK.out, S3, (show Hid _ from by show _ = _; rw [← HD.out, show k - i = (k - 1 - i) + 1 by omega]; rfl)⟩
        · have hltz2 : ¬ (i : Int) < (k : Int) := by omega
          go_wp2
          refine bodyPost_ret (results_none rfl _ _ _) rfl ?_
          refine ⟨rfl, ?_⟩
          obtain ⟨f, rfl⟩ : ∃ q, f = q + 1 := ⟨f - 1, by omega⟩
          rw [symMerge, if_neg (by omega), if_pos (by omega), ← HB2.out, ← HD.out, show k - i = 0 by omega]
          exact S1.out

end Go.Proofs.Ytegoadlfchbgfaa

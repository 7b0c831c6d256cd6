/- The walk of slices.stableCmpFunc and slices.SortStableFunc at []int. -/
import Derived.Test.YtegoadlfchbgfaaSymWalk3
import Derived.Test.YtegoadlfchbgfaaStablePure
import Derived.Test.YtegoadlfchbgfaaLaid
import Derived.Lib.Hide
namespace Go.Proofs.Ytegoadlfchbgfaa
open Go.Shelf Go.RowKit Go.Lib Go.Sort
variable {α : Type} [Inhabited α]

set_option maxHeartbeats 4000000 in
set_option maxRecDepth 1000000 in
theorem stable_any (enc : α → Value) (cf : α → α → Int) (bef : α → α → Prop) (g : Nat) (cb : Array Value) (blk off cap : Nat) (d0 : Array α) (w0 w : World)
    (eg : ∀ args w, (callFunc g args).run Try.prog w = .ok (.enter g args) w) (hcmp : CmpReads Try.prog g cb enc cf blk off d0.size w0)
    (R : Row1 enc w0 blk off d0) (S : SW enc w0 blk off d0 w) (hsz : d0.size ≤ 65536)
    (hS : SWO (ltOf cf)) (hB : ∀ x y z, bef x y → bef y z → bef x z) (hbef : ∀ p q, p < q → q < d0.size → bef d0[p]! d0[q]!) :
    Calls Try.prog 22 #[.slice (some ⟨blk, off, none⟩) d0.size cap, .int .i64 d0.size, .func (.func g) #[] cb] w fun e w' =>
      e = .returned (.tuple #[]) ∧ ∃ d' : Array α, SW enc w0 blk off d' w' ∧ d'.size = d0.size ∧ d'.toList.Perm d0.toList ∧ Srt (ltOf cf) bef d' 0 d0.size := by
  have HC : Aside _ := hcmp
  have S0 : Aside (SW enc w0 blk off d0 w) := S
  have HSW : Aside _ := hS
  have HB : Aside _ := hB
  have HBEF : Aside _ := hbef
  have ins : Aside (∀ (a b : Nat) (d : Array α) (W : World), d.size = d0.size → SW enc w0 blk off d W → a ≤ b → b ≤ d.size →
    Calls Try.prog 25 #[.slice (some ⟨blk, off, none⟩) d0.size cap, .int .i64 a, .int .i64 b, .func (.func g) #[] cb] W fun e w' => e = .returned (.tuple #[]) ∧ SW enc w0 blk off (Sort.insertionSort (ltOf cf) d a b) w') := fun a b d W hs SS hab hb => by
      have := Any.insertionSortCmpFunc_s Try.laysIns enc cf g cb blk off cap a b d0 d w0 W eg hcmp.lays R hs.symm SS hab hb (by omega)
      rw [hs] at this
      exact this
  have mrg : Aside (∀ (a m b : Nat) (d : Array α) (W : World), d.size = d0.size → SW enc w0 blk off d W → a < m → m < b → b ≤ d.size →
    Calls Try.prog 26 #[.slice (some ⟨blk, off, none⟩) d0.size cap, .int .i64 a, .int .i64 m, .int .i64 b, .func (.func g) #[] cb] W fun e w' => e = .returned (.tuple #[]) ∧ SW enc w0 blk off (symMerge (ltOf cf) 1000000 d a m b) w') := fun a m b d W hs SS ham hmb hb => by
      have := symMerge_any enc cf g cb blk off cap d0 w0 eg hcmp R (by omega) 1000000 a m b d W hs.symm SS ham hmb hb (by omega)
      rw [hs] at this
      exact this
  clear S hcmp hS hB hbef R
  obtain ⟨n, hn⟩ : ∃ q, q = d0.size := ⟨_, rfl⟩
  rw [← hn] at hsz ins mrg ⊢
  have HN : Hid (n = d0.size) := hn
  clear hn
  go_enter Try.func22, Try.ntmps22
  go_wp2
  go_loopg [7, 8] n (fun g1 va vb wr => ∃ (a : Nat) (d : Array α), va = .int .i64 a ∧ vb = .int .i64 (a + 20 : Nat) ∧ a ≤ n ∧ n - a ≤ g1 ∧ Hid (20 ∣ a) ∧ Aside (SW enc w0 blk off d wr) ∧ Aside (Ins0 (ltOf cf) bef 20 n a d0 d))
  case atStart => exact ⟨0, d0, by go_num, by go_num, by omega, by omega, Nat.dvd_zero _, S0, Ins0.start 20 n (by omega) d0 HN.out.symm (by rw [HN.out]; exact HBEF.out)⟩
  case round =>
    clear S0
    obtain ⟨a, d, rfl, rfl, han, hg1, ha, S1, I1⟩ := hrel
    have e20 : ((a + 20 : Nat) : Int) = (a : Int) + 20 := by omega
    by_cases hle : a + 20 ≤ n
    · have hlez : (a : Int) + 20 ≤ (n : Int) := by omega
      have hi := ins.out a (a + 20) d wr I1.out.size S1.out (by omega) (by rw [I1.out.size]; exact hle)
      rw [e20] at hi
      have HI := Lib.hid hi
      clear hi
      go_wp2_with fail
      refine HI.out.mono ?_
      rintro e w' ⟨rfl, S2⟩
      have S3 : Aside _ := S2
      clear HI S1 S2
      go_wp2_with fail
      go_roundg (n - (a + 20))
      case measure => omega
      case rel => exact ⟨a + 20, _, by go_num, by go_num, hle, by omega, (show Hid _ from (Nat.dvd_add_right ha.out).2 (Nat.dvd_refl _)), S3, I1.out.step HSW.out HB.out (by omega) ha.out hle⟩
    · have hlez : ¬ (a : Int) + 20 ≤ (n : Int) := by omega
      have hi := ins.out a n d wr I1.out.size S1.out han (by rw [I1.out.size]; exact Nat.le_refl _)
      have HI := Lib.hid hi
      clear hi
      go_wp2_with fail
      refine HI.out.mono ?_
      rintro e w' ⟨rfl, S2⟩
      have S3 : Aside _ := S2
      have L1 : Aside _ := I1.out.last HSW.out HB.out (by omega) ha.out han (by omega)
      clear HI S1 S2 I1 ha
      generalize insertionSort (ltOf cf) d a n = d1 at S3 L1
      go_wp2_with fail
      go_loopg [6, 7, 8, 9] n (fun g1 vbs va vb vm wr => ∃ (bs : Nat) (d : Array α), vbs = .int .i64 bs ∧ 20 ≤ bs ∧ bs ≤ 2 * n + 20 ∧ n - bs ≤ g1 ∧ Aside (SW enc w0 blk off d wr) ∧ Aside (Lvl (ltOf cf) bef bs n d0 d))
      case atStart => exact ⟨20, d1, by go_num, by omega, by omega, by omega, S3, L1⟩
      case round =>
        clear S3 L1
        obtain ⟨bs, d, rfl, hbs, hbs2, hg2, S4, L2⟩ := hrel
        by_cases hlt : bs < n
        · have hltz : (bs : Int) < (n : Int) := by omega
          go_wp2_with fail
          go_loopg [7, 8] n (fun g1 va vb wr => ∃ (a : Nat) (d : Array α), va = .int .i64 a ∧ vb = .int .i64 (a + 2 * bs : Nat) ∧ a ≤ n ∧ n - a ≤ g1 ∧ Hid (2 * bs ∣ a) ∧ Aside (SW enc w0 blk off d wr) ∧ Aside (Mrg (ltOf cf) bef bs n a d0 d))
          case atStart => exact ⟨0, d, by go_num, by go_num, by omega, by omega, Nat.dvd_zero _, S4, L2.out.mrg (by omega)⟩
          case round =>
            clear S4 L2
            obtain ⟨a, d, rfl, rfl, han, hg3, ha, S5, M1⟩ := hrel
            have e2b : ((a + 2 * bs : Nat) : Int) = (a : Int) + 2 * (bs : Int) := by omega
            by_cases hle : a + 2 * bs ≤ n
            · have hlez : (a : Int) + 2 * (bs : Int) ≤ (n : Int) := by omega
              have hi := mrg.out a (a + bs) (a + 2 * bs) d wr M1.out.size S5.out (by omega) (by omega) (by rw [M1.out.size]; exact hle)
              rw [e2b, show ((a + bs : Nat) : Int) = (a : Int) + (bs : Int) by omega] at hi
              have HI := Lib.hid hi
              clear hi
              go_wp2_with fail
              refine HI.out.mono ?_
              rintro e w' ⟨rfl, S2⟩
              have S6 : Aside _ := S2
              clear HI S5 S2
              go_wp2_with fail
              go_roundg (n - (a + 2 * bs))
              case measure => omega
              case rel => exact ⟨a + 2 * bs, _, by go_num, by go_num, hle, by omega, (show Hid _ from (Nat.dvd_add_right ha.out).2 (Nat.dvd_refl _)), S6, M1.out.step HSW.out HB.out ha.out hle (by omega) 1000000 (by omega)⟩
            · have hlez : ¬ (a : Int) + 2 * (bs : Int) ≤ (n : Int) := by omega
              have L3 : Aside _ := M1.out.last HSW.out HB.out ha.out han (by omega) (by omega) 1000000 (by omega)
              by_cases hm : a + bs < n
              · have hmz : (a : Int) + (bs : Int) < (n : Int) := by omega
                have hi := mrg.out a (a + bs) n d wr M1.out.size S5.out (by omega) hm (by rw [M1.out.size]; exact Nat.le_refl _)
                rw [show ((a + bs : Nat) : Int) = (a : Int) + (bs : Int) by omega] at hi
                have HI := Lib.hid hi
                clear hi
                go_wp2_with fail
                refine HI.out.mono ?_
                rintro e w' ⟨rfl, S2⟩
                have S6 : Aside _ := S2
                clear HI S5 S2
                have L4 := L3.out
                rw [if_pos hm] at L4
                have L5 : Aside _ := L4
                clear L3 L4
                go_wp2_with fail
                go_roundg (n - 2 * bs)
                case measure => omega
                case rel => exact ⟨2 * bs, _, by go_num, by omega, by omega, by omega, S6, L5⟩
              · have hmz : ¬ (a : Int) + (bs : Int) < (n : Int) := by omega
                have L4 := L3.out
                rw [if_neg hm] at L4
                have L5 : Aside _ := L4
                clear L3 L4
                go_wp2_with fail
                go_roundg (n - 2 * bs)
                case measure => omega
                case rel => exact ⟨2 * bs, _, by go_num, by omega, by omega, by omega, S5, L5⟩
        · have hltz : ¬ (bs : Int) < (n : Int) := by omega
          go_wp2_with fail
          go_end0
          exact ⟨rfl, d, S4.out, L2.out.size, L2.out.perm, L2.out.whole (by omega)⟩

theorem sortStable_any (enc : α → Value) (cf : α → α → Int) (bef : α → α → Prop) (g : Nat) (cb : Array Value) (blk off cap : Nat) (d0 : Array α) (w : World)
    (eg : ∀ args w, (callFunc g args).run Try.prog w = .ok (.enter g args) w) (hcmp : CmpReads Try.prog g cb enc cf blk off d0.size w)
    (R : Row1 enc w blk off d0) (hsz : d0.size ≤ 65536)
    (hS : SWO (ltOf cf)) (hB : ∀ x y z, bef x y → bef y z → bef x z) (hbef : ∀ p q, p < q → q < d0.size → bef d0[p]! d0[q]!) :
    Calls Try.prog 18 #[.slice (some ⟨blk, off, none⟩) d0.size cap, .func (.func g) #[] cb] w fun e w' =>
      e = .returned (.tuple #[]) ∧ ∃ d' : Array α, SW enc w blk off d' w' ∧ d'.size = d0.size ∧ d'.toList.Perm d0.toList ∧ Srt (ltOf cf) bef d' 0 d0.size := by
  have H := Lib.hid (stable_any enc cf bef g cb blk off cap d0 w w eg hcmp R (SW.start R.hH) hsz hS hB hbef)
  clear hcmp R hS hB hbef
  go_enter Try.func18, Try.ntmps18
  go_wp2_with fail
  refine H.out.mono ?_
  rintro e w' ⟨rfl, h⟩
  have HH := Lib.hid h
  clear h
  go_wp2_with fail
  go_end0
  exact ⟨rfl, HH.out⟩

end Go.Proofs.Ytegoadlfchbgfaa

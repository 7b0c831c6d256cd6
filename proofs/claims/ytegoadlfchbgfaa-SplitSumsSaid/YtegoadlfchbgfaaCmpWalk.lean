/- The walk of the closure in split.Weighted that compares two remainders, and of cmp.Compare at int. -/
import Derived.Test.YtegoadlfchbgfaaStableWalk
import Derived.Lib.Small
namespace Go.Proofs.Ytegoadlfchbgfaa
open Go.Shelf Go.RowKit Go.Lib Go.Sort

theorem compare_any (x y : Int) (w : World) : Calls Try.prog 17 #[.int .i64 x, .int .i64 y] w fun e w' => e = .returned (.int .i64 (Lib.compareInt x y)) ∧ w' = w := by
  go_enter Try.func17, Try.ntmps17
  go_wp2
  all_goals (go_ret; refine ⟨?_, rfl⟩; unfold Lib.compareInt; (repeat' split) <;> first | rfl | (exfalso; omega))

set_option maxHeartbeats 1000000 in
theorem remCmp_any (total W : Int) (b0 b1 b2 : Nat) (A : Option Addr) (n c : Nat) (i k xi xk : Int) (w : World)
    (h0 : w.cell? ⟨b0, 0, none⟩ = some (.int .i64 total)) (h1 : w.cell? ⟨b1, 0, none⟩ = some (.slice A n c)) (h2 : w.cell? ⟨b2, 0, none⟩ = some (.int .i64 W))
    (hi0 : 0 ≤ i) (hin : i < n) (hk0 : 0 ≤ k) (hkn : k < n) (hW : 0 < W) (hW2 : W ≤ 2147483647)
    (ad : Addr) (hA : A = some ad)
    (hci : w.cell? (ad.add i.toNat) = some (.int .i64 xi)) (hck : w.cell? (ad.add k.toNat) = some (.int .i64 xk))
    (hxi : 0 ≤ total * xi) (hxi2 : total * xi ≤ 4611686018427387904) (hxk : 0 ≤ total * xk) (hxk2 : total * xk ≤ 4611686018427387904) :
    Calls Try.prog 16 #[.int .i64 i, .int .i64 k, .pointer (some ⟨b0, 0, none⟩), .pointer (some ⟨b1, 0, none⟩), .pointer (some ⟨b2, 0, none⟩)] w fun e w' =>
      e = .returned (.int .i64 (Lib.compareInt (total * xk % W) (total * xi % W))) ∧ ∃ q, w' = w.drewN q := by
  subst hA
  go_enter Try.func16, Try.ntmps16
  go_wp2
  go_quiet ((go_at_call 17; exact Calls.quiet_of_same (compare_any _ _ _)))
  go_wp2
  go_ret
  exact ⟨rfl, _, rfl⟩

end Go.Proofs.Ytegoadlfchbgfaa

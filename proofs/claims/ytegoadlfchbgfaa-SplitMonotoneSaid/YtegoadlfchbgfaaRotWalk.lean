/- The walk of slices.rotateCmpFunc at []int. -/
import Derived.Test.YtegoadlfchbgfaaSwapWalk
namespace Go.Proofs.Ytegoadlfchbgfaa
open Go.Shelf Go.RowKit Go.Lib Go.Sort
variable {α : Type} [Inhabited α]

theorem swapRange_int (enc : α → Value) (blk off cap : Nat) (a b n : Int) (d0 d : Array α) (w0 w : World) (fv : Value)
    (R : Row1 enc w0 blk off d0) (hs : d0.size = d.size) (S : SW enc w0 blk off d w) (ha0 : 0 ≤ a) (hb0 : 0 ≤ b) (hn0 : 0 ≤ n) (ha : a + n ≤ d.size) (hb : b + n ≤ d.size) (hsz : d.size < 4611686018427387904) :
    Calls Try.prog 28 #[.slice (some ⟨blk, off, none⟩) d.size cap, .int .i64 a, .int .i64 b, .int .i64 n, fv] w fun e w' =>
      e = .returned (.tuple #[]) ∧ SW enc w0 blk off (swapRange d a.toNat b.toNat n.toNat) w' := by
  obtain ⟨a, rfl⟩ := Int.eq_ofNat_of_zero_le ha0
  obtain ⟨b, rfl⟩ := Int.eq_ofNat_of_zero_le hb0
  obtain ⟨n, rfl⟩ := Int.eq_ofNat_of_zero_le hn0
  simp only [Int.toNat_natCast]
  exact swapRange_any enc blk off cap a b n d0 d w0 w fv R hs S (by omega) (by omega) hsz

theorem size_rotLoop (m : Nat) : ∀ (f i j : Nat) (d : Array α), (rotLoop m f i j d).size = d.size
  | 0, _, _, _ => rfl
  | f + 1, i, j, d => by
    unfold rotLoop
    split
    · exact size_swapRange _ _ _ _
    · split
      · rw [size_rotLoop, size_swapRange]
      · rw [size_rotLoop, size_swapRange]

theorem size_rotate (d : Array α) (a m b : Nat) : (rotate d a m b).size = d.size := size_rotLoop _ _ _ _ _

theorem rotLoop_eq (m f i : Nat) (d : Array α) (h : 0 < f) : rotLoop m f i i d = swapRange d (m - i) m i := by
  obtain ⟨f, rfl⟩ : ∃ k, f = k + 1 := ⟨f - 1, by omega⟩
  rw [rotLoop, if_pos rfl]
theorem rotLoop_gt (m f i j : Nat) (d : Array α) (h : 0 < f) (hj : j < i) : rotLoop m f i j d = rotLoop m (f - 1) (i - j) j (swapRange d (m - i) m j) := by
  obtain ⟨f, rfl⟩ : ∃ k, f = k + 1 := ⟨f - 1, by omega⟩
  rw [rotLoop, if_neg (by omega), if_pos hj]; rfl
theorem rotLoop_lt (m f i j : Nat) (d : Array α) (h : 0 < f) (hj : i < j) : rotLoop m f i j d = rotLoop m (f - 1) i (j - i) (swapRange d (m - i) (m + j - i) i) := by
  obtain ⟨f, rfl⟩ : ∃ k, f = k + 1 := ⟨f - 1, by omega⟩
  rw [rotLoop, if_neg (by omega), if_neg (by omega)]; rfl

set_option maxHeartbeats 4000000 in
set_option maxRecDepth 1000000 in
theorem rotate_any (enc : α → Value) (blk off cap a m b : Nat) (d0 d : Array α) (w0 w : World) (fv : Value)
    (R : Row1 enc w0 blk off d0) (hs : d0.size = d.size) (S : SW enc w0 blk off d w) (ham : a < m) (hmb : m < b) (hb : b ≤ d.size) (hsz : d.size < 4611686018427387904) :
    Calls Try.prog 27 #[.slice (some ⟨blk, off, none⟩) d.size cap, .int .i64 a, .int .i64 m, .int .i64 b, fv] w fun e w' =>
      e = .returned (.tuple #[]) ∧ SW enc w0 blk off (rotate d a m b) w' := by
  have S0 : Aside (SW enc w0 blk off d w) := S
  clear S
  go_enter Try.func27, Try.ntmps27
  go_wp2
  go_loopg [10, 11] (b - a) (fun g1 vi vj wr => ∃ (i j f : Nat) (dk : Array α), vi = .int .i64 i ∧ vj = .int .i64 j ∧ 0 < i ∧ 0 < j ∧ i + j ≤ g1 ∧ i + j ≤ f ∧ i + a ≤ m ∧ m + j ≤ b ∧ dk.size = d.size ∧ Aside (SW enc w0 blk off dk wr) ∧ Hid (rotLoop m f i j dk = rotate d a m b))
  case atStart => exact ⟨m - a, b - m, b - a, d, by go_num, by go_num, by omega, by omega, by omega, by omega, by omega, by omega, rfl, S0, rfl⟩
  case round =>
    clear S0
    obtain ⟨i, j, f, dk, rfl, rfl, hi, hj, hg1, hf, hia, hjb, hsk, S1, HD⟩ := hrel
    have HS : Hid (dk.size = d.size) := hsk
    rcases Nat.lt_trichotomy i j with hij | hij | hij
    · have t1 : ((i : Int) != (j : Int)) = true := by rw [bne_iff_ne]; omega
      have t2 : ¬ (j : Int) < (i : Int) := by omega
      rw [← hsk]
      clear hsk
      go_wp2_with fail
      refine (swapRange_int enc blk off cap _ _ _ d0 dk w0 _ fv R (by rw [HS.out]; exact hs) S1.out ?_ ?_ ?_ ?_ ?_ ?_).mono ?_
      all_goals first | (rw [HS.out]; omega) | omega | skip
      rintro e w' ⟨rfl, S2⟩
      have S3 : Aside _ := S2
      clear S2 S1
      rw [HS.out]
      go_wp2_with fail
      go_roundg (i + (j - i))
      case measure => omega
      case rel => exact ⟨i, j - i, f - 1, _, rfl, by go_num, by omega, by omega, by omega, by omega, by omega, by omega, by rw [size_swapRange]; exact HS.out, S3, (show Hid _ from by show _ = _; rw [← HD.out, rotLoop_lt m f i j dk (by omega) hij]; congr 2 <;> omega)⟩
    · subst hij
      have t1 : ((i : Int) != (i : Int)) = false := by simp
      rw [← hsk]
      clear hsk
      go_wp2_with fail
      refine (swapRange_int enc blk off cap _ _ _ d0 dk w0 _ fv R (by rw [HS.out]; exact hs) S1.out ?_ ?_ ?_ ?_ ?_ ?_).mono ?_
      all_goals first | (rw [HS.out]; omega) | omega | skip
      rintro e w' ⟨rfl, S2⟩
      go_wp2_with fail
      go_end0
      exact ⟨rfl, by rw [← HD.out, rotLoop_eq _ _ _ _ (by omega)]; simpa using S2⟩
    · have t1 : ((i : Int) != (j : Int)) = true := by rw [bne_iff_ne]; omega
      have t2 : (j : Int) < (i : Int) := by omega
      rw [← hsk]
      clear hsk
      go_wp2_with fail
      refine (swapRange_int enc blk off cap _ _ _ d0 dk w0 _ fv R (by rw [HS.out]; exact hs) S1.out ?_ ?_ ?_ ?_ ?_ ?_).mono ?_
      all_goals first | (rw [HS.out]; omega) | omega | skip
      rintro e w' ⟨rfl, S2⟩
      have S3 : Aside _ := S2
      clear S2 S1
      rw [HS.out]
      go_wp2_with fail
      go_roundg ((i - j) + j)
      case measure => omega
      case rel => exact ⟨i - j, j, f - 1, _, by go_num, rfl, by omega, by omega, by omega, by omega, by omega, by omega, by rw [size_swapRange]; exact HS.out, S3, (show Hid _ from by show _ = _; rw [← HD.out, rotLoop_gt m f i j dk (by omega) hij]; congr 2 <;> omega)⟩

end Go.Proofs.Ytegoadlfchbgfaa

/- The walks of slices.IndexFunc and slices.ContainsFunc at []int (for a closure that turns nothing), and of schedule.Valid. -/
import Derived.Test.YtmpeekkbmfbjeaaPx0
import Derived.Test.YtmpeekkbmfbjeaaWgtWalk
import Derived.Lib.Hide
import Derived.BigQuiet
namespace Go.Proofs.Ytmpeekkbmfbjeaa
open Go.RowKit Go.Lib Go.Proofs.Ytmpeekkbmfbjeaa.P Go.Proofs.YtmpeekkbmfbjeaaW.PrintWords Go.Proofs.YtmpeekkbmfbjeaaW.PrintLast Go.Proofs.YtmpeekkbmfbjeaaW.PrintMore

def idxF (p : Int → Bool) : List Int → Nat → Int
  | [], _ => -1
  | x :: r, i => if p x = true then (i : Int) else idxF p r (i + 1)

theorem idxF_drop (p : Int → Bool) (l : List Int) (i : Nat) (h : i < l.length) : idxF p (l.drop i) i = if p (rd l (i : Int)) = true then (i : Int) else idxF p (l.drop (i + 1)) (i + 1) := by
  rw [List.drop_eq_getElem_cons h, idxF]
  simp [rd, List.getD_eq_getElem?_getD, h]
theorem idxF_nonneg (p : Int → Bool) : ∀ (l : List Int) (i : Nat), decide (idxF p l i ≥ 0) = l.any p
  | [], i => by simp [idxF]
  | x :: r, i => by
    rw [idxF]
    by_cases h : p x = true
    · rw [if_pos h]; simp [h]
    · rw [if_neg h, idxF_nonneg p r (i + 1)]
      simp [h]

set_option maxHeartbeats 4000000 in
set_option maxRecDepth 1000000 in
theorem indexFunc_any (A : Option Addr) (c : Nat) (l : List Int) (g : Nat) (cb : Array Value) (p : Int → Bool) (w : World) (hl : Kd.C (Kd.int .i64) w A l.length l) (hlen : l.length < 2305843009213693952)
    (eg : ∀ args w, (callFunc g args).run Try.prog w = .ok (.enter g args) w)
    (hp : ∀ x : Int, Calls Try.prog g (#[.int .i64 x] ++ cb) w fun e w' => e = .returned (.bool (p x)) ∧ w' = w) :
    Calls Try.prog 36 #[.slice A l.length c, .func (.func g) #[] cb] w fun e w' => e = .returned (.int .i64 (idxF p l 0)) ∧ w' = w := by
  have HL : Aside _ := hl
  have HP : Aside _ := hp
  clear hl hp
  obtain ⟨n, hn⟩ : ∃ n, n = l.length := ⟨_, rfl⟩
  rw [← hn] at hlen ⊢
  have HN := Lib.hid hn
  clear hn
  go_enter Try.func36, Try.ntmps36
  go_wp2_with fail
  go_loopg [5, 8] n (fun g1 vx vi wr => ∃ i : Nat, vi = .int .i64 i ∧ i ≤ n ∧ n - i ≤ g1 ∧ Hid (idxF p l 0 = idxF p (l.drop i) i) ∧ Aside (wr = w))
  case atStart => exact ⟨0, rfl, by omega, by omega, rfl, rfl⟩
  case round =>
    obtain ⟨i, rfl, hin, hg1, HE, HW⟩ := hrel
    obtain rfl := HW.out
    clear HW
    by_cases hlt : i < n
    · have hltz : (i : Int) < (n : Int) := by omega
      have hil : i < l.length := by have := HN.out; omega
      obtain ⟨ad, rfl, hcell⟩ := (Kd.reads_of_C (d := (0 : Int)) HL.out).at_ (i : Int) (by omega) (by omega)
      obtain ⟨x, hx⟩ : ∃ x, x = rd l (i : Int) := ⟨_, rfl⟩
      have hcell2 : wr.cell? (ad.add i) = some (.int .i64 x) := by rw [hx]; exact hcell
      have st := idxF_drop p l i hil
      rw [← hx] at st
      have ST := Lib.hid st
      have HX := Lib.hid hx
      clear hcell st hx hil
      by_cases k : p x = true
      · go_wp2_with (first | (go_at_fn g; refine (HP.out x).mono ?_; rw [k]; rintro e w1 ⟨rfl, rfl⟩))
        go_ret
        exact ⟨by rw [HE.out, ST.out, if_pos k]; rfl, rfl⟩
      · have kb : p x = false := by simpa using k
        go_wp2_with (first | (go_at_fn g; refine (HP.out x).mono ?_; rw [kb]; rintro e w1 ⟨rfl, rfl⟩))
        go_roundg (n - (i + 1))
        case measure => omega
        case rel => exact ⟨i + 1, by go_num, by omega, by omega, by show _ = _; rw [HE.out, ST.out, if_neg k], rfl⟩
    · obtain rfl : i = n := by omega
      have hltz : ¬ (i : Int) < (i : Int) := by omega
      have e : idxF p l 0 = -1 := by rw [HE.out, HN.out, List.drop_length]; rfl
      go_wp2_with fail
      go_ret
      exact ⟨rfl, rfl⟩

theorem containsFunc_any (A : Option Addr) (c : Nat) (l : List Int) (g : Nat) (cb : Array Value) (p : Int → Bool) (w : World) (hl : Kd.C (Kd.int .i64) w A l.length l) (hlen : l.length < 2305843009213693952)
    (eg : ∀ args w, (callFunc g args).run Try.prog w = .ok (.enter g args) w)
    (hp : ∀ x : Int, Calls Try.prog g (#[.int .i64 x] ++ cb) w fun e w' => e = .returned (.bool (p x)) ∧ w' = w) :
    Calls Try.prog 29 #[.slice A l.length c, .func (.func g) #[] cb] w fun e w' => e = .returned (.bool (l.any p)) ∧ w' = w := by
  have HL : Aside _ := hl
  have HP : Aside _ := hp
  clear hl hp
  go_enter Try.func29, Try.ntmps29
  go_wp2_with (first | (go_at_call 36; refine (indexFunc_any A c l g cb p _ HL.out hlen eg HP.out).mono ?_; rintro e w1 ⟨rfl, rfl⟩))
  go_ret
  exact ⟨by rw [← idxF_nonneg p l 0]; rfl, rfl⟩

def wrong (n : Int) : Bool := decide (n < -1000) || decide (n > 1000)

theorem wrong_any (n : Int) (w : World) : Calls Try.prog 28 #[.int .i64 n] w fun e w' => e = .returned (.bool (wrong n)) ∧ w' = w := by
  unfold wrong
  by_cases h : n < -1000
  · have hd : decide (n < -1000) = true := decide_eq_true h
    go_enter Try.func28, Try.ntmps28
    go_wp2
    go_ret
    simp [h]
  · have hd : decide (n < -1000) = false := decide_eq_false h
    go_enter Try.func28, Try.ntmps28
    go_wp2
    go_ret
    simp

def vOk (l : List Int) : Bool := decide (l.length = 5) && !l.any wrong

theorem enters28 : ∀ args w, (callFunc 28 args).run Try.prog w = .ok (.enter 28 args) w := fun args w => enters_ Try.func28 (by kernel_rfl) rfl args w

set_option maxHeartbeats 4000000 in
set_option maxRecDepth 1000000 in
theorem valid_any (A : Option Addr) (c : Nat) (l : List Int) (w : World) (hl : Kd.C (Kd.int .i64) w A l.length l) :
    Calls Try.prog 15 #[.agg #[.slice A l.length c]] w fun e w' => e = .returned (.bool (vOk l)) ∧ Below w.heap.size w w' := by
  have HL : Aside _ := hl
  clear hl
  have hu26 := Try.underlying26
  by_cases h : l.length = 5
  · have CF : Aside (∀ W : World, Kd.C (Kd.int .i64) W A l.length l → Calls Try.prog 29 #[.slice A 5 c, .func (.func 28) #[] #[]] W fun e w' => e = .returned (.bool (l.any wrong)) ∧ w' = W) := fun W hW => by
      have := containsFunc_any A c l 28 #[] wrong W hW (by omega) enters28 (fun x => wrong_any x _)
      rw [h] at this
      exact this
    have hv : vOk l = !l.any wrong := by unfold vOk; rw [decide_eq_true h]; rfl
    rw [hv, h]
    obtain ⟨b, hb⟩ : ∃ b, b = l.any wrong := ⟨_, rfl⟩
    rw [← hb] at CF ⊢
    clear hb h hv
    go_enter Try.func15, Try.ntmps15
    go_wp2_with (first | (go_at_call 29; refine (CF.out _ (Kd.C_alloc HL.out _)).mono ?_; rintro e w1 ⟨rfl, rfl⟩))
    go_ret
    exact ⟨rfl, below_alloc (Below.refl _ _) _⟩
  · have h5 : ¬ (l.length : Int) = 5 := by omega
    have hd : decide ((l.length : Int) = 5) = false := decide_eq_false h5
    have hv : vOk l = false := by unfold vOk; rw [decide_eq_false h]; rfl
    rw [hv]
    clear hv
    go_enter Try.func15, Try.ntmps15
    go_wp2_with fail
    go_ret
    exact ⟨rfl, below_alloc (Below.refl _ _) _⟩

end Go.Proofs.Ytmpeekkbmfbjeaa

/- The calls of solventlaw37.sanity, each at its own arguments. -/
import Derived.Test.YtmpeekkbmfbjeaaGiven
namespace Go.Proofs.Ytmpeekkbmfbjeaa
open Go.RowKit Go.Lib Go.Proofs.Ytmpeekkbmfbjeaa.P Go.Proofs.YtmpeekkbmfbjeaaW.PrintWords Go.Proofs.YtmpeekkbmfbjeaaW.PrintLast Go.Proofs.YtmpeekkbmfbjeaaW.PrintMore

def zs : List Int := [0, 0, 0, 0, 0]
def lS : List S58 := [⟨5, ⟨1, 0⟩, 0, 0⟩, ⟨5, ⟨0, 0⟩, 0, 0⟩, ⟨3, ⟨5, 0⟩, 0, 0⟩]
def mS : List S58 := [⟨1, ⟨0, 0⟩, 1, 1⟩, ⟨1, ⟨1, 0⟩, 0, 2⟩, ⟨1, ⟨0, 0⟩, -1, 3⟩]

theorem run_f1 : schedule_Run.f zs lS 10 = some ([0, 0, -1, 0, 1], [2, 1, 0], 0) := by decide +kernel
theorem next_f1 : schedule_Next.f zs mS = some (zs, 1, 0) := by decide +kernel
theorem next_f2 : schedule_Next.f zs (mS.drop 2) = some (zs, -1, 0) := by decide +kernel
theorem next_f3 : schedule_Next.f [] mS = some ([], 0, 1) := by decide +kernel
theorem run_f2 : schedule_Run.f zs lS (-1) = some ([], [], 1) := by decide +kernel
theorem urg_f1 : schedule_Urgent.f mS = some 1 := by decide +kernel
theorem same_f1 : solventref37_Same.f 10 [2, 1, 0] [2, 1, 0] = some true := by decide +kernel
theorem same_f2 : solventref37_Same.f 10 [0, 0, -1, 0, 1] [0, 0, -1, 0, 1] = some true := by decide +kernel
theorem same_f3 : solventref37_Same.f 10 zs zs = some true := by decide +kernel

theorem new_at (W : World) : Calls Try.prog 11 #[] W fun e w' => ∃ A c, e = .returned (.agg #[.slice A 5 c]) ∧ Kd.C (Kd.int .i64) w' A 5 zs ∧ 5 ≤ c ∧ Below W.heap.size W w' := by
  refine (schedule_New.calls zs W rfl).mono ?_
  rintro e w' ⟨v, rfl, hR, hb⟩
  obtain ⟨A, c, rfl, hc, hC⟩ := Kd.R_reads hR
  exact ⟨A, c, rfl, hC, hc, hb⟩

theorem run_at (W : World) (A B : Option Addr) (c d : Nat) (l : List S58) (b : Int) (r0 r1 : List Int) (r2 : Int) (hC : Kd.C (Kd.int .i64) W A 5 zs) (hc : 5 ≤ c) (hL : Kd.C k58 W B l.length l) (hd : l.length ≤ d) (h : schedule_Run.f zs l b = some (r0, r1, r2)) :
    Calls Try.prog 22 #[.agg #[.slice A 5 c], .slice B l.length d, .int .i64 b] W fun e w' => ∃ A0 c0 A1 c1, e = .returned (.tuple #[.agg #[.slice A0 r0.length c0], .slice A1 r1.length c1, .int .i64 r2]) ∧
      Kd.C (Kd.int .i64) w' A0 r0.length r0 ∧ r0.length ≤ c0 ∧ Kd.C (Kd.int .i64) w' A1 r1.length r1 ∧ r1.length ≤ c1 ∧ Below W.heap.size W w' := by
  refine (schedule_Run.calls A c zs B d l b r0 r1 r2 W hC hc hL hd h).mono ?_
  rintro e w' ⟨v0, v1, rfl, h0, h1, hb⟩
  obtain ⟨A0, c0, rfl, q0, C0⟩ := Kd.R_reads h0
  obtain ⟨A1, c1, rfl, q1, C1⟩ := Kd.R_reads h1
  exact ⟨A0, c0, A1, c1, rfl, C0, q0, C1, q1, hb⟩

theorem next_at (W : World) (A B : Option Addr) (c d : Nat) (cr : List Int) (l : List S58) (r0 : List Int) (r1 r2 : Int) (hC : Kd.C (Kd.int .i64) W A cr.length cr) (hc : cr.length ≤ c) (hL : Kd.C k58 W B l.length l) (hd : l.length ≤ d) (h : schedule_Next.f cr l = some (r0, r1, r2)) :
    Calls Try.prog 12 #[.agg #[.slice A cr.length c], .slice B l.length d] W fun e w' => ∃ A0 c0, e = .returned (.tuple #[.agg #[.slice A0 r0.length c0], .int .i64 r1, .int .i64 r2]) ∧
      Kd.C (Kd.int .i64) w' A0 r0.length r0 ∧ r0.length ≤ c0 ∧ Below W.heap.size W w' := by
  refine (schedule_Next.calls A c cr B d l r0 r1 r2 W hC hc hL hd h).mono ?_
  rintro e w' ⟨v0, rfl, h0, hb⟩
  obtain ⟨A0, c0, rfl, q0, C0⟩ := Kd.R_reads h0
  exact ⟨A0, c0, rfl, C0, q0, hb⟩

theorem same_at (W : World) (A B : Option Addr) (c d : Nat) (l : List Int) (hC : Kd.C (Kd.int .i64) W A l.length l) (hc : l.length ≤ c) (hD : Kd.C (Kd.int .i64) W B l.length l) (hd : l.length ≤ d) (h : solventref37_Same.f 10 l l = some true) :
    Calls Try.prog 21 #[.slice A l.length c, .slice B l.length d] W fun e w' => e = .returned (.bool true) ∧ Below W.heap.size W w' := by
  refine (solventref37_Same.calls 10 A c l B d l true W hC hc hD hd h).mono ?_
  rintro e w' ⟨rfl, hd⟩
  exact ⟨rfl, hd.below⟩

def enc5 (t : S58) : List Value := [.int .i64 t.f0, .int .i64 t.f1.f0, .int .i64 t.f1.f1, .int .i64 t.f2, .int .i64 t.f3]
theorem flat_get : ∀ (l : List S58) (j i : Nat) (t : S58) (u : Value), l[j]? = some t → (enc5 t)[i]? = some u → (l.flatMap enc5)[j * 5 + i]? = some u
  | [], j, i, t, u, h, _ => by simp at h
  | x :: r, 0, i, t, u, h, hu => by
    simp at h
    subst h
    have hi := (List.getElem?_eq_some_iff.1 hu).1
    rw [List.flatMap_cons, List.getElem?_append_left (by omega), Nat.zero_mul, Nat.zero_add, hu]
  | x :: r, j + 1, i, t, u, h, hu => by
    rw [List.flatMap_cons, List.getElem?_append_right (by show 5 ≤ _; omega)]
    have e : (j + 1) * 5 + i - (enc5 x).length = j * 5 + i := by show (j + 1) * 5 + i - 5 = _; omega
    rw [e]
    exact flat_get r j i t u (by simpa using h) hu
theorem C58_of_block {w : World} {b : Nat} (l : List S58) (hl : l.length ≤ 100) (h : w.heap[b]? = some (.cells (l.flatMap enc5).toArray 58 (0, 0))) : Kd.C k58 w (some ⟨b, 0, none⟩) l.length l := by
  refine ⟨rfl, by omega, fun _ => ⟨_, rfl, fun j p hp => ⟨enc5 p, rfl, k58_mk w p, fun i u hu => ?_⟩⟩⟩
  rw [add_plain, blk_cell h, List.getElem?_toArray]
  exact flat_get l j i p u hp hu

theorem C_small {w : World} {b t : Nat} (l : List Int) (hl : l.length ≤ 100) (h : w.heap[b]? = some (.cells (l.map (Value.int .i64)).toArray t (0, 0))) : Kd.C (Kd.int .i64) w (some ⟨b, 0, none⟩) l.length l := by
  refine ⟨rfl, by omega, fun _ => ⟨_, rfl, fun j p hp => ⟨[.int .i64 p], rfl, rfl, fun i u hu => ?_⟩⟩⟩
  cases i with
  | zero =>
    simp at hu
    subst hu
    rw [show j * (Kd.int .i64).sz + 0 = j from by show j * 1 + 0 = j; omega, add_plain, blk_cell h j, List.getElem?_toArray, List.getElem?_map, hp]
    rfl
  | succ i => simp at hu

theorem run1_at (W : World) (A B : Option Addr) (c d : Nat) (hC : Kd.C (Kd.int .i64) W A 5 zs) (hc : 5 ≤ c) (hL : Kd.C k58 W B 3 lS) (hd : 3 ≤ d) :
    Calls Try.prog 22 #[.agg #[.slice A 5 c], .slice B 3 d, .int .i64 10] W fun e w' => ∃ A0 c0 A1 c1, e = .returned (.tuple #[.agg #[.slice A0 5 c0], .slice A1 3 c1, .int .i64 0]) ∧
      Kd.C (Kd.int .i64) w' A0 5 [0, 0, -1, 0, 1] ∧ 5 ≤ c0 ∧ Kd.C (Kd.int .i64) w' A1 3 [2, 1, 0] ∧ 3 ≤ c1 ∧ Below W.heap.size W w' := run_at W A B c d lS 10 _ _ _ hC hc hL hd run_f1
theorem run2_at (W : World) (A B : Option Addr) (c d : Nat) (hC : Kd.C (Kd.int .i64) W A 5 zs) (hc : 5 ≤ c) (hL : Kd.C k58 W B 3 lS) (hd : 3 ≤ d) :
    Calls Try.prog 22 #[.agg #[.slice A 5 c], .slice B 3 d, .int .i64 (-1)] W fun e w' => ∃ A0 c0 A1 c1, e = .returned (.tuple #[.agg #[.slice A0 0 c0], .slice A1 0 c1, .int .i64 1]) ∧ Below W.heap.size W w' :=
  (run_at W A B c d lS (-1) _ _ _ hC hc hL hd run_f2).mono fun _ _ ⟨A0, c0, A1, c1, h, _, _, _, _, hb⟩ => ⟨A0, c0, A1, c1, h, hb⟩
theorem next1_at (W : World) (A B : Option Addr) (c d : Nat) (hC : Kd.C (Kd.int .i64) W A 5 zs) (hc : 5 ≤ c) (hL : Kd.C k58 W B 3 mS) (hd : 3 ≤ d) :
    Calls Try.prog 12 #[.agg #[.slice A 5 c], .slice B 3 d] W fun e w' => ∃ A0 c0, e = .returned (.tuple #[.agg #[.slice A0 5 c0], .int .i64 1, .int .i64 0]) ∧ Kd.C (Kd.int .i64) w' A0 5 zs ∧ 5 ≤ c0 ∧ Below W.heap.size W w' := next_at W A B c d zs mS _ _ _ hC hc hL hd next_f1
theorem next2_at (W : World) (A B : Option Addr) (c d : Nat) (hC : Kd.C (Kd.int .i64) W A 5 zs) (hc : 5 ≤ c) (hL : Kd.C k58 W B 1 (mS.drop 2)) (hd : 1 ≤ d) :
    Calls Try.prog 12 #[.agg #[.slice A 5 c], .slice B 1 d] W fun e w' => ∃ A0 c0, e = .returned (.tuple #[.agg #[.slice A0 5 c0], .int .i64 (-1), .int .i64 0]) ∧ Below W.heap.size W w' :=
  (next_at W A B c d zs (mS.drop 2) _ _ _ hC hc hL hd next_f2).mono fun _ _ ⟨A0, c0, h, _, _, hb⟩ => ⟨A0, c0, h, hb⟩
theorem next3_at (W : World) (B : Option Addr) (d : Nat) (hL : Kd.C k58 W B 3 mS) (hd : 3 ≤ d) :
    Calls Try.prog 12 #[.agg #[.slice none 0 0], .slice B 3 d] W fun e w' => ∃ A0 c0, e = .returned (.tuple #[.agg #[.slice A0 0 c0], .int .i64 0, .int .i64 1]) ∧ Below W.heap.size W w' :=
  (next_at W none B 0 d [] mS _ _ _ (Kd.C_nil _ _) (Nat.le_refl _) hL hd next_f3).mono fun _ _ ⟨A0, c0, h, _, _, hb⟩ => ⟨A0, c0, h, hb⟩
theorem urg1_at (W : World) (B : Option Addr) (d : Nat) (hL : Kd.C k58 W B 3 mS) (hd : 3 ≤ d) : Calls Try.prog 19 #[.slice B 3 d] W fun e w' => e = .returned (.int .i64 1) ∧ Below W.heap.size W w' := schedule_Urgent.calls B d mS 1 W hL hd urg_f1
theorem same1_at (W : World) (A B : Option Addr) (c d : Nat) (hC : Kd.C (Kd.int .i64) W A 3 [2, 1, 0]) (hc : 3 ≤ c) (hD : Kd.C (Kd.int .i64) W B 3 [2, 1, 0]) (hd : 3 ≤ d) : Calls Try.prog 21 #[.slice A 3 c, .slice B 3 d] W fun e w' => e = .returned (.bool true) ∧ Below W.heap.size W w' := same_at W A B c d [2, 1, 0] hC hc hD hd same_f1
theorem same2_at (W : World) (A B : Option Addr) (c d : Nat) (hC : Kd.C (Kd.int .i64) W A 5 [0, 0, -1, 0, 1]) (hc : 5 ≤ c) (hD : Kd.C (Kd.int .i64) W B 5 [0, 0, -1, 0, 1]) (hd : 5 ≤ d) : Calls Try.prog 21 #[.slice A 5 c, .slice B 5 d] W fun e w' => e = .returned (.bool true) ∧ Below W.heap.size W w' := same_at W A B c d [0, 0, -1, 0, 1] hC hc hD hd same_f2
theorem same3_at (W : World) (A B : Option Addr) (c d : Nat) (hC : Kd.C (Kd.int .i64) W A 5 zs) (hc : 5 ≤ c) (hD : Kd.C (Kd.int .i64) W B 5 zs) (hd : 5 ≤ d) : Calls Try.prog 21 #[.slice A 5 c, .slice B 5 d] W fun e w' => e = .returned (.bool true) ∧ Below W.heap.size W w' := same_at W A B c d zs hC hc hD hd same_f3
theorem val1_at (W : World) (A : Option Addr) (c : Nat) (hC : Kd.C (Kd.int .i64) W A 5 zs) : Calls Try.prog 15 #[.agg #[.slice A 5 c]] W fun e w' => e = .returned (.bool true) ∧ Below W.heap.size W w' := valid_any A c zs W hC
theorem val2_at (W : World) (A : Option Addr) (c : Nat) (hC : Kd.C (Kd.int .i64) W A 5 [0, 0, 0, 0, 1001]) : Calls Try.prog 15 #[.agg #[.slice A 5 c]] W fun e w' => e = .returned (.bool false) ∧ Below W.heap.size W w' := valid_any A c [0, 0, 0, 0, 1001] W hC
theorem wgt1_at (W : World) : Calls Try.prog 17 #[.int .i64 1] W fun e w' => e = .returned (.int .i64 4) ∧ Below W.heap.size W w' := weight_any 1 W
theorem wgt6_at (W : World) : Calls Try.prog 17 #[.int .i64 6] W fun e w' => e = .returned (.int .i64 0) ∧ Below W.heap.size W w' := weight_any 6 W

end Go.Proofs.Ytmpeekkbmfbjeaa

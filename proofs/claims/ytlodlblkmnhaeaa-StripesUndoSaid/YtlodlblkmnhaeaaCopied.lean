/- The walk of stripes.copied: the same rows in memory of the call's own, no two of which share a block. -/
import Derived.Test.YtlodlblkmnhaeaaClone
namespace Go.Proofs.Ytlodlblkmnhaeaa
set_option linter.unusedVariables false
open Go.RowKit Go.Lib Go.Proofs.Ytlodlblkmnhaeaa.P Go.Proofs.YtlodlblkmnhaeaaW.PrintWords Go.Proofs.YtlodlblkmnhaeaaW.PrintLast Go.Proofs.YtlodlblkmnhaeaaW.PrintMore

/-- Row j of the copy: done (its list is v's own), or as it came. -/
def CpAt (w wr : World) (g i j : Nat) (cur : Array Value) (v : Value) (x : S59) : Prop :=
  cur[j * 3]? = some (.int .i64 x.f0) ∧ cur[j * 3 + 1]? = some (.int .i64 x.f1) ∧
  (j < i → cur[j * 3 + 2]? = some v ∧ Kd.R k37 37 wr w.heap.size (fun k => some k = v.ownBlock) v x.f2 ∧ ∀ k, v.ownBlock = some k → k ≠ g) ∧
  (i ≤ j → ∃ A2 c2, cur[j * 3 + 2]? = some (.slice A2 x.f2.length c2) ∧ Kd.C k37 w A2 x.f2.length x.f2)
def Cp (w wr : World) (g cap : Nat) (xs : List S59) (i : Nat) : Prop :=
  ∃ (cur : Array Value) (vs : Nat → Value), wr.heap[g]? = some (.cells cur 59 (0, 0)) ∧ cur.size = cap * 3 ∧ xs.length ≤ cap ∧ cap ≤ maxLen ∧ w.heap.size ≤ g ∧ Below w.heap.size w wr ∧
  (∀ j x, xs[j]? = some x → CpAt w wr g i j cur (vs j) x) ∧
  (∀ j j' k, j < i → j' < i → (vs j).ownBlock = some k → (vs j').ownBlock = some k → j = j')

theorem cp_start {w wr : World} {g cap : Nat} {xs : List S59} {cur : Array Value} (hg : w.heap.size ≤ g) (hh : wr.heap[g]? = some (.cells cur 59 (0, 0))) (hnc : xs.length ≤ cap) (hcm : cap ≤ maxLen) (hcs : cur.size = cap * 3)
    (hr : Reps (k59.K w) 3 xs (cur.toList.take (xs.length * 3))) (hb : Below w.heap.size w wr) : Cp w wr g cap xs 0 := by
  refine ⟨cur, fun _ => .slice none 0 0, hh, hcs, hnc, hcm, hg, hb, fun j x hj => ?_, fun j j' k h => by omega⟩
  have hjl : j < xs.length := (List.getElem?_eq_some_iff.1 hj).1
  obtain ⟨A2, c2, he, hl, hC⟩ := k59_open (hr.2 j x hj)
  have key : ∀ t, t < 3 → cur[j * 3 + t]? = ([.int .i64 x.f0, .int .i64 x.f1, .slice A2 x.f2.length c2] : List Value)[t]? := fun t ht => by
    rw [← he, List.getElem?_take, if_pos ht, List.getElem?_drop, List.getElem?_take, if_pos (by omega), Array.getElem?_toList]
  exact ⟨key 0 (by omega), key 1 (by omega), fun h => by omega, fun _ => ⟨A2, c2, key 2 (by omega), hC⟩⟩

theorem cp_step {w wr w1 : World} {g cap i : Nat} {xs : List S59} {x : S59} {v : Value} (h : Cp w wr g cap xs i) (hi : xs[i]? = some x) (hR : Kd.R k37 37 w1 wr.heap.size (fun k => some k = v.ownBlock) v x.f2) (hb : Below wr.heap.size wr w1) :
    Cp w (w1.setCell ⟨g, i * 3 + 2, none⟩ v) g cap xs (i + 1) := by
  obtain ⟨cur, vs, hh, hcs, hnc, hcm, hg, hbw, hj, hap⟩ := h
  have hgl : g < wr.heap.size := blk_lt hh
  have hil : i < xs.length := (List.getElem?_eq_some_iff.1 hi).1
  have hvb : ∀ k, v.ownBlock = some k → wr.heap.size ≤ k := fun k hk => Kd.R_base hR k hk
  have hb2 : Below w.heap.size w w1 := below_then hbw hbw.size hb
  refine ⟨cur.setIfInBounds (i * 3 + 2) v, fun j => if j = i then v else vs j, blk_set ((hb.block g hgl).trans hh) _ _, by simpa using hcs, hnc, hcm, hg, hb2.setCell hg _, fun j y hy => ?_, ?_⟩
  · have hjl : j < xs.length := (List.getElem?_eq_some_iff.1 hy).1
    obtain ⟨h0, h1, h2, h3⟩ := hj j y hy
    refine ⟨?_, ?_, fun hlt => ?_, fun hge => ?_⟩
    · rw [Array.getElem?_setIfInBounds_ne (by omega)]; exact h0
    · rw [Array.getElem?_setIfInBounds_ne (by omega)]; exact h1
    · by_cases e : j = i
      · subst e
        rw [hi] at hy
        obtain rfl := Option.some.inj hy
        dsimp only
        rw [if_pos rfl]
        refine ⟨by rw [Array.getElem?_setIfInBounds_self_of_lt (by omega)], Kd.R_far (Kd.R_lower hR hbw.size) (fun k hk => ?_) _, fun k hk => ?_⟩
        · have := hvb k hk.symm; show k ≠ g; omega
        · have := hvb k hk; omega
      · dsimp only
        rw [if_neg e]
        obtain ⟨h4, h5, h6⟩ := h2 (by omega)
        refine ⟨by rw [Array.getElem?_setIfInBounds_ne (by omega)]; exact h4, Kd.R_far (Kd.R_below h5 hb) (fun k hk => h6 k hk.symm) _, h6⟩
    · obtain ⟨A2, c2, h4, h5⟩ := h3 (by omega)
      exact ⟨A2, c2, by rw [Array.getElem?_setIfInBounds_ne (by omega)]; exact h4, h5⟩
  · intro j j' k hj1 hj2 hk hk'
    have old : ∀ m, m < i → ∀ k, (vs m).ownBlock = some k → k < wr.heap.size := fun m hm k hk => by
      obtain ⟨_, _, h2, _⟩ := hj m _ (List.getElem?_eq_getElem (show m < xs.length by omega))
      exact Kd.R_lt (h2 hm).2.1 k hk
    dsimp only at hk hk'
    by_cases e : j = i <;> by_cases e' : j' = i
    · omega
    · rw [if_pos e] at hk
      rw [if_neg e'] at hk'
      have := hvb k hk
      have := old j' (by omega) k hk'
      omega
    · rw [if_neg e] at hk
      rw [if_pos e'] at hk'
      have := hvb k hk'
      have := old j (by omega) k hk
      omega
    · rw [if_neg e] at hk
      rw [if_neg e'] at hk'
      exact hap j j' k (by omega) (by omega) hk hk'

theorem cp_end {w wr : World} {g cap : Nat} {xs : List S59} (h : Cp w wr g cap xs xs.length) : Kd.S k59 59 wr w.heap.size (fun k => w.heap.size ≤ k) (.slice (some ⟨g, 0, none⟩) xs.length cap) xs ∧ Below w.heap.size w wr := by
  obtain ⟨cur, vs, hh, hcs, hnc, hcm, hg, hb, hj, hap⟩ := h
  have hlen : (cur.toList.take (xs.length * 3)).length = xs.length * 3 := by
    have e0 : cur.toList.length = cur.size := Array.length_toList
    rw [List.length_take, e0]; omega
  have hrep : ∀ j x, xs[j]? = some x → k59.M wr w.heap.size (fun k => j < xs.length ∧ some k = (vs j).ownBlock ∧ w.heap.size ≤ k ∧ k ≠ g) x (((cur.toList.take (xs.length * 3)).drop (j * 3)).take 3) := by
    intro j x hx
    have hjl : j < xs.length := (List.getElem?_eq_some_iff.1 hx).1
    obtain ⟨h0, h1, h2, _⟩ := hj j x hx
    obtain ⟨h3, h4, h5⟩ := h2 hjl
    have e : ((cur.toList.take (xs.length * 3)).drop (j * 3)).take 3 = [.int .i64 x.f0, .int .i64 x.f1, vs j] := by
      apply List.ext_getElem?
      intro t
      rw [List.getElem?_take]
      by_cases ht : t < 3
      · rw [if_pos ht, List.getElem?_drop, List.getElem?_take, if_pos (by omega), Array.getElem?_toList]
        obtain rfl | rfl | rfl : t = 0 ∨ t = 1 ∨ t = 2 := by omega
        · exact h0
        · exact h1
        · exact h3
      · rw [if_neg ht, List.getElem?_eq_none (by simp; omega)]
    rw [e]
    refine k59_mkM _ _ _ x (Kd.R_mono (Kd.R_bound h4) (fun k hk => ⟨hjl, hk.1, hk.2.1, h5 k hk.1.symm⟩))
  obtain ⟨f, hr⟩ := Kd.reps_tag (d := k59) (w := wr) (base := w.heap.size) (ok := fun k => w.heap.size ≤ k ∧ some k ≠ (Value.slice (some ⟨g, 0, none⟩) xs.length cap).ownBlock) (xs := xs) (inner := cur.toList.take (xs.length * 3))
    (fun j k => j < xs.length ∧ some k = (vs j).ownBlock ∧ w.heap.size ≤ k ∧ k ≠ g) (fun i j k h1 h2 => hap i j k h1.1 h2.1 h1.2.1.symm h2.2.1.symm) (fun j k h => ⟨h.2.2.1, fun he => h.2.2.2 (by simpa [Value.ownBlock] using he)⟩) hlen hrep
  refine ⟨⟨f, fun k hk => ?_, cur.toList.take (xs.length * 3), ⟨by rw [List.length_zipIdx]; exact hlen, .inr ⟨g, cap, cur, by rw [List.length_zipIdx], hg, hh, by rw [List.length_zipIdx]; exact hnc, hcm, hcs, by rw [List.length_zipIdx]; rfl⟩⟩, hr⟩, hb⟩
  simp [Value.ownBlock] at hk
  omega

theorem copied_nil (c : Nat) (w : World) : Calls Try.prog 24 #[.slice none 0 c] w fun e w' => e = .returned (.slice none 0 0) ∧ w' = w := by
  go_enter Try.func24, Try.ntmps24
  go_wp2_with (go_at_call 35; refine (clone35_nil 0 c _).mono ?_; rintro e w' ⟨rfl, hw⟩; subst w')
  go_loopg [8] 0 (fun g1 vi wr => vi = .int .i64 0 ∧ wr = w)
  case atStart => exact ⟨rfl, rfl⟩
  case round =>
    obtain ⟨rfl, rfl⟩ := hrel
    go_wp2
    go_ret
    exact ⟨rfl, rfl⟩

set_option maxHeartbeats 4000000 in
theorem copied_any (A : Option Addr) (c : Nat) (xs : List S59) (w : World) (h : Kd.C k59 w A xs.length xs) (hn : xs.length ≤ 1000000) (hu : ∀ (j : Nat) (x : S59), xs[j]? = some x → x.f2.length ≤ 1000000) :
    Calls Try.prog 24 #[.slice A xs.length c] w fun e w' => ∃ v, e = .returned v ∧ Kd.S k59 59 w' w.heap.size (fun k => w.heap.size ≤ k) v xs ∧ Below w.heap.size w w' := by
  cases A with
  | none =>
    have h0 : xs = [] := by
      cases xs with
      | nil => rfl
      | cons x r =>
        obtain ⟨ad, he, _⟩ := h.2.2 (by simp)
        cases he
    subst h0
    refine (copied_nil c w).mono ?_
    rintro e w' ⟨rfl, rfl⟩
    exact ⟨_, rfl, Kd.S_nil _ _ _ _ _, Below.refl _ _⟩
  | some ad =>
    have HL : Aside _ := h
    have HU : Aside _ := hu
    clear h hu
    obtain ⟨n, hnn⟩ : ∃ n, n = xs.length := ⟨_, rfl⟩
    have CL : Aside (∀ W, Kd.C k59 W (some ad) xs.length xs → Calls Try.prog 35 #[.slice (some ad) n c] W fun e w' => ∃ g cap cur, e = .returned (.slice (some ⟨g, 0, none⟩) n cap) ∧ W.heap.size ≤ g ∧ w'.heap[g]? = some (.cells cur 59 (0, 0)) ∧ xs.length ≤ cap ∧ cap ≤ maxLen ∧ cur.size = cap * 3 ∧
      Reps (k59.K W) 3 xs (cur.toList.take (xs.length * 3)) ∧ Below W.heap.size W w') := fun W hW => by rw [hnn]; exact cloneR_any ad c xs W hW (by omega)
    rw [← hnn] at hn ⊢
    have HN := Lib.hid hnn
    clear hnn
    go_enter Try.func24, Try.ntmps24
    go_wp2_with (go_at_call 35; refine (CL.out _ HL.out).mono ?_; rintro e w1 ⟨g, cap, cur, rfl, hg, hh, hnc, hcm, hcs, hr, hb⟩; have HC : Aside (Cp w w1 g cap xs 0) := cp_start hg hh hnc hcm hcs hr hb; clear hg hh hnc hcm hcs hr hb)
    go_loopg [8] n (fun g1 vi wr => ∃ i : Nat, vi = .int .i64 i ∧ i ≤ n ∧ n - i ≤ g1 ∧ Aside (Cp w wr g cap xs i))
    case atStart => exact ⟨0, rfl, by omega, by omega, HC⟩
    case round =>
      obtain ⟨i, rfl, hin, hg1, HI⟩ := hrel
      clear HC
      by_cases hlt : i < n
      · have hltz : (i : Int) < (n : Int) := by omega
        have hil : i < xs.length := by have := HN.out; omega
        obtain ⟨x, hx⟩ : ∃ x, xs[i]? = some x := ⟨_, List.getElem?_eq_getElem hil⟩
        obtain ⟨cur, vs, hh, hcs, hnc, hcm, hg, hbw, hj, hap⟩ := HI.out
        obtain ⟨_, _, _, h3⟩ := hj i x hx
        obtain ⟨A2, c2, h4, h5⟩ := h3 (by omega)
        have hcell : wr.cell? ⟨g, i * 3 + 2, none⟩ = some (.slice A2 x.f2.length c2) := (blk_cell hh _).trans h4
        have hfz := blk_frozen hh (i * 3 + 2)
        have CU : Aside (Calls Try.prog 36 #[.slice A2 x.f2.length c2] wr fun e w' => ∃ v, e = .returned v ∧ Kd.R k37 37 w' wr.heap.size (fun k => some k = v.ownBlock) v x.f2 ∧ Below wr.heap.size wr w') := cloneU_any A2 c2 x.f2 wr (Kd.C_below h5 hbw) (HU.out i x hx)
        have HX := Lib.hid hx
        have hgl : Aside (g < wr.heap.size) := blk_lt hh
        clear hh hcs hnc hcm hg hbw hj hap h3 h4 h5 hx
        go_wp2_with (go_at_call 36; refine CU.out.mono ?_; rintro e w2 ⟨v, rfl, hR, hb⟩; obtain ⟨Ao, co, rfl⟩ := Kd.R_slice hR; have HR : Aside _ := hR; have HB : Aside _ := hb; have hcell2 : w2.cell? ⟨g, i * 3 + 2, none⟩ = some (.slice A2 x.f2.length c2) := (hb.cell (p := ⟨g, i * 3 + 2, none⟩) hgl.out).trans hcell; have hfz2 : w2.frozen? ⟨g, i * 3 + 2, none⟩ = false := (hb.frozen (p := ⟨g, i * 3 + 2, none⟩) hgl.out).trans hfz; clear hR hb hcell hfz)
        go_roundg (n - (i + 1))
        case measure => omega
        case rel => exact ⟨i + 1, by go_num, by omega, by omega, cp_step HI.out HX.out HR.out HB.out⟩
      · obtain rfl : i = n := by omega
        have hltz : ¬ (i : Int) < (i : Int) := by omega
        go_wp2_with fail
        go_ret
        have := HI.out
        obtain ⟨h1, h2⟩ := cp_end (by have e := HN.out; rw [← e]; exact HI.out)
        exact ⟨_, rfl, by rw [HN.out]; exact h1, h2⟩

end Go.Proofs.Ytlodlblkmnhaeaa

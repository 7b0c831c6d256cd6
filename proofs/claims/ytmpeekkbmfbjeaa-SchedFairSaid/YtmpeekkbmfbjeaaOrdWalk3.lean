/- The walks of the stable sort of two stripes, and of health.Order at two stripes with bad units. -/
import Derived.Test.YtmpeekkbmfbjeaaOrdWalk2
import Derived.Deep.AppendLies
namespace Go.Proofs.Ytmpeekkbmfbjeaa
open Go.RowKit Go.Lib Go.Shelf Go.Sort Go.Proofs.Ytmpeekkbmfbjeaa.P Go.Proofs.YtmpeekkbmfbjeaaW.PrintWords Go.Proofs.YtmpeekkbmfbjeaaW.PrintLast Go.Proofs.YtmpeekkbmfbjeaaW.PrintMore

theorem grown_of_drawn {w w' : World} (h : RowKit.Below w.heap.size w w') (hd : w.drawn ≤ w'.drawn) : ∃ q os', w' = grow (w.drewN q) os' := by
  refine ⟨w'.drawn - w.drawn, w'.heap.extract w.heap.size w'.heap.size, ?_⟩
  obtain ⟨h1, t1, d1, o1, p1⟩ := w
  obtain ⟨h2, t2, d2, o2, p2⟩ := w'
  have e1 : t2 = t1 := h.tape
  have e2 : o2 = o1 := h.os
  have e3 : p2 = p1 := h.output
  subst e1 e2 e3
  have hs : h1.size ≤ h2.size := h.size
  have hb : ∀ k, k < h1.size → h2[k]? = h1[k]? := h.block
  have hd' : d1 ≤ d2 := hd
  have e4 : h2 = h1 ++ h2.extract h1.size h2.size := by
    apply Array.ext_getElem?
    intro k
    rw [Array.getElem?_append]
    by_cases c : k < h1.size
    · rw [if_pos c]; exact hb k c
    · rw [if_neg c]
      rw [Array.getElem?_extract]
      by_cases c2 : k < h2.size
      · rw [if_pos (by omega)]
        congr 1
        omega
      · rw [if_neg (by omega)]
        simp [c2]
  have e5 : d2 = d1 + (d2 - d1) := by omega
  show World.mk h2 _ d2 _ _ = World.mk (h1 ++ h2.extract h1.size h2.size) _ (d1 + (d2 - d1)) _ _
  rw [← e4, ← e5]
  rfl

theorem below_sortWorldK {B : Nat} {w : World} {blk m : Nat} {dk : Array S78} {os : Array Obj} (hB : B ≤ blk) (hs : B ≤ w.heap.size) : RowKit.Below B w (sortWorldK henc 4 w blk 0 m dk os) := by
  refine ⟨rfl, rfl, rfl, size_sortWorldK_c henc 4 w blk 0 m dk os, fun k hk => ?_⟩
  unfold sortWorldK
  rw [heap_grow_old _ _ (by rw [size_putRowK]; exact Nat.lt_of_lt_of_le hk hs)]
  unfold putRowK putRow mapBlock
  show ((Sort.ahead w m).heap.modify blk _)[k]? = _
  rw [Array.getElem?_modify, if_neg (by omega)]
  rfl

theorem cmpLaysH (blk bf n : Nat) (w : World) (hbf : bf < w.heap.size) (hne : bf ≠ blk) (hf : w.cell? ⟨bf, 0, none⟩ = some (.func (.func 55) #[] #[])) : CmpLays Try.prog 56 #[.pointer (some ⟨bf, 0, none⟩)] henc 4 hCmp blk 0 n w := by
  intro m os dk hs x y
  refine (cmpH_any x y bf _ ?_).mono ?_
  · unfold sortWorldK
    rw [cell?_grow _ _ _ (by rw [size_putRowK]; exact hbf)]
    unfold putRowK putRow mapBlock
    unfold World.cell? at hf ⊢
    show (match ((Sort.ahead w m).heap.modify blk _)[bf]? with | some (Obj.cells c _ _) => _ | _ => none) = _
    rw [Array.getElem?_modify, if_neg (by omega)]
    exact hf
  · rintro e w' ⟨rfl, hb, hd⟩
    exact ⟨rfl, grown_of_drawn hb hd⟩

theorem enters56 : ∀ args w, (callFunc 56 args).run Try.prog w = .ok (.enter 56 args) w := fun args w => enters_ Try.func56 (by kernel_rfl) rfl args w
theorem henc_len (x : S78) : (henc x).length = 4 := rfl
theorem henc_one (x : S78) : ∀ v ∈ henc x, v.oneCell' = true := by
  intro v hv
  unfold henc at hv
  simp only [List.mem_cons, List.not_mem_nil, or_false] at hv
  rcases hv with rfl | rfl | rfl | rfl <;> rfl

set_option maxHeartbeats 4000000 in
set_option maxRecDepth 1000000 in
theorem stableH_any (blk bf cap : Nat) (x y : S78) (w : World) (hH : HoldsK henc 4 w blk 0 #[x, y]) (hblk : blk < w.heap.size) (hbf : bf < w.heap.size) (hne : bf ≠ blk) (hf : w.cell? ⟨bf, 0, none⟩ = some (.func (.func 55) #[] #[])) :
    Calls Try.prog 54 #[.slice (some ⟨blk, 0, none⟩) 2 cap, .int .i64 2, .func (.func 56) #[] #[.pointer (some ⟨bf, 0, none⟩)]] w fun e w' =>
      e = .returned (.tuple #[]) ∧ ∃ n os, w' = sortWorldK henc 4 w blk 0 n (Sort.insertionSort (ltOf hCmp) #[x, y] 0 2) os := by
  have hI : Calls Try.prog 57 #[.slice (some ⟨blk, 0, none⟩) 2 cap, .int .i64 0, .int .i64 2, .func (.func 56) #[] #[.pointer (some ⟨bf, 0, none⟩)]] w fun e w' =>
      e = .returned (.tuple #[]) ∧ ∃ n os, w' = sortWorldK henc 4 w blk 0 n (Sort.insertionSort (ltOf hCmp) #[x, y] 0 2) os :=
    AnyQ.insertionSortCmpFunc Try.laysInsH 4 (fun w => Try.isAgg78 w) (fun w => Try.sizeOf78 w) henc henc_len henc_one hCmp 56 #[.pointer (some ⟨bf, 0, none⟩)] blk 0 cap 0 2 #[x, y] w enters56 (cmpLaysH blk bf 2 w hbf hne hf) hH hblk (by omega) (Nat.le_refl _) (by show 2 < 4611686018427387904; decide)
  have HI := Lib.hid hI
  clear hI hH hf
  go_enter Try.func54, Try.ntmps54
  go_wp2
  go_loopg [7, 8] 1 (fun g1 va vb wr => va = .int .i64 0 ∧ vb = .int .i64 20 ∧ Aside (wr = w))
  case atStart => exact ⟨rfl, rfl, rfl⟩
  case round =>
    obtain ⟨rfl, rfl, HW⟩ := hrel
    obtain rfl := HW.out
    clear HW
    go_wp2_with fail
    refine HI.out.mono ?_
    rintro e w1 ⟨rfl, h1⟩
    have H1 : Aside _ := h1
    clear HI h1
    go_wp2_with fail
    go_loopg [6] 1 (fun g1 va w2 => va = .int .i64 20 ∧ Aside (w2 = w1))
    case atStart => exact ⟨rfl, rfl⟩
    case round =>
      obtain ⟨rfl, HW⟩ := hrel
      obtain rfl := HW.out
      clear HW
      go_wp2_with fail
      go_end0
      exact ⟨rfl, H1.out⟩

set_option maxHeartbeats 4000000 in
theorem sortH_any (blk bf cap : Nat) (x y : S78) (w : World) (hH : HoldsK henc 4 w blk 0 #[x, y]) (hblk : blk < w.heap.size) (hbf : bf < w.heap.size) (hne : bf ≠ blk) (hf : w.cell? ⟨bf, 0, none⟩ = some (.func (.func 55) #[] #[])) :
    Calls Try.prog 50 #[.slice (some ⟨blk, 0, none⟩) 2 cap, .func (.func 56) #[] #[.pointer (some ⟨bf, 0, none⟩)]] w fun e w' =>
      e = .returned (.tuple #[]) ∧ ∃ n os, w' = sortWorldK henc 4 w blk 0 n (Sort.insertionSort (ltOf hCmp) #[x, y] 0 2) os := by
  have HI := Lib.hid (stableH_any blk bf cap x y w hH hblk hbf hne hf)
  clear hH hf
  go_enter Try.func50, Try.ntmps50
  go_wp2_with fail
  refine HI.out.mono ?_
  rintro e w1 ⟨rfl, h1⟩
  have H1 : Aside _ := h1
  clear HI h1
  go_wp2_with fail
  go_end0
  exact ⟨rfl, H1.out⟩

def ord2 (x y : S78) : List S78 := if hCmp y x < 0 then [y, x] else [x, y]
theorem ins2 (x y : S78) : Sort.insertionSort (ltOf hCmp) #[x, y] 0 2 = (ord2 x y).toArray := by
  unfold Sort.insertionSort ord2
  rw [insOuter, if_pos (by decide), insOuter, if_neg (by decide)]
  unfold insInner insInner ltOf swp
  by_cases h : hCmp y x < 0
  · simp [h]
  · simp [h]

theorem holds2 {w : World} {g : Nat} {cur : Array Value} (x y : S78) (h : w.heap[g]? = some (.cells cur 78 (0, 0))) (ht : cur.toList.take 8 = henc x ++ henc y) : HoldsK henc 4 w g 0 #[x, y] := by
  intro j hj
  have hj8 : j < 8 := by rw [size_flatK] at hj; exact hj
  have e : (flatK henc 4 #[x, y])[j]! = (henc x ++ henc y)[j]! := by
    rw [get_flatK _ _ _ _ (by show j < 2 * 4; omega)]
    rcases j with _ | _ | _ | _ | _ | _ | _ | _ | j
    all_goals first | rfl | omega
  rw [Nat.zero_add]
  refine ⟨?_, blk_frozen h j⟩
  rw [blk_cell h j, e]
  have h1 : cur.toList[j]? = (henc x ++ henc y)[j]? := by
    rw [← ht, List.getElem?_take, if_pos hj8]
  rw [← Array.getElem?_toList, h1]
  rcases j with _ | _ | _ | _ | _ | _ | _ | _ | j
  all_goals first | rfl | omega

theorem clone2 (b c : Nat) (x y : S78) (w : World) (hc : ∀ j u, (henc x ++ henc y)[j]? = some u → w.cell? ⟨b, 0 + j, none⟩ = some u) :
    Calls Try.prog 48 #[.slice (some ⟨b, 0, none⟩) 2 c] w fun e w' => ∃ g c', e = .returned (.slice (some ⟨g, 0, none⟩) 2 c') ∧ w.heap.size ≤ g ∧ g < w'.heap.size ∧ HoldsK henc 4 w' g 0 #[x, y] ∧ RowKit.Below w.heap.size w w' := by
  obtain ⟨i0, hi, hz0, hz1, hz2⟩ := info_parts info78
  refine (AnyE.slices_Clone Try.laysClH i0 _ 4 32 hi hz0 hz1 hz2 rfl (by decide) (fun w => Try.sizeOf78 w) b 0 2 c (henc x ++ henc y) w rfl (by unfold maxLen; omega) (by omega) hc ?_).mono ?_
  · intro u hu
    rw [List.mem_append] at hu
    rcases hu with hu | hu
    · exact henc_one _ u hu
    · exact henc_one _ u hu
  · rintro e w' ⟨v', rfl, ho, hne, hb⟩
    rcases ho.2 with ⟨_, h0⟩ | ⟨g, cap, cur, rfl, hg, hh, h1, h2, h3, h4⟩
    · omega
    · exact ⟨g, cap, rfl, hg, (by
        rcases Nat.lt_or_ge g w'.heap.size with hlt | hge
        · exact hlt
        · rw [Array.getElem?_eq_none hge] at hh; cases hh), holds2 x y hh h4, hb⟩

theorem field89 (p : Value) (W : World) : (Instr.field 89 (.agg #[.func (.func 56) #[] #[p]]) 0).run Try.prog W = .ok (.func (.func 56) #[] #[p]) W := by kernel_rfl

set_option maxHeartbeats 4000000 in
set_option maxRecDepth 1000000 in
theorem order2_any (b c : Nat) (x y : S78) (w : World) (hc : ∀ j u, (henc x ++ henc y)[j]? = some u → w.cell? ⟨b, 0 + j, none⟩ = some u) (hx : 0 < x.f2) (hy : 0 < y.f2) :
    Calls Try.prog 43 #[.slice (some ⟨b, 0, none⟩) 2 c] w fun e w' => ∃ g c', e = .returned (.slice (some ⟨g, 0, none⟩) 2 c') ∧ HoldsK henc 4 w' g 0 (ord2 x y).toArray ∧ RowKit.Below w.heap.size w w' := by
  have HC := Lib.hid (clone2 b c x y w hc)
  have HX := Lib.hid (And.intro hx hy)
  have hf89 := field89
  clear hc hx hy
  go_enter Try.func43, Try.ntmps43
  go_wp2_with fail
  refine HC.out.mono ?_
  rintro e w1 ⟨g, c1, rfl, hg, hlt, hH, hb1⟩
  have hD : Calls Try.prog 47 #[.slice (some ⟨g, 0, none⟩) 2 c1, .func (.func 49) #[] #[]] w1 fun e w' => e = .returned (.slice (some ⟨g, 0, none⟩) 2 c1) ∧ RowKit.Below w1.heap.size w1 w' := by
    refine delH_any g 0 c1 [x, y] w1 (by show 2 ≤ _; omega) hlt ?_ ?_
    · intro j hj i v hv
      have hj2 : j < 2 := hj
      have hv2 : (henc (#[x, y] : Array S78)[j]!)[i]? = some v := by
        rcases j with _ | _ | j
        · exact hv
        · exact hv
        · omega
      have := HoldsK.cells hH henc_len (i := j) hj2 i v hv2
      rw [Addr.add_lit] at this
      exact this
    · intro z hz
      simp only [List.mem_cons, List.not_mem_nil, or_false] at hz
      rcases hz with rfl | rfl
      · have := HX.out.1; simp; omega
      · have := HX.out.2; simp; omega
  have HD := Lib.hid hD
  have HH := Lib.hid hH
  have HB1 := Lib.hid hb1
  clear hD hH hb1 HC HX
  go_wp2_with fail
  refine HD.out.mono ?_
  rintro e w2 ⟨rfl, hb2⟩
  have HB2 := Lib.hid hb2
  clear HD hb2
  go_wp2_with fail
  refine (byLoss_any w2).mono ?_
  rintro e w3 ⟨bf, rfl, hbf, hcell, hb3⟩
  have hS : Calls Try.prog 50 #[.slice (some ⟨g, 0, none⟩) 2 c1, .func (.func 56) #[] #[.pointer (some ⟨bf, 0, none⟩)]] w3 fun e w' =>
      e = .returned (.tuple #[]) ∧ ∃ n os, w' = sortWorldK henc 4 w3 g 0 n (Sort.insertionSort (ltOf hCmp) #[x, y] 0 2) os := by
    have h2s := HB2.out.size
    have h3s := hb3.size
    refine sortH_any g bf c1 x y w3 ?_ (by omega) ?_ (by omega) ((blk_cell hcell 0).trans rfl)
    · intro j hj
      obtain ⟨q1, q2⟩ := HH.out j hj
      exact ⟨pw_cell_below hb3 (pw_cell_below HB2.out q1), (by
        have e2 := HB2.out.frozen (p := ⟨g, 0 + j, none⟩) hlt
        have e3 := hb3.frozen (p := ⟨g, 0 + j, none⟩) (Nat.lt_of_lt_of_le hlt h2s)
        rw [e3, e2]; exact q2)⟩
    · rcases Nat.lt_or_ge bf w3.heap.size with h | h
      · exact h
      · rw [Array.getElem?_eq_none h] at hcell; cases hcell
  have HS := Lib.hid hS
  have HB3 := Lib.hid hb3
  clear hS hb3 hcell
  go_wp2_with fail
  refine HS.out.mono ?_
  rintro e w4 ⟨rfl, n, os, rfl⟩
  have h1 := HB1.out
  have h2 := HB2.out
  have h3 := HB3.out
  have s1 := h1.size
  have s2 := h2.size
  have s3 := h3.size
  have hb4 : RowKit.Below w.heap.size w (sortWorldK henc 4 w3 g 0 n (Sort.insertionSort (ltOf hCmp) #[x, y] 0 2) os) :=
    ((h1.trans (h2.mono s1)).trans (h3.mono (by omega))).trans (below_sortWorldK hg (by omega))
  have hH3 : HoldsK henc 4 w3 g 0 #[x, y] := by
    intro j hj
    obtain ⟨q1, q2⟩ := HH.out j hj
    exact ⟨pw_cell_below h3 (pw_cell_below h2 q1), (by
      have e2 := h2.frozen (p := ⟨g, 0 + j, none⟩) hlt
      have e3 := h3.frozen (p := ⟨g, 0 + j, none⟩) (Nat.lt_of_lt_of_le hlt s2)
      rw [e3, e2]; exact q2)⟩
  have hH4 := holdsK_sortWorldK_c henc 4 w3 g 0 #[x, y] (Sort.insertionSort (ltOf hCmp) #[x, y] 0 2) n os hH3 (by omega) (by rw [ins2]; unfold ord2; split <;> rfl)
  rw [ins2] at hH4 hb4 ⊢
  have H4 := Lib.hid hH4
  have B4 := Lib.hid hb4
  clear hH4 hb4 hH3 HS HB1 HB2 HB3 HH h1 h2 h3
  generalize sortWorldK henc 4 w3 g 0 n (ord2 x y).toArray os = w5 at H4 B4 ⊢
  go_wp2_with fail
  go_ret
  exact ⟨g, c1, rfl, H4.out, B4.out⟩

end Go.Proofs.Ytmpeekkbmfbjeaa

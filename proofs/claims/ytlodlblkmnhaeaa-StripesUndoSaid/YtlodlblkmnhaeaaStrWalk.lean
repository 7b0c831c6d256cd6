/- The walk of stripes.Stripes: the used stripes of a code. -/
import Derived.Test.YtlodlblkmnhaeaaHeldWalk
import Derived.Test.YtlodlblkmnhaeaaInRound
import Derived.Maps.AppendAt
import Derived.Test.YtlodlblkmnhaeaaIdxWalk
namespace Go.Proofs.Ytlodlblkmnhaeaa
set_option linter.unusedVariables false
open Go.RowKit Go.Shelf Go.Proofs.Ytlodlblkmnhaeaa.P Go.Proofs.YtlodlblkmnhaeaaW.PrintWords Go.Proofs.YtlodlblkmnhaeaaW.PrintLast Go.Proofs.YtlodlblkmnhaeaaW.PrintMore
attribute [local go_sem] Oper.semAt_some

def senc (s : S29) : List Value := [.int .i64 s.f0, .int .i64 s.f1]
theorem info29 : (Try.prog.info? 29).map (fun i => (i.zero, i.size, i.bytes)) = some (some (.agg #[.int .i64 0, .int .i64 0]), 2, 16) := by kernel_rfl
theorem under51 : Try.prog.underlying 51 = some (.slice 29) := by kernel_rfl

/-- The stripes of row j. -/
def rowS (R : List RowA) (j : Nat) : List S29 := (rA R j).x.f2.map (fun u => ⟨(j : Int), u.f0⟩)
/-- The stripes of some rows. -/
def strsJ (R : List RowA) (js : List Nat) : List S29 := js.flatMap (rowS R)
theorem strsJ_snoc (R : List RowA) (js : List Nat) (j : Nat) : strsJ R (js ++ [j]) = strsJ R js ++ rowS R j := by simp [strsJ]
theorem strsJ_len (R : List RowA) (M : Nat) (js : List Nat) (h : ∀ j ∈ js, (rA R j).x.f2.length ≤ M) : (strsJ R js).length ≤ js.length * M := by
  induction js with
  | nil => simp [strsJ]
  | cons j r ih =>
    have h1 := ih (fun k hk => h k (List.mem_cons_of_mem _ hk))
    have h2 := h j List.mem_cons_self
    simp only [strsJ] at h1 ⊢
    rw [List.flatMap_cons, List.length_append, List.length_cons, Nat.succ_mul]
    simp only [rowS, List.length_map] at h1 ⊢
    omega
theorem rowS_take (R : List RowA) (j k : Nat) (h : k < (rA R j).x.f2.length) : (rowS R j).take (k + 1) = (rowS R j).take k ++ [⟨(j : Int), (rd_T37 (rA R j).x.f2 (k : Int)).f0⟩] := by
  have hk : k < (rowS R j).length := by simp [rowS]; exact h
  rw [List.take_succ_eq_append_getElem hk]
  congr 2
  simp [rowS, rd_T37, List.getD_eq_getElem?_getD, h]

/-- The numbers of some rows. -/
def idxJ {code : Int} {R : List RowA} {len : Nat} (pre : List (Jx code R len)) : List Nat := pre.map Subtype.val
theorem idxJ_snoc {code : Int} {R : List RowA} {len : Nat} (pre : List (Jx code R len)) (x : Jx code R len) : idxJ (pre ++ [x]) = idxJ pre ++ [x.1] := by simp [idxJ]
theorem idxJ_len {code : Int} {R : List RowA} {len : Nat} (pre : List (Jx code R len)) : (idxJ pre).length = pre.length := by simp [idxJ]

/-- The result box, while Stripes runs: it holds the list l. -/
def SBox (n₀ B : Nat) (W : World) (l : List S29) : Prop := ∃ v, Boxed W B 51 v ∧ W.ownsRow n₀ 29 2 v l.length (l.flatMap senc) ∧ True
theorem sbox_own {β : Type} (n₀ B : Nat) (f : β → List S29) : Own (fun s W => SBox n₀ B W (f s)) := holdsRow_own n₀ B 51 29 2 (fun s => (f s).length) (fun s => (f s).flatMap senc) (fun _ _ => True)

set_option maxRecDepth 100000 in
set_option maxHeartbeats 4000000 in
theorem str_in (A : Option Addr) (len cap : Nat) (code : Int) (R : List RowA) (w : World) (hR : RowsAt w.heap.size w A len R) (hM : len ≤ 1000) (hL : ∀ j, j < len → (rA R j).x.f2.length ≤ 1000 ∧ Kd.C k37 w (rA R j).A (rA R j).x.f2.length (rA R j).x.f2) :
    CallsIn Fence.wide 8 Try.prog 16 #[.slice A len cap, .int .i64 code] w fun e W' => (∃ v, e = .returned v ∧ W'.ownsRow w.heap.size 29 2 v (strsJ R (ofJ code R len)).length ((strsJ R (ofJ code R len)).flatMap senc)) ∧ Below w.heap.size w W' := by
  have hlen := hR.2.1
  have h23 : Fence.wide.fn 23 := trivial
  have h34 : Fence.wide.fn 34 := trivial
  refine callsIn_of_wp_marks Try.func16 rfl trivial ?_ rfl
  simp only [Try.ntmps16, List.size_toArray, List.length_cons, List.length_nil, Nat.reduceAdd, Nat.reduceSub, Array.replicate_succ, Array.replicate_zero, List.push_toArray, List.append_toArray, List.nil_append, List.cons_append]
  gi_wp2_with (gi_at_call 23; refine (of_in Fence.wide 7 trivial rfl _ _ _ _ _).mono ?_; rintro e w' ⟨rfl, rfl⟩)
  have bS := ((Boxed.new w 51 (.slice none 0 0)).alloc (.cells #[.slice A len cap] 25)).alloc (.cells #[.int .i64 code] 3)
  have bR := (Boxed.new (w.alloc (.cells #[.slice none 0 0] 51)) 25 (.slice A len cap)).alloc (.cells #[.int .i64 code] 3)
  have bC := Boxed.new ((w.alloc (.cells #[.slice none 0 0] 51)).alloc (.cells #[.slice A len cap] 25)) 3 (.int .i64 code)
  simp only [World.size_alloc] at bR bC
  have hB0 : Below w.heap.size w (((w.alloc (.cells #[.slice none 0 0] 51)).alloc (.cells #[.slice A len cap] 25)).alloc (.cells #[.int .i64 code] 3)) := (((Below.refl _ w).alloc (Nat.le_refl _) _).alloc (by simp) _).alloc (by simp; omega) _
  have hsz : (((w.alloc (.cells #[.slice none 0 0] 51)).alloc (.cells #[.slice A len cap] 25)).alloc (.cells #[.int .i64 code] 3)).heap.size = w.heap.size + 3 := by simp
  obtain ⟨W0, hW0⟩ : ∃ W0, ((w.alloc (.cells #[.slice none 0 0] 51)).alloc (.cells #[.slice A len cap] 25)).alloc (.cells #[.int .i64 code] 3) = W0 := ⟨_, rfl⟩
  rw [hW0] at bS bR bC hB0 hsz ⊢
  clear hW0
  have hR0 := hR.below hB0
  refine wpIn_rangeFunc_ownH rfl (by omega) (gf := 34) (lb := #[.pointer (some ⟨w.heap.size + 1, 0, none⟩), .pointer (some ⟨w.heap.size + 1 + 1, 0, none⟩)]) rfl h34 (enters_of Try.func34 (by kernel_rfl) rfl)
    (of_stops Fence.wide 7 h34 rfl (by omega) (w.heap.size + 1) (w.heap.size + 1 + 1) w.heap.size len cap A code R W0 (by omega) bR bC hR0) kq_t (kq_b (by omega) (by omega)) (Below.refl _ _) (fun _ => rfl)
    (fun pre W => SBox w.heap.size w.heap.size W (strsJ R (idxJ pre)) ∧ Below w.heap.size w W)
    (fun _ _ _ => False)
    (OwnFrom.and (Own.from (sbox_own _ _ _) _) (ownFrom_below (Nat.le_refl _) (by omega)))
    (fun _ _ _ _ _ hs _ _ => hs)
    ⟨⟨_, bS, World.ownsRow_nil _ _ _ _, trivial⟩, hB0⟩
    (fun x a' W => ∃ Bx, w.heap.size < Bx ∧ W.heap[Bx]? = some (.cells #[.int .i64 (rA R x.1).x.f0, .int .i64 (rA R x.1).x.f1, .slice (rA R x.1).A (rA R x.1).x.f2.length (rA R x.1).c] 59 (0, 0)) ∧ a' = { tmps := #[.slice A len cap, .int .i64 code, undef, undef, .pointer (some ⟨w.heap.size, 0, none⟩), .int .i64 (x.1 : Int), .pointer (some ⟨Bx, 0, none⟩), undef, undef, .slice A len cap, .int .i64 code, .func (.func 34) #[] #[.pointer (some ⟨w.heap.size + 1, 0, none⟩), .pointer (some ⟨w.heap.size + 1 + 1, 0, none⟩)], .int .i64 (x.1 : Int), (rA R x.1).val, undef, undef, undef, undef, undef, undef, undef, undef, undef, undef, undef, undef, undef, undef, undef, undef], defers := [] })
    (fun x a' _ X Y row hs hg hr => by
      obtain ⟨Bx, h1, h2, h3⟩ := hs
      refine ⟨Bx, h1, (hg.block Bx (Array.getElem?_eq_some_iff.1 h2).1 (fun e => ?_)).trans h2, h3⟩
      obtain ⟨_, o, ho, hc⟩ := hr Bx e.symm
      rw [h2] at ho
      cases ho
      cases hc)
    ?assign ?body ?done ?stop
  case assign =>
    rintro l pre x W K ⟨⟨v, hv, hr, _⟩, hB⟩ hK
    simp only [encO, zip2, RowA.val]
    gi_wp2
    exact hK _ _ ((KeepsOthers.alloc _ _).from _) ⟨(Below.refl _ W).alloc hB.size _, fun v hv => hv.alloc _⟩ ⟨⟨v, hv.alloc _, hr.alloc _, trivial⟩, hB.alloc hB.size _⟩ ⟨W.heap.size, hv.lt, World.alloc_heap_new W _, rfl⟩
  case body =>
    rintro l pre x a' W hl ⟨r, hr⟩ ⟨hSB, hB⟩ ⟨Bx, hBx, bX, rfl⟩ hlt
    obtain ⟨j, hjx⟩ : ∃ j, j = x.1 := ⟨_, rfl⟩
    have hj : j < len := by rw [hjx]; exact x.2.1
    obtain ⟨Ar, hAr⟩ : ∃ Ar, Ar = (rA R j).A := ⟨_, rfl⟩
    rw [← hjx, ← hAr] at bX
    obtain ⟨hM1, hC1⟩ := hL j hj
    rw [← hAr] at hC1
    have hpl : (strsJ R (idxJ pre)).length ≤ 1000 * 1000 := by
      have := strsJ_len R 1000 (idxJ pre) (fun k hk => by
        obtain ⟨y, _, rfl⟩ := List.mem_map.1 hk
        exact (hL y.1 y.2.1).1)
      rw [idxJ_len] at this
      have h2 : pre.length * 1000 ≤ 1000 * 1000 := Nat.mul_le_mul_right _ (by omega)
      omega
    obtain ⟨u, hu⟩ : ∃ u, u = (rA R j).x.f2 := ⟨_, rfl⟩
    obtain ⟨m, hm⟩ : ∃ m, m = u.length := ⟨_, rfl⟩
    have hrl : (rowS R j).length = m := by rw [hm, hu]; simp [rowS]
    rw [← hu] at bX hM1 hC1
    rw [← hm] at bX hM1
    have hX2 : W.cell? ⟨Bx, 2, none⟩ = some (.slice Ar m (rA R j).c) := (blk_cell bX 2).trans rfl
    have HM := Lib.hid hm
    have HU := Lib.hid hu
    have HRL := Lib.hid hrl
    have HC : Aside _ := hC1
    simp only [RowA.val, ← hjx, ← hu, ← hm, ← hAr]
    have HJX := Lib.hid hjx
    clear hm hu hrl bX hr hl hC1 hjx hAr
    gi_wp2
    gi_loopw [17] (fun i wr => ∃ k : Nat, k ≤ m ∧ i = .int .i64 k ∧ SBox w.heap.size w.heap.size wr (strsJ R (idxJ pre) ++ (rowS R j).take k) ∧ Below w.heap.size w wr ∧ KeepsOthers W wr ∧ Kq w.heap.size (w.heap.size + 1 + 1) W wr) (fun i _ => m - (intOf i).toNat)
    case atStart => exact ⟨0, Nat.zero_le _, rfl, by simpa using hSB, hB, KeepsOthers.refl _, Below.refl _ _, fun _ h => h⟩
    case round =>
      obtain ⟨k, hk, rfl, ⟨v, hv, hrow, _⟩, hBw, hKO, hKq⟩ := hrel
      by_cases hkm : k < m
      · have hkz : (k : Int) < (m : Int) := by omega
        have hku : k < u.length := by have := HM.out; omega
        obtain ⟨ad, rfl, hc0, hc1, hc2⟩ := at_T37 (show Kd.C k37 w Ar u.length u from HC.out) (k : Int) (by omega) (by omega)
        rw [Int.toNat_natCast] at hc0 hc1 hc2
        replace hc0 := (hBw.cell (block_lt_of_cell hc0)).trans hc0
        replace hc1 := (hBw.cell (block_lt_of_cell hc1)).trans hc1
        replace hc2 := (hBw.cell (block_lt_of_cell hc2)).trans hc2
        obtain ⟨y, hy⟩ : ∃ y, y = rd_T37 u (k : Int) := ⟨_, rfl⟩
        rw [← hy] at hc0 hc1 hc2
        obtain ⟨sl, hsl⟩ : ∃ sl, sl = strsJ R (idxJ pre) ++ (rowS R j).take k := ⟨_, rfl⟩
        rw [← hsl] at hrow
        have hsll : sl.length ≤ 1000 * 1000 + 1000 := by
          rw [hsl, List.length_append, List.length_take]; omega
        have hsn : strsJ R (idxJ pre) ++ (rowS R j).take (k + 1) = sl ++ [⟨(j : Int), y.f0⟩] := by
          rw [hsl, rowS_take R j k (by rw [← HU.out]; exact hku), ← List.append_assoc, ← HU.out, ← hy]
        have HSN := Lib.hid hsn
        have HSL := Lib.hid hsl
        have HY := Lib.hid hy
        obtain ⟨wu, hwu⟩ : ∃ wu, wu = wr.alloc (.cells #[.int .i64 y.f0, .int .i64 y.f1.f0, .int .i64 y.f1.f1] 37) := ⟨_, rfl⟩
        have hvu : Boxed wu w.heap.size 51 v := by rw [hwu]; exact hv.alloc _
        have hru := hrow.alloc (.cells #[.int .i64 y.f0, .int .i64 y.f1.f0, .int .i64 y.f1.f1] 37)
        rw [← hwu] at hru
        have hBu : Below w.heap.size w wu := by rw [hwu]; exact hBw.alloc hBw.size _
        have hKu : KeepsOthers W wu := by rw [hwu]; exact hKO.trans (KeepsOthers.alloc _ _)
        have hcu : wu.cell? ⟨wr.heap.size, 0, none⟩ = some (.int .i64 y.f0) := by rw [hwu, World.cell?_alloc_at (w := wr) _ _ wr.heap.size 0 rfl]; rfl
        have hKqu : Kq w.heap.size (w.heap.size + 1 + 1) W wu := by rw [hwu]; exact ⟨hKq.1.alloc hBw.size _, fun z hz => (hKq.2 z hz).alloc _⟩
        clear hsn hsl hy hBw hKO hKq hv hrow
        have hcb := hvu.cell
        have hfb := hvu.frozen
        obtain ⟨i0, hi0, hz0, hz1, hz2⟩ := info_parts info29
        have HVU : Aside _ := hvu
        have HRU : Aside _ := hru
        have HBU : Aside _ := hBu
        have HKU : Aside _ := hKu
        have HKQ : Aside _ := hKqu
        clear hvu hru hBu hKu hKqu
        subst hwu
        gi_wp2_with (gi_at_builtin; go_loud (refine wpListIn_append_own _ rfl _ _ 51 rfl w.heap.size 29 i0 _ 2 16 under51 hi0 hz0 hz1 hz2 rfl (by decide) v sl.length _ rfl (World.ownsRow.alloc HRU.out _) ⟨_, 0, none⟩ 1 1 (senc ⟨(j : Int), y.f0⟩) rfl rfl ?q1 ?q2 (by unfold maxLen; omega) (by omega) ?q3 ?_))
        case q1 =>
          intro i2 x2 hx2
          rw [add_plain]
          exact (World.cell?_alloc_at (w := wr.alloc (.cells #[.int .i64 y.f0, .int .i64 y.f1.f0, .int .i64 y.f1.f1] 37)) #[.int .i64 (j : Int), .int .i64 y.f0] 29 (wr.heap.size + 1) i2 (by simp)).trans (by simpa [senc] using hx2)
        case q2 => intro x2 hx2; simp [senc] at hx2; rcases hx2 with rfl | rfl <;> rfl
        case q3 => have := HBU.out.size; simp at this ⊢; omega
        intro v' w1 hown' hgrow _
        obtain ⟨g', cap', rfl⟩ := ownsRow_succ hown'
        obtain ⟨hv1, hv2, hr2, hk2, hb2⟩ := Boxed.appended HVU.out (by decide) HRU.out HBU.out.size (Nat.le_refl _) hown' hgrow
        have hc1 := hv1.cell
        have hf1 := hv1.frozen
        have HV2 : Aside _ := hv2
        have HR2 : Aside _ := hr2
        have HK2 : Aside _ := hk2
        have HB2 : Aside _ := hb2
        have hq2 : ∀ z, Boxed (wr.alloc (.cells #[.int .i64 y.f0, .int .i64 y.f1.f0, .int .i64 y.f1.f1] 37)) (w.heap.size + 1 + 1) 3 z → Boxed (w1.setCell ⟨w.heap.size, 0, none⟩ (.slice (some ⟨g', 0, none⟩) (sl.length + 1) cap')) (w.heap.size + 1 + 1) 3 z := fun z hz =>
          (((hz.alloc _).kept hgrow ((hz.alloc _).not_row (by decide) (World.ownsRow.alloc HRU.out (.cells #[.int .i64 (j : Int), .int .i64 y.f0] 29))))).other (by omega) _
        have HQ2 : Aside _ := hq2
        clear hv1 hv2 hr2 hk2 hb2 hown' hgrow hq2
        gi_wp2
        go_roundw
        case rel =>
          refine ⟨k + 1, by omega, by simp, ?_, HBU.out.trans HB2.out, HKU.out.trans HK2.out, HKQ.out.1.trans HB2.out, fun z hz => HQ2.out z (HKQ.out.2 z hz)⟩
          rw [HSN.out]
          refine ⟨_, HV2.out, ?_, trivial⟩
          have e : (sl ++ [(⟨(j : Int), y.f0⟩ : S29)]).flatMap senc = sl.flatMap senc ++ senc ⟨(j : Int), y.f0⟩ := by simp
          rw [e, List.length_append, List.length_singleton]
          exact HR2.out
        case measure => simp [intOf]; omega
      · obtain rfl : k = m := by omega
        have hkz : ¬ (k : Int) < (k : Int) := by omega
        have hfin : SBox w.heap.size w.heap.size wr (strsJ R (idxJ (pre ++ [x]))) := by
          rw [idxJ_snoc, strsJ_snoc, ← HJX.out]
          have e : (rowS R j).take k = rowS R j := List.take_of_length_le (by rw [HRL.out]; exact Nat.le_refl _)
          rw [e] at hrow
          exact ⟨v, hv, hrow, trivial⟩
        have HF : Aside _ := hfin
        clear hfin hrow hv
        gi_wp2
        exact ⟨hKO.from _, hKq, HF.out, hBw⟩
  case done =>
    rintro D ys W hD hys ⟨⟨v, hv, hrow, _⟩, hB⟩ hK
    have cS := hv.cell
    have fS := hv.frozen
    have hys' : idxJ ys = ofJ code R len := hys
    rw [hys'] at hrow
    clear hys hys'
    obtain ⟨Av, cv, rfl⟩ := own_slice hrow
    have HV : Aside _ := hv
    have HRW : Aside _ := hrow
    clear hv hrow
    gi_wp2
    have hK' : (W.setCell ⟨w.heap.size, 0, none⟩ (.slice Av (strsJ R (ofJ code R len)).length cv)).heap[D]? = some (.deferred (some [])) := by
      rw [Below.heap_setCell _ _ _ _ (by show D ≠ w.heap.size; omega)]; exact hK
    refine ⟨by simp, .inl ⟨_, _, rfl, run_takeDeferred hK', ?_⟩⟩
    have hbox := Boxed.set (.slice Av (strsJ R (ofJ code R len)).length cv) HV.out
    have hcell := cell_kept hbox.cell (grownBy_putObj' _ D (.deferred none)) (fun r e => by cases e; exact ⟨_, hK', rfl⟩)
    have hrw : (W.setCell ⟨w.heap.size, 0, none⟩ (.slice Av (strsJ R (ofJ code R len)).length cv)).ownsRow w.heap.size 29 2 (.slice Av (strsJ R (ofJ code R len)).length cv) (strsJ R (ofJ code R len)).length ((strsJ R (ofJ code R len)).flatMap senc) :=
      World.ownsRow.kept HRW.out (grownBy_setCell' W w.heap.size _) (.inr (Boxed.not_row HV.out (by decide) HRW.out).symm)
    exact ⟨_, by simp [results, Try.results16, go_sem, hcell], ⟨_, rfl, ownsRow_putObj hrw _ hK' rfl⟩, (hB.setCell (p := ⟨w.heap.size, 0, none⟩) (Nat.le_refl _) _).trans (belowK_b (w := w) (Nat.le_refl _) _ D _ _ (by omega) hK' rfl rfl)⟩
  case stop =>
    rintro D c pre W _ _ h _
    exact h.elim


/-- The numbers of the rows of a code. -/
def rowsOf (code : Int) (l : List S59) : List Nat := (List.range l.length).filter (fun j : Nat => decide ((rd_T59 l (j : Int)).f0 = code))
/-- The used stripes of row j. -/
def rowStr (l : List S59) (j : Nat) : List S29 := (rd_T59 l (j : Int)).f2.map (fun u => ⟨(j : Int), u.f0⟩)
/-- The used stripes of a code. -/
def strs (code : Int) (l : List S59) : List S29 := (rowsOf code l).flatMap (rowStr l)

theorem rA_x {R : List RowA} {l : List S59} (h : R.map RowA.x = l) (j : Nat) : (rA R j).x = rd_T59 l (j : Int) := by
  subst h
  unfold rA rd_T59
  rw [List.getD_eq_getElem?_getD, List.getD_eq_getElem?_getD, Int.toNat_natCast, List.getElem?_map]
  cases R[j]? <;> rfl
theorem ofJ_eq {code : Int} {R : List RowA} {l : List S59} (h : R.map RowA.x = l) : ∀ k, ofJ code R k = (List.range k).filter (fun j : Nat => decide ((rd_T59 l (j : Int)).f0 = code))
  | 0 => rfl
  | k + 1 => by
    rw [ofJ, ofJ_eq h k, List.range_succ, List.filter_append, rA_x h k]
    congr 1
    by_cases e : (rd_T59 l (k : Int)).f0 = code <;> simp [e]
theorem strsJ_eq {R : List RowA} {l : List S59} (h : R.map RowA.x = l) (js : List Nat) : strsJ R js = js.flatMap (rowStr l) := by
  unfold strsJ
  congr 1
  funext j
  unfold rowS rowStr
  rw [rA_x h j]

theorem stripes_any (A : Option Addr) (c : Nat) (l : List S59) (code : Int) (w : World) (hl : Kd.C k59 w A l.length l) (hb : bnd l = true) :
    Calls Try.prog 16 #[.slice A l.length c, .int .i64 code] w fun e w' => ∃ v, e = .returned v ∧ Kd.R k29 29 w' w.heap.size (fun k => w.heap.size ≤ k) v (strs code l) ∧ Below w.heap.size w w' := by
  obtain ⟨R, hm, hR, hL⟩ := rowsAt_of hl (by have := bnd_len hb; omega)
  refine ((callsIn_wide (n := 8)).1 (str_in A l.length c code R w hR (bnd_len hb) (fun j hj => ⟨by rw [rA_x hm j]; exact bnd_rd hb _, (hL j hj).2⟩))).mono ?_
  rintro e w' ⟨⟨v, rfl, hown⟩, hB⟩
  refine ⟨v, rfl, ?_, hB⟩
  rw [strsJ_eq hm, ofJ_eq hm] at hown
  have hrep : ∀ (xs : List S29) (W : World) (base : Nat) (ok : Nat → Prop), Reps (k29.M W base ok) 2 xs (xs.flatMap senc) := fun xs W base ok => by
    induction xs with
    | nil => exact Reps.none _ _
    | cons x r ih => exact Reps.c2 (k29_mkM W base ok x) ih
  exact ⟨fun k hk => own_base hown k hk, _, hown, hrep _ _ _ _⟩

theorem held_le (code : Int) (l : List S59) : (rowsOf code l).length ≤ l.length := by
  have := List.length_filter_le (fun j : Nat => decide ((rd_T59 l (j : Int)).f0 = code)) (List.range l.length)
  rwa [List.length_range] at this
theorem held_of (A : Option Addr) (c : Nat) (l : List S59) (code : Int) (w : World) (hl : Kd.C k59 w A l.length l) (hb : bnd l = true) :
    Calls Try.prog 17 #[.slice A l.length c, .int .i64 code] w fun e w' => e = .returned (.int .i64 ((rowsOf code l).length : Int)) ∧ Below w.heap.size w w' := by
  obtain ⟨R, hm, h⟩ := held_any A c l code w hl (by have := bnd_len hb; omega)
  rw [ofJ_eq hm] at h
  exact h
end Go.Proofs.Ytlodlblkmnhaeaa
namespace Go.Proofs.Ytlodlblkmnhaeaa.P
open Go.RowKit Go.Proofs.YtlodlblkmnhaeaaW.PrintWords

def stripes_Stripes.f (l0 : List S59) (a1 : Int) : Option (List S29) := if bnd l0 = true then some (strs a1 l0) else none
theorem stripes_Stripes.calls (A0 : Option Addr) (c0 : Nat) (l0 : List S59) (a1 : Int) (r : List S29) (w : World) (hr0 : Kd.C k59 w A0 l0.length l0) (_hc0 : l0.length ≤ c0) (h : stripes_Stripes.f l0 a1 = some r) :
    Calls Try.prog 16 #[.slice A0 l0.length c0, .int .i64 a1] w fun e w' => ∃ v0_ : Value, e = .returned (v0_) ∧ Kd.R k29 29 w' w.heap.size (fun k_ => (w.heap.size ≤ k_)) v0_ r ∧ Below w.heap.size w w' := by
  unfold stripes_Stripes.f at h
  by_cases hb : bnd l0 = true
  · rw [if_pos hb] at h
    obtain rfl := Option.some.inj h
    exact stripes_any A0 c0 l0 a1 w hr0 hb
  · rw [if_neg hb] at h
    cases h

def stripes_Held.f (l0 : List S59) (a1 : Int) : Option Int := if bnd l0 = true then some ((rowsOf a1 l0).length : Int) else none
theorem stripes_Held.calls (A0 : Option Addr) (c0 : Nat) (l0 : List S59) (a1 : Int) (r : Int) (w : World) (hr0 : Kd.C k59 w A0 l0.length l0) (_hc0 : l0.length ≤ c0) (h : stripes_Held.f l0 a1 = some r) :
    Calls Try.prog 17 #[.slice A0 l0.length c0, .int .i64 a1] w fun e w' => e = .returned (.int .i64 r) ∧ Below w.heap.size w w' := by
  unfold stripes_Held.f at h
  by_cases hb : bnd l0 = true
  · rw [if_pos hb] at h
    obtain rfl := Option.some.inj h
    exact held_of A0 c0 l0 a1 w hr0 hb
  · rw [if_neg hb] at h
    cases h
end Go.Proofs.Ytlodlblkmnhaeaa.P

/- The plain side of the Stripes laws: a valid list of rows, and what play leaves. -/
import Derived.Test.YtlodlblkmnhaeaaPx6
namespace Go.Proofs.Ytlodlblkmnhaeaa
set_option linter.unusedVariables false
set_option linter.unusedSimpArgs false
open Go.RowKit Go.Lib Go.Proofs.Ytlodlblkmnhaeaa.P Go.Proofs.YtlodlblkmnhaeaaW.PrintWords

/-- The used stripes of a row with G groups. -/
def okU (G : Int) (u : List S37) : Prop := u.Pairwise (fun a b => a.f0 < b.f0) ∧ ∀ y ∈ u, 0 ≤ y.f0 ∧ y.f0 < G
def okRow (G : Int → Int) (x : S59) : Prop := (x.f0 = -1 ∧ x.f1 = 0 ∧ x.f2 = []) ∨ (0 ≤ x.f0 ∧ x.f0 < 8 ∧ 1 ≤ x.f1 ∧ x.f1 ≤ 32 ∧ x.f2 ≠ [] ∧ okU (G x.f1) x.f2)
def okRows (G : Int → Int) (l : List S59) : Prop := (∀ x ∈ l, okRow G x) ∧ ∀ x ∈ l, ∀ y ∈ l, x.f0 = y.f0 → x.f1 = y.f1

theorem sorted_len : ∀ (u : List S37) (i G : Int), u.Pairwise (fun a b => a.f0 < b.f0) → (∀ y ∈ u, i ≤ y.f0 ∧ y.f0 < G) → i ≤ G → (u.length : Int) ≤ G - i
  | [], i, G, _, _, h => by simp; omega
  | x :: r, i, G, hp, hb, h => by
    obtain ⟨h1, h2⟩ := List.pairwise_cons.1 hp
    have hx := hb x (List.mem_cons_self ..)
    have := sorted_len r (x.f0 + 1) G h2 (fun y hy => by have := h1 y hy; have := hb y (List.mem_cons_of_mem _ hy); omega) (by omega)
    rw [List.length_cons]
    omega
theorem okU_len {G : Int} {u : List S37} (h : okU G u) (hG : 0 ≤ G) : (u.length : Int) ≤ G := by
  have := sorted_len u 0 G h.1 h.2 hG
  omega
theorem gapL_spec : ∀ (u : List S37) (i : Nat), u.Pairwise (fun a b => a.f0 < b.f0) → (∀ y ∈ u, (i : Int) ≤ y.f0) →
    (∀ y ∈ u.take (gapL u i - i), y.f0 < (gapL u i : Int)) ∧ ∀ y ∈ u.drop (gapL u i - i), (gapL u i : Int) < y.f0
  | [], i, _, _ => by simp
  | x :: r, i, hp, hb => by
    obtain ⟨h1, h2⟩ := List.pairwise_cons.1 hp
    have hx := hb x (List.mem_cons_self ..)
    rw [gapL]
    by_cases e : x.f0 = (i : Int)
    · rw [if_pos e]
      obtain ⟨h3, h4⟩ := gapL_spec r (i + 1) h2 (fun y hy => by have := h1 y hy; omega)
      have hle := (gapL_le r (i + 1)).1
      have e2 : gapL r (i + 1) - i = (gapL r (i + 1) - (i + 1)) + 1 := by omega
      rw [e2]
      refine ⟨fun y hy => ?_, fun y hy => ?_⟩
      · rw [List.take_succ_cons] at hy
        rcases List.mem_cons.1 hy with rfl | hy
        · omega
        · exact h3 y hy
      · rw [List.drop_succ_cons] at hy
        exact h4 y hy
    · rw [if_neg e]
      refine ⟨fun y hy => by simp at hy, fun y hy => ?_⟩
      rw [Nat.sub_self, List.drop_zero] at hy
      rcases List.mem_cons.1 hy with rfl | hy
      · omega
      · have := h1 y hy; omega

/-- A stripe put in at the gap. -/
theorem okU_ins {G : Int} {u : List S37} (h : okU G u) (hl : (u.length : Int) < G) (z : S27) : okU G (insAt u (gap0 u) ⟨(gap0 u : Int), z⟩) := by
  obtain ⟨hp, hb⟩ := h
  obtain ⟨h1, h2⟩ := gapL_spec u 0 hp (fun y hy => by have := hb y hy; omega)
  rw [Nat.sub_zero] at h1 h2
  have hgl := gap0_le u
  refine ⟨?_, fun y hy => ?_⟩
  · unfold insAt
    rw [List.append_assoc, List.pairwise_append, List.pairwise_append]
    refine ⟨hp.sublist (List.take_sublist ..), ⟨List.pairwise_singleton .., hp.sublist (List.drop_sublist ..), fun a ha b hb2 => ?_⟩, fun a ha b hb2 => ?_⟩
    · rw [List.mem_singleton.1 ha]
      exact h2 b hb2
    · have h3 := h1 a ha
      rcases List.mem_append.1 hb2 with hb2 | hb2
      · rw [List.mem_singleton.1 hb2]
        exact h3
      · have := h2 b hb2
        show a.f0 < b.f0
        omega
  · unfold insAt at hy
    rcases List.mem_append.1 hy with hy | hy
    · rcases List.mem_append.1 hy with hy | hy
      · exact hb y (List.mem_of_mem_take hy)
      · rw [List.mem_singleton.1 hy]
        show 0 ≤ (gap0 u : Int) ∧ (gap0 u : Int) < G
        omega
    · exact hb y (List.mem_of_mem_drop hy)
theorem ins_ne {u : List S37} {i : Nat} {z : S37} : insAt u i z ≠ [] := by unfold insAt; simp
theorem okU_cut {G : Int} {u : List S37} (h : okU G u) (k : Nat) : okU G (u.eraseIdx k) :=
  ⟨h.1.sublist (List.eraseIdx_sublist ..), fun y hy => h.2 y (List.mem_of_mem_eraseIdx hy)⟩

theorem rd_mem {l : List S59} {j : Nat} (h : j < l.length) : rd_T59 l (j : Int) ∈ l := by
  have e : rd_T59 l (j : Int) = l[j] := by simp [rd_T59, List.getD_eq_getElem?_getD, h]
  rw [e]; exact List.getElem_mem h

/-- A row is replaced: valid where the new row is right, and agrees in width with the others of its code. -/
theorem okRows_set {G : Int → Int} {l : List S59} {j : Nat} {x : S59} (h : okRows G l) (hx : okRow G x) (hw : ∀ y ∈ l, y.f0 = x.f0 → y.f1 = x.f1) : okRows G (l.set j x) := by
  refine ⟨fun y hy => ?_, fun y hy z hz e => ?_⟩
  · rcases List.mem_or_eq_of_mem_set hy with hy | rfl
    · exact h.1 y hy
    · exact hx
  · rcases List.mem_or_eq_of_mem_set hy with hy2 | hy2
    · rcases List.mem_or_eq_of_mem_set hz with hz2 | hz2
      · exact h.2 y hy2 z hz2 e
      · rw [hz2] at e ⊢; exact hw y hy2 e
    · rcases List.mem_or_eq_of_mem_set hz with hz2 | hz2
      · rw [hy2] at e ⊢; exact (hw z hz2 e.symm).symm
      · rw [hy2, hz2]

theorem free_ok (G : Int → Int) : okRow G ⟨-1, 0, []⟩ := .inl ⟨rfl, rfl, rfl⟩
/-- The free rows have width 0. -/
theorem free_width {G : Int → Int} {l : List S59} (h : okRows G l) {y : S59} (hy : y ∈ l) (e : y.f0 = -1) : y.f1 = 0 := by
  rcases h.1 y hy with h1 | h1
  · exact h1.2.1
  · omega

theorem cut_ok {G : Int → Int} {l : List S59} (h : okRows G l) {j k : Nat} (hj : j < l.length) (hk : k < (rd_T59 l (j : Int)).f2.length) : okRows G (l.set j (cutRow (rd_T59 l (j : Int)) k)) := by
  have hm := rd_mem hj
  generalize rd_T59 l (j : Int) = x at hm hk ⊢
  unfold cutRow
  by_cases h1 : x.f2.length = 1
  · rw [if_pos h1]
    exact okRows_set h (free_ok G) (fun y hy e => free_width h hy e)
  · rw [if_neg h1]
    refine okRows_set h ?_ (fun y hy e => h.2 y hy x hm e)
    rcases h.1 x hm with h2 | h2
    · rw [h2.2.2] at hk; simp at hk
    · refine .inr ⟨h2.1, h2.2.1, h2.2.2.1, h2.2.2.2.1, ?_, okU_cut h2.2.2.2.2.2 k⟩
      intro e
      have := congrArg List.length e
      simp [List.length_eraseIdx, hk] at this
      omega

theorem put_ok {G : Int → Int} {l : List S59} (h : okRows G l) (hG : ∀ wd, 0 ≤ G wd) {code wd ge gc : Int} (hc : 0 ≤ code) {j : Nat} (hw : widthsOk l code wd = true) (hr : roomAt l code (G wd) = some j) : okRows G (putRow l j ge gc) := by
  have hmem := List.mem_of_find?_eq_some hr
  have hne := List.find?_some hr
  obtain ⟨hjl, hjc⟩ := mem_rowsOf.1 hmem
  have hwd : (rd_T59 l (j : Int)).f1 = wd := by
    unfold widthsOk at hw
    have := List.all_eq_true.1 hw j hmem
    simpa using this
  have hm := rd_mem hjl
  unfold putRow
  generalize rd_T59 l (j : Int) = x at hm hjc hwd hne ⊢
  refine okRows_set h ?_ (fun y hy e => h.2 y hy x hm e)
  rcases h.1 x hm with h2 | h2
  · omega
  · refine .inr ⟨h2.1, h2.2.1, h2.2.2.1, h2.2.2.2.1, ins_ne, okU_ins h2.2.2.2.2.2 ?_ _⟩
    have h3 := okU_len h2.2.2.2.2.2 (hG _)
    rw [hwd] at h3 ⊢
    have h4 : ¬ (x.f2.length : Int) = G wd := by simpa using hne
    omega
theorem newrow_ok {G : Int → Int} {l : List S59} (h : okRows G l) {code wd ge gc : Int} (hc0 : 0 ≤ code) (hc1 : code < 8) (hw0 : 1 ≤ wd) (hw1 : wd ≤ 32) (hg : 0 < G wd) {j : Nat} (hw : widthsOk l code wd = true) : okRows G (l.set j ⟨code, wd, [⟨0, ⟨ge, gc⟩⟩]⟩) := by
  refine okRows_set h (.inr ⟨hc0, hc1, hw0, hw1, by simp, by simp, fun y hy => ?_⟩) (fun y hy e => ?_)
  · rw [List.mem_singleton.1 hy]
    exact ⟨Int.le_refl _, hg⟩
  · obtain ⟨i, hi⟩ := List.mem_iff_getElem?.1 hy
    have hil : i < l.length := (List.getElem?_eq_some_iff.1 hi).1
    have e2 : rd_T59 l (i : Int) = y := by simp [rd_T59, List.getD_eq_getElem?_getD, hi]
    unfold widthsOk at hw
    have := List.all_eq_true.1 hw i (mem_rowsOf.2 ⟨hil, by rw [e2]; exact e⟩)
    rw [e2] at this
    simpa using this

/-- Allocate keeps a valid list valid. -/
theorem alloc_ok (a0 a1 a2 a3 a4 a5 : Int) {l : List S59} (h : okRows (grpO a0 a1 a2 a3 a4 a5) l) (code wd ge gc : Int) (he : (allocO a0 a1 a2 a3 a4 a5 l code wd ge gc).2.2.2 = 0) :
    okRows (grpO a0 a1 a2 a3 a4 a5) (allocO a0 a1 a2 a3 a4 a5 l code wd ge gc).1 ∧ (allocO a0 a1 a2 a3 a4 a5 l code wd ge gc).1.length = l.length := by
  unfold allocO at he ⊢
  by_cases hb : badO a0 a1 a2 a3 a4 a5 code wd = true
  · rw [if_pos hb] at he; exact absurd he (by decide)
  · rw [if_neg hb] at he ⊢
    by_cases hw : widthsOk l code wd = false
    · rw [if_pos hw] at he; exact absurd he (by decide)
    · rw [if_neg hw] at he ⊢
      have hw2 : widthsOk l code wd = true := by simpa using hw
      have hb2 := hb
      unfold badO at hb2
      simp only [Bool.or_eq_true, decide_eq_true_eq, beq_iff_eq, not_or] at hb2
      obtain ⟨⟨⟨⟨h0, h1⟩, h2⟩, h3⟩, h5⟩ := hb2
      have hg := fun wd => (grp_bounds a0 a1 a2 a3 a4 a5 wd).1
      cases hr : roomAt l code (grpO a0 a1 a2 a3 a4 a5 wd) with
      | some j => exact ⟨put_ok h hg (by omega) hw2 hr, by simp [putRow]⟩
      | none =>
        rw [hr] at he
        cases hf : freeAt l with
        | some j => exact ⟨newrow_ok h (by omega) (by omega) (by omega) (by omega) (by have := hg wd; omega) hw2, by simp⟩
        | none => rw [hf] at he; simp at he

/-- A stripe among those of a code is found. -/
theorem idxU_mem {y : Int} : ∀ (u : List S37) (i : Nat), (∃ z ∈ u, z.f0 = y) → 0 ≤ idxU y u i
  | [], _, h => by obtain ⟨z, hz, _⟩ := h; cases hz
  | x :: r, i, h => by
    rw [idxU]
    by_cases e : x.f0 = y
    · rw [if_pos e]; omega
    · rw [if_neg e]
      obtain ⟨z, hz, hy⟩ := h
      rcases List.mem_cons.1 hz with rfl | hz
      · exact absurd hy e
      · exact idxU_mem r (i + 1) ⟨z, hz, hy⟩
theorem strs_mem {l : List S59} {code : Int} {s : S29} (h : s ∈ strs code l) : ∃ j : Nat, s.f0 = (j : Int) ∧ j < l.length ∧ (rd_T59 l (j : Int)).f0 = code ∧ ∃ z ∈ (rd_T59 l (j : Int)).f2, z.f0 = s.f1 := by
  unfold strs at h
  obtain ⟨j, hj, hs⟩ := List.mem_flatMap.1 h
  obtain ⟨hjl, hjc⟩ := mem_rowsOf.1 hj
  obtain ⟨z, hz, rfl⟩ := List.mem_map.1 hs
  exact ⟨j, rfl, hjl, hjc, z, hz, rfl⟩
theorem idxS_mem {l : List S59} {code : Int} {s : S29} (h : s ∈ strs code l) : 0 ≤ idxS l s.f0 s.f1 := by
  obtain ⟨j, e, hj, _, hz⟩ := strs_mem h
  unfold idxS
  rw [e, if_neg (by omega), if_neg (by omega)]
  exact idxU_mem _ _ hz
theorem rel_ok {G : Int → Int} {l : List S59} (h : okRows G l) {code : Int} {s : S29} (hs : s ∈ strs code l) : (relO l s.f0 s.f1).2 = 0 ∧ okRows G (relO l s.f0 s.f1).1 ∧ (relO l s.f0 s.f1).1.length = l.length := by
  have h0 := idxS_mem hs
  obtain ⟨j, k, hj, hjl, hk, e, _⟩ := idxS_cases l s.f0 s.f1 (by omega)
  unfold relO
  rw [if_neg (by omega)]
  refine ⟨rfl, ?_, by simp⟩
  rw [hj] at e hk
  rw [hj, e, Int.toNat_natCast, Int.toNat_natCast]
  exact cut_ok h hjl hk

/-- What play leaves. -/
def playO (a0 a1 a2 a3 a4 a5 : Int) (l : List S59) (o : S48) : List S59 :=
  if o.f0 = true then
    if o.f3 < 0 ∨ o.f3 ≥ ((strs o.f1 l).length : Int) then l
    else (relO l (rd_T29 (strs o.f1 l) o.f3).f0 (rd_T29 (strs o.f1 l) o.f3).f1).1
  else if (allocO a0 a1 a2 a3 a4 a5 l o.f1 o.f2 o.f4.f0 o.f4.f1).2.2.2 = 0 then (allocO a0 a1 a2 a3 a4 a5 l o.f1 o.f2 o.f4.f0 o.f4.f1).1 else l
theorem rd29_mem {l : List S29} {i : Int} (h0 : 0 ≤ i) (h1 : i < (l.length : Int)) : rd_T29 l i ∈ l := by
  have hj : i.toNat < l.length := by omega
  have e : rd_T29 l i = l[i.toNat] := by simp [rd_T29, List.getD_eq_getElem?_getD, hj]
  rw [e]; exact List.getElem_mem hj
theorem play_ok (a0 a1 a2 a3 a4 a5 : Int) {l : List S59} (h : okRows (grpO a0 a1 a2 a3 a4 a5) l) (o : S48) : okRows (grpO a0 a1 a2 a3 a4 a5) (playO a0 a1 a2 a3 a4 a5 l o) ∧ (playO a0 a1 a2 a3 a4 a5 l o).length = l.length := by
  unfold playO
  by_cases h0 : o.f0 = true
  · rw [if_pos h0]
    by_cases h1 : o.f3 < 0 ∨ o.f3 ≥ ((strs o.f1 l).length : Int)
    · rw [if_pos h1]; exact ⟨h, rfl⟩
    · rw [if_neg h1]
      exact (rel_ok h (rd29_mem (by omega) (by omega))).2
  · rw [if_neg h0]
    by_cases h1 : (allocO a0 a1 a2 a3 a4 a5 l o.f1 o.f2 o.f4.f0 o.f4.f1).2.2.2 = 0
    · rw [if_pos h1]; exact alloc_ok a0 a1 a2 a3 a4 a5 h _ _ _ _ h1
    · rw [if_neg h1]; exact ⟨h, rfl⟩
theorem play_f (a0 a1 a2 a3 a4 a5 : Int) {l : List S59} {G : Int → Int} (h : okRows G l) (hb : bnd l = true) (o : S48) (k : Nat) (hk : 1 ≤ k) :
    solventlaw24_play.f k a0 a1 a2 a3 a4 a5 l o.f0 o.f1 o.f2 o.f3 o.f4.f0 o.f4.f1 = some (playO a0 a1 a2 a3 a4 a5 l o) := by
  obtain ⟨k, rfl⟩ : ∃ k', k = k' + 1 := ⟨k - 1, by omega⟩
  unfold solventlaw24_play.f playO stripes_Stripes.f stripes_Allocate.f
  by_cases h0 : o.f0 = true
  · rw [if_pos h0, if_pos h0, if_pos hb, Option.bind_some]
    by_cases h1 : o.f3 < 0
    · rw [if_pos h1, solventlaw24_play.j0, if_pos rfl, if_pos (.inl h1)]
    · rw [if_neg h1, solventlaw24_play.j0]
      by_cases h2 : o.f3 ≥ ((strs o.f1 l).length : Int)
      · rw [decide_eq_true h2, if_pos rfl, if_pos (.inr h2)]
      · have hr := (rel_ok h (rd29_mem (by omega) (by omega) : rd_T29 (strs o.f1 l) o.f3 ∈ strs o.f1 l)).1
        rw [decide_eq_false h2, if_neg (by decide), if_pos (by omega), if_pos (by omega), if_neg (by omega)]
        unfold stripes_Release.f
        rw [if_pos hb, Option.bind_some, if_pos hr]
  · rw [if_neg h0, if_neg h0, if_pos hb, Option.bind_some]
    by_cases h1 : (allocO a0 a1 a2 a3 a4 a5 l o.f1 o.f2 o.f4.f0 o.f4.f1).2.2.2 = 0
    · rw [if_pos h1, if_pos h1]
    · rw [if_neg h1, if_neg h1]

theorem ok_bnd (a0 a1 a2 a3 a4 a5 : Int) {l : List S59} (h : okRows (grpO a0 a1 a2 a3 a4 a5) l) (hl : l.length ≤ 12) : bnd l = true := by
  unfold bnd
  simp only [Bool.and_eq_true, decide_eq_true_eq, List.all_eq_true]
  refine ⟨by omega, fun x hx => ?_⟩
  rcases h.1 x hx with h2 | h2
  · rw [h2.2.2]; simp
  · have := okU_len h2.2.2.2.2.2 (grp_bounds a0 a1 a2 a3 a4 a5 x.f1).1
    have := (grp_bounds a0 a1 a2 a3 a4 a5 x.f1).2
    omega
end Go.Proofs.Ytlodlblkmnhaeaa

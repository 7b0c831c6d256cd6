/- The plain side of StripesUndo, and its contract at every input. -/
import Derived.Test.YtlodlblkmnhaeaaUndoWalk
import Derived.Test.YtlodlblkmnhaeaaAlcCalls
import Derived.Test.YtlodlblkmnhaeaaRelWalk
import Derived.Test.YtlodlblkmnhaeaaNewWalk
import Derived.Test.YtlodlblkmnhaeaaPx2
import Derived.Test.YtlodlblkmnhaeaaPx4
import Derived.Test.YtlodlblkmnhaeaaPx5b
namespace Go.Proofs.Ytlodlblkmnhaeaa
set_option linter.unusedVariables false
set_option linter.unusedSimpArgs false
open Go.RowKit Go.Lib Go.Proofs.Ytlodlblkmnhaeaa.P Go.Proofs.YtlodlblkmnhaeaaW.PrintWords
/-- The used stripes of a row with G groups. -/
def okU (G : Int) (u : List S37) : Prop := u.Pairwise (fun a b => a.f0 < b.f0) ∧ ∀ y ∈ u, 0 ≤ y.f0 ∧ y.f0 < G
def okRow (G : Int → Int) (x : S59) : Prop := (x.f0 = -1 ∧ x.f1 = 0 ∧ x.f2 = []) ∨ (0 ≤ x.f0 ∧ x.f0 < 8 ∧ 1 ≤ x.f1 ∧ x.f1 ≤ 32 ∧ x.f2 ≠ [] ∧ okU (G x.f1) x.f2)
def okRows (G : Int → Int) (l : List S59) : Prop := (∀ x ∈ l, okRow G x) ∧ ∀ x ∈ l, ∀ y ∈ l, x.f0 = y.f0 → x.f1 = y.f1

theorem sorted_len : ∀ (u : List S37) (i G : Int), u.Pairwise (fun a b => a.f0 < b.f0) → (∀ y ∈ u, i ≤ y.f0 ∧ y.f0 < G) → i ≤ G → (u.length : Int) ≤ G - i
  | [], i, G, _, _, h => by simp; omega
  | x :: r, i, G, hp, hb, h => by
    obtain ⟨h1, h2⟩ := List.pairwise_cons.1 hp
    have hx := hb x (List.mem_cons_self ..)
    have := sorted_len r (x.f0 + 1) G h2 (fun y hy => by have := h1 y hy; have := hb y (List.mem_cons_of_mem _ hy); omega) (by omega)
    rw [List.length_cons]
    omega
theorem okU_len {G : Int} {u : List S37} (h : okU G u) (hG : 0 ≤ G) : (u.length : Int) ≤ G := by
  have := sorted_len u 0 G h.1 h.2 hG
  omega
theorem gapL_spec : ∀ (u : List S37) (i : Nat), u.Pairwise (fun a b => a.f0 < b.f0) → (∀ y ∈ u, (i : Int) ≤ y.f0) →
    (∀ y ∈ u.take (gapL u i - i), y.f0 < (gapL u i : Int)) ∧ ∀ y ∈ u.drop (gapL u i - i), (gapL u i : Int) < y.f0
  | [], i, _, _ => by simp
  | x :: r, i, hp, hb => by
    obtain ⟨h1, h2⟩ := List.pairwise_cons.1 hp
    have hx := hb x (List.mem_cons_self ..)
    rw [gapL]
    by_cases e : x.f0 = (i : Int)
    · rw [if_pos e]
      obtain ⟨h3, h4⟩ := gapL_spec r (i + 1) h2 (fun y hy => by have := h1 y hy; omega)
      have hle := (gapL_le r (i + 1)).1
      have e2 : gapL r (i + 1) - i = (gapL r (i + 1) - (i + 1)) + 1 := by omega
      rw [e2]
      refine ⟨fun y hy => ?_, fun y hy => ?_⟩
      · rw [List.take_succ_cons] at hy
        rcases List.mem_cons.1 hy with rfl | hy
        · omega
        · exact h3 y hy
      · rw [List.drop_succ_cons] at hy
        exact h4 y hy
    · rw [if_neg e]
      refine ⟨fun y hy => by simp at hy, fun y hy => ?_⟩
      rw [Nat.sub_self, List.drop_zero] at hy
      rcases List.mem_cons.1 hy with rfl | hy
      · omega
      · have := h1 y hy; omega

/-- A stripe put in at the gap. -/
theorem okU_ins {G : Int} {u : List S37} (h : okU G u) (hl : (u.length : Int) < G) (z : S27) : okU G (insAt u (gap0 u) ⟨(gap0 u : Int), z⟩) := by
  obtain ⟨hp, hb⟩ := h
  obtain ⟨h1, h2⟩ := gapL_spec u 0 hp (fun y hy => by have := hb y hy; omega)
  rw [Nat.sub_zero] at h1 h2
  have hgl := gap0_le u
  refine ⟨?_, fun y hy => ?_⟩
  · unfold insAt
    rw [List.append_assoc, List.pairwise_append, List.pairwise_append]
    refine ⟨hp.sublist (List.take_sublist ..), ⟨List.pairwise_singleton .., hp.sublist (List.drop_sublist ..), fun a ha b hb2 => ?_⟩, fun a ha b hb2 => ?_⟩
    · rw [List.mem_singleton.1 ha]
      exact h2 b hb2
    · have h3 := h1 a ha
      rcases List.mem_append.1 hb2 with hb2 | hb2
      · rw [List.mem_singleton.1 hb2]
        exact h3
      · have := h2 b hb2
        show a.f0 < b.f0
        omega
  · unfold insAt at hy
    rcases List.mem_append.1 hy with hy | hy
    · rcases List.mem_append.1 hy with hy | hy
      · exact hb y (List.mem_of_mem_take hy)
      · rw [List.mem_singleton.1 hy]
        show 0 ≤ (gap0 u : Int) ∧ (gap0 u : Int) < G
        omega
    · exact hb y (List.mem_of_mem_drop hy)
theorem ins_ne {u : List S37} {i : Nat} {z : S37} : insAt u i z ≠ [] := by unfold insAt; simp
theorem rd_mem {l : List S59} {j : Nat} (h : j < l.length) : rd_T59 l (j : Int) ∈ l := by
  have e : rd_T59 l (j : Int) = l[j] := by simp [rd_T59, List.getD_eq_getElem?_getD, h]
  rw [e]; exact List.getElem_mem h

/-- A row is replaced: valid where the new row is right, and agrees in width with the others of its code. -/
theorem okRows_set {G : Int → Int} {l : List S59} {j : Nat} {x : S59} (h : okRows G l) (hx : okRow G x) (hw : ∀ y ∈ l, y.f0 = x.f0 → y.f1 = x.f1) : okRows G (l.set j x) := by
  refine ⟨fun y hy => ?_, fun y hy z hz e => ?_⟩
  · rcases List.mem_or_eq_of_mem_set hy with hy | rfl
    · exact h.1 y hy
    · exact hx
  · rcases List.mem_or_eq_of_mem_set hy with hy2 | hy2
    · rcases List.mem_or_eq_of_mem_set hz with hz2 | hz2
      · exact h.2 y hy2 z hz2 e
      · rw [hz2] at e ⊢; exact hw y hy2 e
    · rcases List.mem_or_eq_of_mem_set hz with hz2 | hz2
      · rw [hy2] at e ⊢; exact (hw z hz2 e.symm).symm
      · rw [hy2, hz2]

theorem free_ok (G : Int → Int) : okRow G ⟨-1, 0, []⟩ := .inl ⟨rfl, rfl, rfl⟩
/-- The free rows have width 0. -/
theorem free_width {G : Int → Int} {l : List S59} (h : okRows G l) {y : S59} (hy : y ∈ l) (e : y.f0 = -1) : y.f1 = 0 := by
  rcases h.1 y hy with h1 | h1
  · exact h1.2.1
  · omega

theorem put_ok {G : Int → Int} {l : List S59} (h : okRows G l) (hG : ∀ wd, 0 ≤ G wd) {code wd ge gc : Int} (hc : 0 ≤ code) {j : Nat} (hw : widthsOk l code wd = true) (hr : roomAt l code (G wd) = some j) : okRows G (putRow l j ge gc) := by
  have hmem := List.mem_of_find?_eq_some hr
  have hne := List.find?_some hr
  obtain ⟨hjl, hjc⟩ := mem_rowsOf.1 hmem
  have hwd : (rd_T59 l (j : Int)).f1 = wd := by
    unfold widthsOk at hw
    have := List.all_eq_true.1 hw j hmem
    simpa using this
  have hm := rd_mem hjl
  unfold putRow
  generalize rd_T59 l (j : Int) = x at hm hjc hwd hne ⊢
  refine okRows_set h ?_ (fun y hy e => h.2 y hy x hm e)
  rcases h.1 x hm with h2 | h2
  · omega
  · refine .inr ⟨h2.1, h2.2.1, h2.2.2.1, h2.2.2.2.1, ins_ne, okU_ins h2.2.2.2.2.2 ?_ _⟩
    have h3 := okU_len h2.2.2.2.2.2 (hG _)
    rw [hwd] at h3 ⊢
    have h4 : ¬ (x.f2.length : Int) = G wd := by simpa using hne
    omega
theorem newrow_ok {G : Int → Int} {l : List S59} (h : okRows G l) {code wd ge gc : Int} (hc0 : 0 ≤ code) (hc1 : code < 8) (hw0 : 1 ≤ wd) (hw1 : wd ≤ 32) (hg : 0 < G wd) {j : Nat} (hw : widthsOk l code wd = true) : okRows G (l.set j ⟨code, wd, [⟨0, ⟨ge, gc⟩⟩]⟩) := by
  refine okRows_set h (.inr ⟨hc0, hc1, hw0, hw1, by simp, by simp, fun y hy => ?_⟩) (fun y hy e => ?_)
  · rw [List.mem_singleton.1 hy]
    exact ⟨Int.le_refl _, hg⟩
  · obtain ⟨i, hi⟩ := List.mem_iff_getElem?.1 hy
    have hil : i < l.length := (List.getElem?_eq_some_iff.1 hi).1
    have e2 : rd_T59 l (i : Int) = y := by simp [rd_T59, List.getD_eq_getElem?_getD, hi]
    unfold widthsOk at hw
    have := List.all_eq_true.1 hw i (mem_rowsOf.2 ⟨hil, by rw [e2]; exact e⟩)
    rw [e2] at this
    simpa using this

/-- Allocate keeps a valid list valid. -/
theorem alloc_ok (a0 a1 a2 a3 a4 a5 : Int) {l : List S59} (h : okRows (grpO a0 a1 a2 a3 a4 a5) l) (code wd ge gc : Int) (he : (allocO a0 a1 a2 a3 a4 a5 l code wd ge gc).2.2.2 = 0) :
    okRows (grpO a0 a1 a2 a3 a4 a5) (allocO a0 a1 a2 a3 a4 a5 l code wd ge gc).1 ∧ (allocO a0 a1 a2 a3 a4 a5 l code wd ge gc).1.length = l.length := by
  unfold allocO at he ⊢
  by_cases hb : badO a0 a1 a2 a3 a4 a5 code wd = true
  · rw [if_pos hb] at he; exact absurd he (by decide)
  · rw [if_neg hb] at he ⊢
    by_cases hw : widthsOk l code wd = false
    · rw [if_pos hw] at he; exact absurd he (by decide)
    · rw [if_neg hw] at he ⊢
      have hw2 : widthsOk l code wd = true := by simpa using hw
      have hb2 := hb
      unfold badO at hb2
      simp only [Bool.or_eq_true, decide_eq_true_eq, beq_iff_eq, not_or] at hb2
      obtain ⟨⟨⟨⟨h0, h1⟩, h2⟩, h3⟩, h5⟩ := hb2
      have hg := fun wd => (grp_bounds a0 a1 a2 a3 a4 a5 wd).1
      cases hr : roomAt l code (grpO a0 a1 a2 a3 a4 a5 wd) with
      | some j => exact ⟨put_ok h hg (by omega) hw2 hr, by simp [putRow]⟩
      | none =>
        rw [hr] at he
        cases hf : freeAt l with
        | some j => exact ⟨newrow_ok h (by omega) (by omega) (by omega) (by omega) (by have := hg wd; omega) hw2, by simp⟩
        | none => rw [hf] at he; simp at he

theorem ok_bnd (a0 a1 a2 a3 a4 a5 : Int) {l : List S59} (h : okRows (grpO a0 a1 a2 a3 a4 a5) l) (hl : l.length ≤ 12) : bnd l = true := by
  unfold bnd
  simp only [Bool.and_eq_true, decide_eq_true_eq, List.all_eq_true]
  refine ⟨by omega, fun x hx => ?_⟩
  rcases h.1 x hx with h2 | h2
  · rw [h2.2.2]; simp
  · have := okU_len h2.2.2.2.2.2 (grp_bounds a0 a1 a2 a3 a4 a5 x.f1).1
    have := (grp_bounds a0 a1 a2 a3 a4 a5 x.f1).2
    omega

theorem in_wi (a lo hi : Int) : solventref13_in.f a lo hi = some (wi a lo hi) := by
  unfold solventref13_in.f wi
  by_cases h : lo ≤ a
  · rw [if_pos (by omega), decide_eq_true h, Bool.true_and]
  · rw [if_neg (by omega), decide_eq_false h, Bool.false_and]
theorem check13 {a0 a1 a2 a3 a4 a5 : Int} (h : chk a0 a1 a2 a3 a4 a5 = 0) (k : Nat) (hk : 1 ≤ k) : solventref13_Check.f k a0 a1 a2 a3 a4 a5 = some 0 := by
  obtain ⟨k, rfl⟩ : ∃ k', k = k' + 1 := ⟨k - 1, by omega⟩
  unfold chk at h
  split at h
  · next h2 =>
    obtain ⟨h0, h1, h2, h3, h4, h5, h6⟩ := h2
    have b0 := wi_bounds h0
    have b1 := wi_bounds h1
    have b3 := wi_bounds h3
    have e1 : wrap64 (a0 - 1) = a0 - 1 := by unfold wrap64; omega
    have e2 : Int.tmod a0 a1 = 0 := by rw [Int.tmod_eq_emod_of_nonneg (by omega)]; exact h6
    unfold solventref13_Check.f
    simp only [in_wi, Option.bind_some, h0, h1, h2, h4, h5, if_pos]
    rw [solventref13_Check.j0, if_neg (by decide), if_neg (by omega), if_pos e2, in_wi, e1, h3]
    rfl
  · cases h
theorem groups14 {a0 a1 a2 a3 a4 a5 : Int} (h : chk a0 a1 a2 a3 a4 a5 = 0) (wd : Int) (k : Nat) (hk : 1 ≤ k) : solventref14_Groups.f k a0 a1 a2 a3 a4 a5 wd = some (grpO a0 a1 a2 a3 a4 a5 wd) := by
  have h0 := groups_f a0 a1 a2 a3 a4 a5 wd
  rw [← h0]
  unfold solventref14_Groups.f solventref14_valid.f layout_Groups.f layout_valid.f design_Check.f
  rw [check13 h k hk, h]


theorem check13_any (a0 a1 a2 a3 a4 a5 : Int) (k : Nat) (hk : 1 ≤ k) : solventref13_Check.f k a0 a1 a2 a3 a4 a5 = some (chk a0 a1 a2 a3 a4 a5) := by
  by_cases h : chk a0 a1 a2 a3 a4 a5 = 0
  · rw [h]; exact check13 h k hk
  · obtain ⟨k, rfl⟩ : ∃ k', k = k' + 1 := ⟨k - 1, by omega⟩
    have h1 : chk a0 a1 a2 a3 a4 a5 = 1 := (chk_01 a0 a1 a2 a3 a4 a5).resolve_left h
    rw [h1]
    have hj : solventref13_Check.j0 (k + 1) true a0 a1 a2 a3 a4 a5 = some 1 := by rw [solventref13_Check.j0, if_pos rfl]
    unfold solventref13_Check.f
    simp only [in_wi, Option.bind_some]
    by_cases c0 : wi a0 1 64 = true
    · rw [if_pos c0]
      by_cases c1 : wi a1 1 8 = true
      · rw [if_pos c1]
        by_cases c2 : wi a2 1 4096 = true
        · rw [if_pos c2]
          by_cases c4 : wi a4 1 65536 = true
          · rw [if_pos c4]
            by_cases c5 : wi a5 1 65536 = true
            · have b0 := wi_bounds c0
              have b1 := wi_bounds c1
              have e1 : wrap64 (a0 - 1) = a0 - 1 := by unfold wrap64; omega
              rw [c5, solventref13_Check.j0, if_neg (by decide), if_neg (by omega), in_wi, e1, Option.bind_some, Int.tmod_eq_emod_of_nonneg (by omega)]
              by_cases c6 : a0 % a1 = 0
              · rw [if_pos c6]
                by_cases c3 : wi a3 0 (a0 - 1) = true
                · exact absurd (by unfold chk; rw [if_pos ⟨c0, c1, c2, c3, c4, c5, c6⟩]) h
                · rw [if_neg c3]
              · rw [if_neg c6]
            · have e : wi a5 1 65536 = false := by simpa using c5
              rw [e]; exact hj
          · rw [if_neg c4]; exact hj
        · rw [if_neg c2]; exact hj
      · rw [if_neg c1]; exact hj
    · rw [if_neg c0]; exact hj

theorem right_l0_any (G : Int) (u : List S37) (hu : u.length < 9223372036854775808) (x0 x1 : Int) : ∀ (k i : Nat), i ≤ u.length → u.length - i < k →
    ∃ b, solventref24_right.l0 k G (i : Int) x0 x1 u = some b ∧ (b = true → ∀ t, i ≤ t → t < u.length → 0 ≤ (rd_T37 u (t : Int)).f0 ∧ (rd_T37 u (t : Int)).f0 < G ∧ (0 < t → (rd_T37 u ((t - 1 : Nat) : Int)).f0 < (rd_T37 u (t : Int)).f0))
  | 0, i, _, hk => by omega
  | k + 1, i, hi, hk => by
    rw [solventref24_right.l0]
    by_cases hlt : i < u.length
    · have ew : wrap64 ((i : Int) + 1) = ((i + 1 : Nat) : Int) := by unfold wrap64; omega
      rw [if_pos (by omega), if_pos (by omega)]
      by_cases c0 : (rd_T37 u (i : Int)).f0 < 0
      · rw [if_pos c0]; exact ⟨false, rfl, fun h => by cases h⟩
      · rw [if_neg c0]
        by_cases c1 : (rd_T37 u (i : Int)).f0 ≥ G
        · rw [if_pos c1]; exact ⟨false, rfl, fun h => by cases h⟩
        · rw [if_neg c1]
          obtain ⟨b, hb, hb2⟩ := right_l0_any G u hu x0 x1 k (i + 1) (by omega) (by omega)
          by_cases hp : i = 0
          · rw [if_neg (by omega), ew, hb]
            refine ⟨b, rfl, fun h t ht htl => ?_⟩
            by_cases e : t = i
            · subst e; exact ⟨by omega, by omega, fun h0 => by omega⟩
            · exact hb2 h t (by omega) htl
          · have ew2 : wrap64 ((i : Int) - 1) = ((i - 1 : Nat) : Int) := by unfold wrap64; omega
            rw [if_pos (by omega), ew2, if_pos (by omega), if_pos (by omega)]
            by_cases c2 : (rd_T37 u (i : Int)).f0 ≤ (rd_T37 u ((i - 1 : Nat) : Int)).f0
            · rw [if_pos c2]; exact ⟨false, rfl, fun h => by cases h⟩
            · rw [if_neg c2, ew, hb]
              refine ⟨b, rfl, fun h t ht htl => ?_⟩
              by_cases e : t = i
              · subst e; exact ⟨by omega, by omega, fun _ => by omega⟩
              · exact hb2 h t (by omega) htl
    · rw [if_neg (by omega)]; exact ⟨true, rfl, fun _ t ht htl => by omega⟩
theorem okU_of {G : Int} {u : List S37} (h : ∀ t, t < u.length → 0 ≤ (rd_T37 u (t : Int)).f0 ∧ (rd_T37 u (t : Int)).f0 < G ∧ (0 < t → (rd_T37 u ((t - 1 : Nat) : Int)).f0 < (rd_T37 u (t : Int)).f0)) : okU G u := by
  have e : ∀ (t : Nat) (ht : t < u.length), rd_T37 u (t : Int) = u[t] := fun t ht => by simp [rd_T37, List.getD_eq_getElem?_getD, ht]
  refine ⟨List.pairwise_iff_getElem.2 fun i j hi hj hij => ?_, fun y hy => ?_⟩
  · have hstep : ∀ d, i + d + 1 < u.length → (rd_T37 u (i : Int)).f0 < (rd_T37 u ((i + d + 1 : Nat) : Int)).f0 := by
      intro d
      induction d with
      | zero => intro hd; exact (h (i + 0 + 1) hd).2.2 (by omega)
      | succ d ih =>
        intro hd
        have h1 := ih (by omega)
        have h2 := (h (i + (d + 1) + 1) hd).2.2 (by omega)
        have e2 : i + (d + 1) + 1 - 1 = i + d + 1 := by omega
        rw [e2] at h2
        omega
    have := hstep (j - i - 1) (by omega)
    rw [show i + (j - i - 1) + 1 = j by omega, e i hi, e j hj] at this
    exact this
  · obtain ⟨t, ht⟩ := List.mem_iff_getElem?.1 hy
    obtain ⟨htl, hte⟩ := List.getElem?_eq_some_iff.1 ht
    have := h t htl
    rw [e t htl, hte] at this
    exact ⟨this.1, this.2.1⟩

theorem right_any {a0 a1 a2 a3 a4 a5 : Int} (h : chk a0 a1 a2 a3 a4 a5 = 0) (x : S59) (hu : x.f2.length < 9223372036854775808) (k : Nat) (hk : x.f2.length + 4 ≤ k) :
    ∃ b, solventref24_right.f k a0 a1 a2 a3 a4 a5 x.f0 x.f1 x.f2 = some b ∧ (b = true → okRow (grpO a0 a1 a2 a3 a4 a5) x) := by
  obtain ⟨k, rfl⟩ : ∃ k', k = k' + 1 := ⟨k - 1, by omega⟩
  have hj : solventref24_right.j0 (k + 1) true a0 a1 a2 a3 a4 a5 x.f0 x.f1 x.f2 = some false := by rw [solventref24_right.j0, if_pos rfl]
  unfold solventref24_right.f
  by_cases c0 : x.f0 = -1
  · rw [if_pos c0]
    by_cases c1 : x.f1 = 0
    · rw [if_pos c1]
      exact ⟨_, rfl, fun h => .inl ⟨c0, c1, List.eq_nil_of_length_eq_zero (by have h2 := beq_iff_eq.1 h; omega)⟩⟩
    · rw [if_neg c1]; exact ⟨false, rfl, fun h => by cases h⟩
  · rw [if_neg c0]
    by_cases c1 : x.f0 < 0
    · rw [if_pos c1]; exact ⟨false, hj, fun h => by cases h⟩
    rw [if_neg c1]
    by_cases c2 : x.f0 ≥ 8
    · rw [if_pos c2]; exact ⟨false, hj, fun h => by cases h⟩
    rw [if_neg c2]
    by_cases c3 : x.f1 < 1
    · rw [if_pos c3]; exact ⟨false, hj, fun h => by cases h⟩
    rw [if_neg c3]
    by_cases c4 : x.f1 > 32
    · rw [if_pos c4]; exact ⟨false, hj, fun h => by cases h⟩
    rw [if_neg c4]
    by_cases c5 : (x.f2.length : Int) = 0
    · have e : ((x.f2.length : Int) == 0) = true := beq_iff_eq.2 c5
      rw [e]; exact ⟨false, hj, fun h => by cases h⟩
    · have e : ((x.f2.length : Int) == 0) = false := by rw [beq_eq_false_iff_ne]; exact c5
      rw [e, solventref24_right.j0, if_neg (by decide), groups14 h _ k (by omega), Option.bind_some]
      obtain ⟨b, hb, hb2⟩ := right_l0_any (grpO a0 a1 a2 a3 a4 a5 x.f1) x.f2 hu x.f0 x.f1 k 0 (by omega) (by omega)
      refine ⟨b, hb, fun h => .inr ⟨by omega, by omega, by omega, by omega, fun e2 => c5 (by rw [e2]; rfl), okU_of (fun t ht => hb2 h t (by omega) ht)⟩⟩

theorem valid_l_any {a0 a1 a2 a3 a4 a5 : Int} (h : chk a0 a1 a2 a3 a4 a5 = 0) (l : List S59) (n M D : Nat) (hD : D = n + 2) (hn : n = l.length) (hn2 : n < 9223372036854775808) (hM : M < 9223372036854775808) (hu : ∀ x ∈ l, x.f2.length ≤ M) : ∀ (k : Nat),
    (∀ m i : Nat, i + m = n → m * D + M + 10 ≤ k → ∃ b, solventref24_Valid.l0 k l (i : Int) a0 a1 a2 a3 a4 a5 = some b ∧ (b = true → ∀ t, i ≤ t → t < n → okRow (grpO a0 a1 a2 a3 a4 a5) (rd_T59 l (t : Int)) ∧ ∀ s, s < t → (rd_T59 l (s : Int)).f0 = (rd_T59 l (t : Int)).f0 → (rd_T59 l (s : Int)).f1 = (rd_T59 l (t : Int)).f1)) ∧
    ∀ m i j : Nat, i + m + 1 = n → j ≤ i → m * D + M + 10 + (i - j) + 1 ≤ k → ∃ b, solventref24_Valid.l1 k l (i : Int) (j : Int) a0 a1 a2 a3 a4 a5 = some b ∧ (b = true → (∀ s, j ≤ s → s < i → (rd_T59 l (s : Int)).f0 = (rd_T59 l (i : Int)).f0 → (rd_T59 l (s : Int)).f1 = (rd_T59 l (i : Int)).f1) ∧
      ∀ t, i + 1 ≤ t → t < n → okRow (grpO a0 a1 a2 a3 a4 a5) (rd_T59 l (t : Int)) ∧ ∀ s, s < t → (rd_T59 l (s : Int)).f0 = (rd_T59 l (t : Int)).f0 → (rd_T59 l (s : Int)).f1 = (rd_T59 l (t : Int)).f1)
  | 0 => ⟨fun m i _ hk => by omega, fun m i j _ _ hk => by omega⟩
  | k + 1 => by
    obtain ⟨ih0, ih1⟩ := valid_l_any h l n M D hD hn hn2 hM hu k
    refine ⟨fun m i hi hk => ?_, fun m i j hi hj hk => ?_⟩
    · rw [solventref24_Valid.l0]
      by_cases hlt : i < n
      · obtain ⟨m, rfl⟩ : ∃ m', m = m' + 1 := ⟨m - 1, by omega⟩
        rw [Nat.succ_mul] at hk
        generalize hmd : m * D = md at hk
        have hx := hu _ (rd_mem (l := l) (j := i) (by omega))
        obtain ⟨b, hb, hb2⟩ := right_any h (rd_T59 l (i : Int)) (by omega) k (by omega)
        rw [if_pos (by omega), if_pos (by omega), hb, Option.bind_some]
        cases b with
        | false => exact ⟨false, by rw [if_neg (by decide)], fun h => by cases h⟩
        | true =>
          obtain ⟨b2, hb3, hb4⟩ := ih1 m i 0 (by omega) (by omega) (by rw [hmd]; omega)
          refine ⟨b2, by rw [if_pos rfl]; exact hb3, fun h2 t ht htl => ?_⟩
          obtain ⟨h5, h6⟩ := hb4 h2
          by_cases e : t = i
          · subst e; exact ⟨hb2 rfl, fun s hs => h5 s (by omega) hs⟩
          · exact h6 t (by omega) htl
      · rw [if_neg (by omega)]; exact ⟨true, rfl, fun _ t ht htl => by omega⟩
    · rw [solventref24_Valid.l1]
      by_cases hlt : j < i
      · have ew : wrap64 ((j : Int) + 1) = ((j + 1 : Nat) : Int) := by unfold wrap64; omega
        generalize hmd : m * D = md at hk
        obtain ⟨b, hb, hb2⟩ := ih1 m i (j + 1) hi (by omega) (by rw [hmd]; omega)
        rw [if_pos (by omega), if_pos (by omega), if_pos (by omega), if_pos (by omega), if_pos (by omega), ew, hb]
        by_cases e : (rd_T59 l (j : Int)).f0 = (rd_T59 l (i : Int)).f0
        · rw [if_pos e]
          by_cases e1 : (rd_T59 l (j : Int)).f1 = (rd_T59 l (i : Int)).f1
          · rw [if_pos e1]
            refine ⟨b, rfl, fun h2 => ⟨fun s hs hsi hse => ?_, (hb2 h2).2⟩⟩
            by_cases e3 : s = j
            · subst e3; exact e1
            · exact (hb2 h2).1 s (by omega) hsi hse
          · rw [if_neg e1]; exact ⟨false, rfl, fun h => by cases h⟩
        · rw [if_neg e]
          refine ⟨b, rfl, fun h2 => ⟨fun s hs hsi hse => ?_, (hb2 h2).2⟩⟩
          by_cases e3 : s = j
          · subst e3; exact absurd hse e
          · exact (hb2 h2).1 s (by omega) hsi hse
      · have ew : wrap64 ((i : Int) + 1) = ((i + 1 : Nat) : Int) := by unfold wrap64; omega
        rw [if_neg (by omega), ew]
        generalize hmd : m * D = md at hk
        obtain ⟨b, hb, hb2⟩ := ih0 m (i + 1) (by omega) (by rw [hmd]; omega)
        exact ⟨b, hb, fun h2 => ⟨fun s hs hsi => by omega, hb2 h2⟩⟩

/-- The reference's Valid, at every list: it answers; where true, the list is right. -/
theorem valid_any (a0 a1 a2 a3 a4 a5 : Int) (l : List S59) (M : Nat) (hn2 : l.length < 9223372036854775808) (hM : M < 9223372036854775808) (hu : ∀ x ∈ l, x.f2.length ≤ M) :
    ∃ k b, solventref24_Valid.f k a0 a1 a2 a3 a4 a5 l = some b ∧ (b = true → chk a0 a1 a2 a3 a4 a5 = 0 ∧ okRows (grpO a0 a1 a2 a3 a4 a5) l ∧ (l.length : Int) = a2) := by
  have hj : ∀ k, solventref24_Valid.j0 (k + 1) l true a0 a1 a2 a3 a4 a5 = some false := fun k => by rw [solventref24_Valid.j0, if_pos rfl]
  obtain ⟨K, hK⟩ : ∃ K, K = l.length * (l.length + 2) + M + 10 := ⟨_, rfl⟩
  refine ⟨K + 1, ?_⟩
  unfold solventref24_Valid.f
  rw [check13_any a0 a1 a2 a3 a4 a5 _ (by omega), Option.bind_some]
  by_cases hc : chk a0 a1 a2 a3 a4 a5 = 0
  · rw [if_pos hc]
    by_cases hlen : (l.length : Int) = a2
    · have e : ((l.length : Int) != a2) = false := by rw [hlen]; simp
      rw [e, solventref24_Valid.j0, if_neg (by decide)]
      obtain ⟨b, hb, hb2⟩ := (valid_l_any hc l l.length M (l.length + 2) rfl rfl hn2 hM hu K).1 l.length 0 (by omega) (by omega)
      refine ⟨b, hb, fun h => ⟨hc, ⟨fun x hx => ?_, fun x hx y hy e2 => ?_⟩, hlen⟩⟩
      · obtain ⟨t, ht⟩ := List.mem_iff_getElem?.1 hx
        have htl := (List.getElem?_eq_some_iff.1 ht).1
        have er : rd_T59 l (t : Int) = x := by simp [rd_T59, List.getD_eq_getElem?_getD, ht]
        rw [← er]; exact (hb2 h t (by omega) htl).1
      · obtain ⟨s, hs⟩ := List.mem_iff_getElem?.1 hx
        obtain ⟨t, ht⟩ := List.mem_iff_getElem?.1 hy
        have hsl := (List.getElem?_eq_some_iff.1 hs).1
        have htl := (List.getElem?_eq_some_iff.1 ht).1
        have es : rd_T59 l (s : Int) = x := by simp [rd_T59, List.getD_eq_getElem?_getD, hs]
        have et : rd_T59 l (t : Int) = y := by simp [rd_T59, List.getD_eq_getElem?_getD, ht]
        rw [← es, ← et] at e2 ⊢
        rcases Nat.lt_trichotomy s t with h1 | h1 | h1
        · exact (hb2 h t (by omega) htl).2 s h1 e2
        · rw [h1]
        · exact ((hb2 h s (by omega) hsl).2 t h1 e2.symm).symm
    · have e : ((l.length : Int) != a2) = true := by simpa using hlen
      rw [e, hj]; exact ⟨false, rfl, fun h => by cases h⟩
  · rw [if_neg hc, hj]; exact ⟨false, rfl, fun h => by cases h⟩

/-- What Find answers on a row's used stripes. -/
def fnd (y : Int) (u : List S37) : Int × Int × Int × Int := match u.find? (fun z => decide (z.f0 = y)) with
  | none => (0, 0, 0, 12)
  | some z => (z.f0, z.f1.f0, z.f1.f1, 0)
def findO (l : List S59) (r g : Int) : Int × Int × Int × Int := if 0 ≤ r ∧ r < (l.length : Int) then fnd g (rd_T59 l r).f2 else (0, 0, 0, 12)

theorem idxU_fnd (y : Int) : ∀ (u : List S37) (i : Nat), (idxU y u i < 0 ∧ u.find? (fun z => decide (z.f0 = y)) = none) ∨ ∃ k : Nat, k < u.length ∧ idxU y u i = ((i + k : Nat) : Int) ∧ u.find? (fun z => decide (z.f0 = y)) = some (rd_T37 u (k : Int))
  | [], i => .inl ⟨by simp [idxU], rfl⟩
  | x :: r, i => by
    rw [idxU]
    by_cases h : x.f0 = y
    · rw [if_pos h]
      exact .inr ⟨0, by simp, by simp, by rw [List.find?_cons_of_pos (by simpa using h)]; rfl⟩
    · rw [if_neg h, List.find?_cons_of_neg (by simpa using h)]
      rcases idxU_fnd y r (i + 1) with h2 | ⟨k, hk, e, e2⟩
      · exact .inl h2
      · refine .inr ⟨k + 1, by simp; omega, by rw [e]; congr 1; omega, ?_⟩
        rw [e2]
        simp [rd_T37, List.getD_eq_getElem?_getD]
theorem find_f {l : List S59} (hb : bnd l = true) (r g : Int) : stripes_Find.f l r g = some (findO l r g) := by
  unfold stripes_Find.f stripes_index.f findO
  rw [if_pos hb, Option.bind_some]
  unfold idxS
  by_cases h0 : r < 0
  · rw [if_pos h0, if_pos (by omega), if_neg (by omega)]
  · rw [if_neg h0]
    by_cases h1 : r ≥ (l.length : Int)
    · rw [if_pos h1, if_pos (by omega), if_neg (by omega)]
    · have hc : 0 ≤ r ∧ r < (l.length : Int) := ⟨by omega, by omega⟩
      rw [if_neg h1, if_pos hc]
      unfold fnd
      rcases idxU_fnd g (rd_T59 l r).f2 0 with ⟨h2, h3⟩ | ⟨k, hk, e, e2⟩
      · rw [if_pos h2, h3]
      · rw [Nat.zero_add] at e
        rw [e, e2, if_neg (by omega), if_pos (by omega), if_pos (by omega), if_pos (by omega), if_pos (by omega)]
theorem fnd_ins {y : Int} {u : List S37} {k : Nat} {z : S37} (h : z.f0 ≠ y) : fnd y (insAt u k z) = fnd y u := by
  have e : (insAt u k z).find? (fun z => decide (z.f0 = y)) = u.find? (fun z => decide (z.f0 = y)) := by
    unfold insAt
    conv => rhs; rw [← List.take_append_drop k u]
    have hz : [z].find? (fun z => decide (z.f0 = y)) = none := by simp [h]
    rw [List.append_assoc, List.find?_append, List.find?_append (xs := [z]), hz, Option.none_or, List.find?_append]
  unfold fnd
  rw [e]
theorem gap_none {G : Int} {u : List S37} (h : okU G u) : (∀ z ∈ u.take (gap0 u), z.f0 ≠ (gap0 u : Int)) ∧ ∀ z ∈ u, z.f0 ≠ (gap0 u : Int) := by
  obtain ⟨h1, h2⟩ := gapL_spec u 0 h.1 (fun y hy => by have := h.2 y hy; omega)
  rw [Nat.sub_zero] at h1 h2
  have h3 : ∀ z ∈ u.take (gap0 u), z.f0 ≠ (gap0 u : Int) := fun z hz => by
    have : z.f0 < (gap0 u : Int) := h1 z hz
    omega
  refine ⟨h3, fun z hz => ?_⟩
  rw [← List.take_append_drop (gap0 u) u] at hz
  rcases List.mem_append.1 hz with hz | hz
  · exact h3 z hz
  · have : (gap0 u : Int) < z.f0 := h2 z hz
    omega
theorem fnd_none {y : Int} {u : List S37} (h : ∀ z ∈ u, z.f0 ≠ y) : fnd y u = (0, 0, 0, 12) := by
  have e : u.find? (fun z => decide (z.f0 = y)) = none := List.find?_eq_none.2 (fun z hz => by simpa using h z hz)
  unfold fnd
  rw [e]
theorem fnd_hit {u : List S37} {k : Nat} {z : S37} (h : ∀ x ∈ u.take k, x.f0 ≠ z.f0) : fnd z.f0 (insAt u k z) = (z.f0, z.f1.f0, z.f1.f1, 0) := by
  have e : (insAt u k z).find? (fun x => decide (x.f0 = z.f0)) = some z := by
    unfold insAt
    rw [List.append_assoc, List.find?_append, List.find?_eq_none.2 (fun x hx => by simpa using h x hx), List.singleton_append, List.find?_cons_of_pos (by simp)]
    rfl
  unfold fnd
  rw [e]
theorem idxU_app {y : Int} : ∀ (a b : List S37) (i : Nat), (∀ z ∈ a, z.f0 ≠ y) → idxU y (a ++ b) i = idxU y b (i + a.length)
  | [], b, i, _ => by simp
  | x :: r, b, i, h => by
    rw [List.cons_append, idxU, if_neg (h x (List.mem_cons_self ..)), idxU_app r b (i + 1) (fun z hz => h z (List.mem_cons_of_mem _ hz))]
    congr 1
    simp
    omega
theorem idxU_ins {u : List S37} {k : Nat} {z : S37} (hk : k ≤ u.length) (h : ∀ x ∈ u.take k, x.f0 ≠ z.f0) : idxU z.f0 (insAt u k z) 0 = (k : Int) := by
  unfold insAt
  rw [List.append_assoc, idxU_app _ _ _ h, List.singleton_append, idxU, if_pos rfl, List.length_take]
  congr 1
  omega
theorem erase_ins {u : List S37} {k : Nat} {z : S37} (hk : k ≤ u.length) : (insAt u k z).eraseIdx k = u := by
  unfold insAt
  have hl : (u.take k).length = k := by rw [List.length_take]; omega
  rw [List.append_assoc, List.eraseIdx_append_of_length_le (by omega), hl, Nat.sub_self, List.singleton_append, List.eraseIdx_cons_zero, List.take_append_drop]

theorem rd_set_same {l : List S59} {j : Nat} {x : S59} (h : j < l.length) : rd_T59 (l.set j x) (j : Int) = x := by
  simp [rd_T59, List.getD_eq_getElem?_getD, h]
theorem rd_set_other {l : List S59} {j : Nat} {x : S59} {r : Int} (h0 : 0 ≤ r) (h : r ≠ (j : Int)) : rd_T59 (l.set j x) r = rd_T59 l r := by
  have hne : j ≠ r.toNat := by omega
  simp [rd_T59, List.getD_eq_getElem?_getD, List.getElem?_set_ne hne]
theorem set_rd {l : List S59} {j : Nat} (h : j < l.length) : l.set j (rd_T59 l (j : Int)) = l := by
  have e : rd_T59 l (j : Int) = l[j] := by simp [rd_T59, List.getD_eq_getElem?_getD, h]
  rw [e, List.set_getElem_self]

/-- What is known behind an Allocate that went well. -/
structure Undone (l l2 : List S59) (r g ge gc : Int) : Prop where
  f1 : findO l r g = (0, 0, 0, 12)
  f2 : findO l2 r g = (g, ge, gc, 0)
  f3 : relO l2 r g = (l, 0)
  f4 : ∀ pr pg, ¬ (pr = r ∧ pg = g) → findO l pr pg = findO l2 pr pg

theorem undone_set {l : List S59} {j : Nat} (hj : j < l.length) {x' : S59} {g ge gc : Int} (k : Nat)
    (h1 : fnd g (rd_T59 l (j : Int)).f2 = (0, 0, 0, 12)) (h2 : fnd g x'.f2 = (g, ge, gc, 0)) (h3 : idxU g x'.f2 0 = (k : Int)) (h4 : cutRow x' k = rd_T59 l (j : Int)) (h5 : ∀ pg, pg ≠ g → fnd pg (rd_T59 l (j : Int)).f2 = fnd pg x'.f2) :
    Undone l (l.set j x') (j : Int) g ge gc := by
  have hl : (l.set j x').length = l.length := by simp
  refine ⟨?_, ?_, ?_, fun pr pg hne => ?_⟩
  · unfold findO; rw [if_pos ⟨by omega, by omega⟩, h1]
  · unfold findO; rw [hl, if_pos ⟨by omega, by omega⟩, rd_set_same hj, h2]
  · have e : idxS (l.set j x') (j : Int) g = (k : Int) := by
      unfold idxS
      rw [if_neg (by omega), hl, if_neg (by omega), rd_set_same hj, h3]
    unfold relO
    rw [e, if_neg (by omega), rd_set_same hj, Int.toNat_natCast, Int.toNat_natCast, h4, List.set_set, set_rd hj]
  · unfold findO
    rw [hl]
    by_cases hr : 0 ≤ pr ∧ pr < (l.length : Int)
    · rw [if_pos hr, if_pos hr]
      by_cases e : pr = (j : Int)
      · rw [e, rd_set_same hj]
        exact h5 pg (fun e2 => hne ⟨e, e2⟩)
      · rw [rd_set_other hr.1 e]
    · rw [if_neg hr, if_neg hr]

theorem undone (a0 a1 a2 a3 a4 a5 : Int) {l : List S59} (h : okRows (grpO a0 a1 a2 a3 a4 a5) l) (code wd ge gc : Int) (he : (allocO a0 a1 a2 a3 a4 a5 l code wd ge gc).2.2.2 = 0) :
    Undone l (allocO a0 a1 a2 a3 a4 a5 l code wd ge gc).1 (allocO a0 a1 a2 a3 a4 a5 l code wd ge gc).2.1 (allocO a0 a1 a2 a3 a4 a5 l code wd ge gc).2.2.1 ge gc := by
  unfold allocO at he ⊢
  by_cases hb : badO a0 a1 a2 a3 a4 a5 code wd = true
  · rw [if_pos hb] at he; exact absurd he (by decide)
  · rw [if_neg hb] at he ⊢
    by_cases hw : widthsOk l code wd = false
    · rw [if_pos hw] at he; exact absurd he (by decide)
    · rw [if_neg hw] at he ⊢
      have hb2 := hb
      unfold badO at hb2
      simp only [Bool.or_eq_true, decide_eq_true_eq, beq_iff_eq, not_or] at hb2
      obtain ⟨⟨⟨⟨c0, c1⟩, c2⟩, c3⟩, c5⟩ := hb2
      cases hr : roomAt l code (grpO a0 a1 a2 a3 a4 a5 wd) with
      | some j =>
        obtain ⟨hjl, hjc⟩ := mem_rowsOf.1 (List.mem_of_find?_eq_some hr)
        have hmx := rd_mem hjl
        dsimp only
        unfold putRow
        rcases h.1 _ hmx with h2 | ⟨_, _, _, _, h4, h5⟩
        · omega
        · have hg := gap_none h5
          have hgl := gap0_le (rd_T59 l (j : Int)).f2
          have hlen := ins_len (rd_T59 l (j : Int)).f2 (gap0 (rd_T59 l (j : Int)).f2) ⟨(gap0 (rd_T59 l (j : Int)).f2 : Int), ⟨ge, gc⟩⟩ hgl
          have hpos : (rd_T59 l (j : Int)).f2.length ≠ 0 := fun e => h4 (List.eq_nil_of_length_eq_zero e)
          refine undone_set hjl (gap0 (rd_T59 l (j : Int)).f2) (fnd_none hg.2) (fnd_hit (z := ⟨(gap0 (rd_T59 l (j : Int)).f2 : Int), ⟨ge, gc⟩⟩) hg.1) (idxU_ins (z := ⟨(gap0 (rd_T59 l (j : Int)).f2 : Int), ⟨ge, gc⟩⟩) hgl hg.1) ?_ (fun pg hpg => (fnd_ins (fun e => hpg e.symm)).symm)
          unfold cutRow
          rw [if_neg (by dsimp only; omega)]
          dsimp only
          rw [erase_ins hgl]
      | none =>
        rw [hr] at he
        cases hf : freeAt l with
        | none => rw [hf] at he; simp at he
        | some j =>
          obtain ⟨hjl, hjc⟩ := mem_rowsOf.1 (List.mem_of_head? hf)
          have hmx := rd_mem hjl
          dsimp only
          have hx : rd_T59 l (j : Int) = ⟨-1, 0, []⟩ := by
            rcases h.1 _ hmx with ⟨e0, e1, e2⟩ | ⟨e0, _⟩
            · generalize rd_T59 l (j : Int) = x at e0 e1 e2
              obtain ⟨f0, f1, f2⟩ := x
              simp only at e0 e1 e2
              rw [e0, e1, e2]
            · omega
          refine undone_set hjl 0 (by rw [hx]; rfl) (by rfl) (by rfl) (by rw [hx]; rfl) (fun pg hpg => ?_)
          rw [hx]
          exact (rfl : fnd pg ([] : List S37) = (0, 0, 0, 12)).trans (fnd_none (u := [⟨0, ⟨ge, gc⟩⟩]) (fun z hz => by rw [List.mem_singleton.1 hz]; exact fun e => hpg e.symm)).symm

/-- Same of a list with itself. -/
theorem same_l {l : List S59} (hl : l.length ≤ 12) (hu : ∀ x ∈ l, x.f2.length ≤ 1000) (k : Nat) :
    (∀ i : Nat, i ≤ l.length → 13210 ≤ k + 1100 * i → solventref24_Same.l0 k l l (i : Int) = some true) ∧
    ∀ i j : Nat, i < l.length → j ≤ (rd_T59 l (i : Int)).f2.length → 12111 + (rd_T59 l (i : Int)).f2.length ≤ k + 1100 * i + j → solventref24_Same.l1 k l l (i : Int) (j : Int) = some true := by
  induction k using Nat.strongRecOn with
  | _ k ih =>
    refine ⟨fun i hi hk => ?_, fun i j hi hj hk => ?_⟩
    · by_cases hlt : i < l.length
      · obtain ⟨k2, hk2⟩ : ∃ k', k = k' + 1 + 1 := ⟨k - 2, by omega⟩
        subst hk2
        have hx := hu _ (rd_mem hlt)
        have e : (((rd_T59 l (i : Int)).f2.length : Int) != ((rd_T59 l (i : Int)).f2.length : Int)) = false := by simp
        have hr := (ih k2 (by omega)).2 i 0 hlt (by omega) (by omega)
        rw [solventref24_Same.l0, if_pos (by omega), if_pos (by omega), if_pos (by omega), if_pos rfl, if_pos rfl, e, solventref24_Same.j1, if_neg (by decide)]
        exact hr
      · obtain ⟨k2, hk2⟩ : ∃ k', k = k' + 1 := ⟨k - 1, by omega⟩
        subst hk2
        rw [solventref24_Same.l0, if_neg (by omega)]
    · obtain ⟨k2, hk2⟩ : ∃ k', k = k' + 1 := ⟨k - 1, by omega⟩
      subst hk2
      rw [solventref24_Same.l1]
      have ew : wrap64 ((i : Int) + 1) = ((i + 1 : Nat) : Int) := by unfold wrap64; omega
      rw [if_pos (by omega), if_pos (by omega)]
      by_cases hlt : j < (rd_T59 l (i : Int)).f2.length
      · have hx := hu _ (rd_mem hi)
        have ew2 : wrap64 ((j : Int) + 1) = ((j + 1 : Nat) : Int) := by unfold wrap64; omega
        have hr := (ih k2 (by omega)).2 i (j + 1) hi (by omega) (by omega)
        rw [if_pos (by omega), if_pos (by omega), if_pos (by omega), if_pos (by omega), if_neg (by simp), ew2]
        exact hr
      · have hr := (ih k2 (by omega)).1 (i + 1) (by omega) (by omega)
        rw [if_neg (by omega), ew]
        exact hr
theorem same_f {l : List S59} (hl : l.length ≤ 12) (hu : ∀ x ∈ l, x.f2.length ≤ 1000) (K : Nat) (hK : 20000 ≤ K) : solventref24_Same.f K l l = some true := by
  unfold solventref24_Same.f
  rw [if_pos rfl]
  exact (same_l hl hu K).1 0 (by omega) (by omega)

theorem alloc_err (a0 a1 a2 a3 a4 a5 : Int) (l : List S59) (code wd ge gc : Int) (h : ¬ (allocO a0 a1 a2 a3 a4 a5 l code wd ge gc).2.2.2 = 0) : (allocO a0 a1 a2 a3 a4 a5 l code wd ge gc).1 = [] := by
  unfold allocO at h ⊢
  by_cases hb : badO a0 a1 a2 a3 a4 a5 code wd = true
  · rw [if_pos hb]
  · rw [if_neg hb] at h ⊢
    by_cases hw : widthsOk l code wd = false
    · rw [if_pos hw]
    · rw [if_neg hw] at h ⊢
      cases hr : roomAt l code (grpO a0 a1 a2 a3 a4 a5 wd) with
      | some j => rw [hr] at h; exact absurd rfl h
      | none =>
        rw [hr] at h
        cases hf : freeAt l with
        | some j => rw [hf] at h; exact absurd rfl h
        | none => rfl

theorem undo_any (a0 a1 a2 a3 a4 a5 : Int) (A : Option Addr) (c : Nat) (l : List S59) (code wd ge gc pr pg : Int) (w : World) (hl : Kd.C k59 w A l.length l) (hc : l.length ≤ c) :
    Calls Try.prog 3 #[.agg #[.int .i64 a0, .int .i64 a1, .int .i64 a2, .int .i64 a3, .int .i64 a4, .int .i64 a5], .slice A l.length c, .int .i64 code, .int .i64 wd, .agg #[.int .i64 ge, .int .i64 gc], .agg #[.int .i64 pr, .int .i64 pg]] w fun e w' => e = .returned (.bool true) ∧ Below w.heap.size w w' := by
  have hml : maxLen < 9223372036854775808 := by decide
  have hlen : l.length ≤ maxLen := hl.2.1
  have hu : ∀ x ∈ l, x.f2.length ≤ maxLen := fun x hx => by
    obtain ⟨i, hi⟩ := List.mem_iff_getElem?.1 hx
    have hil := (List.getElem?_eq_some_iff.1 hi).1
    obtain ⟨_, _, _, _, _, _, _, _, h2⟩ := at_T59 hl (i : Int) (by omega) (by omega)
    have e : rd_T59 l (i : Int) = x := by simp [rd_T59, List.getD_eq_getElem?_getD, hi]
    rw [e] at h2
    exact h2.2.1
  obtain ⟨KV, bV, hV, hV2⟩ := valid_any a0 a1 a2 a3 a4 a5 l maxLen (by omega) hml hu
  obtain ⟨sB, hsm⟩ : ∃ sB, solventlaw24_small.f a0 a1 a2 a3 a4 a5 = some sB := by
    unfold solventlaw24_small.f
    split <;> exact ⟨_, rfl⟩
  cases sB with
  | false => exact undo_out1 a0 a1 a2 a3 a4 a5 A c l code wd ge gc pr pg w hl hc KV bV hsm hV
  | true =>
    cases bV with
    | false => exact undo_out2 a0 a1 a2 a3 a4 a5 A c l code wd ge gc pr pg w hl hc KV false hsm hV
    | true =>
      obtain ⟨hchk, hok, hlen2⟩ := hV2 rfl
      have h12 : l.length ≤ 12 := by
        have h := hsm
        unfold solventlaw24_small.f at h
        split at h
        · have h2 := of_decide_eq_true (Option.some.inj h)
          omega
        · cases h
      have hbl := ok_bnd a0 a1 a2 a3 a4 a5 hok h12
      have hal : stripes_Allocate.f a0 a1 a2 a3 a4 a5 l code wd ge gc = some (allocO a0 a1 a2 a3 a4 a5 l code wd ge gc) := by unfold stripes_Allocate.f; rw [if_pos hbl]
      by_cases he : (allocO a0 a1 a2 a3 a4 a5 l code wd ge gc).2.2.2 = 0
      · have U := undone a0 a1 a2 a3 a4 a5 hok code wd ge gc he
        have hok2 := alloc_ok a0 a1 a2 a3 a4 a5 hok code wd ge gc he
        have hbl2 := ok_bnd a0 a1 a2 a3 a4 a5 hok2.1 (by omega)
        generalize allocO a0 a1 a2 a3 a4 a5 l code wd ge gc = p at hal he U hok2 hbl2
        obtain ⟨l2, r, g, er⟩ := p
        dsimp only at he U hok2 hbl2
        subst he
        have hre : stripes_Release.f l2 r g = some (l, 0) := by unfold stripes_Release.f; rw [if_pos hbl2, U.f3]
        obtain ⟨⟨q1, q2, q3, q4⟩, hq⟩ : ∃ q, q = findO l pr pg := ⟨_, rfl⟩
        obtain ⟨⟨p1, p2, p3, p4⟩, hp⟩ : ∃ q, q = findO l2 pr pg := ⟨_, rfl⟩
        obtain ⟨K, hK⟩ : ∃ K, 20000 ≤ K := ⟨20000, Nat.le_refl _⟩
        refine undo_ok a0 a1 a2 a3 a4 a5 A c l code wd ge gc pr pg w hl hc KV K l2 r g q1 q2 q3 q4 p1 p2 p3 p4 hsm hV hal (by rw [find_f hbl, U.f1]) (by rw [find_f hbl2, U.f2]) hre (by rw [find_f hbl, hq]) (by rw [find_f hbl2, hp]) (same_f h12 (fun x hx => ?_) K hK) ?_
        · obtain ⟨i, hi⟩ := List.mem_iff_getElem?.1 hx
          exact bnd_at hbl i x hi
        · by_cases hpr : pr = r ∧ pg = g
          · exact .inl hpr
          · have h4 := U.f4 pr pg hpr
            rw [← hq, ← hp] at h4
            simp only [Prod.mk.injEq] at h4
            exact .inr ⟨hpr, h4.1.symm, h4.2.1.symm, h4.2.2.1.symm, h4.2.2.2.symm⟩
      · have hnil := alloc_err a0 a1 a2 a3 a4 a5 l code wd ge gc he
        generalize allocO a0 a1 a2 a3 a4 a5 l code wd ge gc = p at hal he hnil
        obtain ⟨l2, r, g, er⟩ := p
        dsimp only at he hnil
        subst hnil
        exact undo_err a0 a1 a2 a3 a4 a5 A c l code wd ge gc pr pg w hl hc KV r g er hsm hV hal (by simpa using he)
end Go.Proofs.Ytlodlblkmnhaeaa

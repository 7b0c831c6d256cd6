/- The reference holds a right list valid. -/
import Derived.Test.YtlodlblkmnhaeaaPureRow
import Derived.Test.YtlodlblkmnhaeaaPx6b
namespace Go.Proofs.Ytlodlblkmnhaeaa
set_option linter.unusedVariables false
set_option linter.unusedSimpArgs false
open Go.RowKit Go.Lib Go.Proofs.Ytlodlblkmnhaeaa.P Go.Proofs.YtlodlblkmnhaeaaW.PrintWords

theorem in_wi (a lo hi : Int) : solventref13_in.f a lo hi = some (wi a lo hi) := by
  unfold solventref13_in.f wi
  by_cases h : lo ≤ a
  · rw [if_pos (by omega), decide_eq_true h, Bool.true_and]
  · rw [if_neg (by omega), decide_eq_false h, Bool.false_and]
theorem check13 {a0 a1 a2 a3 a4 a5 : Int} (h : chk a0 a1 a2 a3 a4 a5 = 0) (k : Nat) (hk : 1 ≤ k) : solventref13_Check.f k a0 a1 a2 a3 a4 a5 = some 0 := by
  obtain ⟨k, rfl⟩ : ∃ k', k = k' + 1 := ⟨k - 1, by omega⟩
  unfold chk at h
  split at h
  · next h2 =>
    obtain ⟨h0, h1, h2, h3, h4, h5, h6⟩ := h2
    have b0 := wi_bounds h0
    have b1 := wi_bounds h1
    have b3 := wi_bounds h3
    have e1 : wrap64 (a0 - 1) = a0 - 1 := by unfold wrap64; omega
    have e2 : Int.tmod a0 a1 = 0 := by rw [Int.tmod_eq_emod_of_nonneg (by omega)]; exact h6
    unfold solventref13_Check.f
    simp only [in_wi, Option.bind_some, h0, h1, h2, h4, h5, if_pos]
    rw [solventref13_Check.j0, if_neg (by decide), if_neg (by omega), if_pos e2, in_wi, e1, h3]
    rfl
  · cases h
theorem groups14 {a0 a1 a2 a3 a4 a5 : Int} (h : chk a0 a1 a2 a3 a4 a5 = 0) (wd : Int) (k : Nat) (hk : 1 ≤ k) : solventref14_Groups.f k a0 a1 a2 a3 a4 a5 wd = some (grpO a0 a1 a2 a3 a4 a5 wd) := by
  have h0 := groups_f a0 a1 a2 a3 a4 a5 wd
  rw [← h0]
  unfold solventref14_Groups.f solventref14_valid.f layout_Groups.f layout_valid.f design_Check.f
  rw [check13 h k hk, h]

section
variable {G : Int}
theorem okU_at {u : List S37} (h : okU G u) {i : Nat} (hi : i < u.length) : 0 ≤ (rd_T37 u (i : Int)).f0 ∧ (rd_T37 u (i : Int)).f0 < G := by
  have e : rd_T37 u (i : Int) = u[i] := by simp [rd_T37, List.getD_eq_getElem?_getD, hi]
  rw [e]
  exact h.2 _ (List.getElem_mem hi)
theorem okU_next {u : List S37} (h : okU G u) {i : Nat} (hi : i + 1 < u.length) : (rd_T37 u (i : Int)).f0 < (rd_T37 u ((i + 1 : Nat) : Int)).f0 := by
  have e : rd_T37 u (i : Int) = u[i] := by simp [rd_T37, List.getD_eq_getElem?_getD, show i < u.length by omega]
  have e2 : rd_T37 u ((i + 1 : Nat) : Int) = u[i + 1] := by
    unfold rd_T37
    rw [Int.toNat_natCast, List.getD_eq_getElem?_getD, List.getElem?_eq_getElem hi]
    rfl
  rw [e, e2]
  exact (List.pairwise_iff_getElem.1 h.1) i (i + 1) (by omega) hi (by omega)
theorem right_l0 {u : List S37} (h : okU G u) (hl : u.length ≤ 64) (x0 x1 : Int) : ∀ (k i : Nat), i ≤ u.length → u.length - i < k → solventref24_right.l0 k G (i : Int) x0 x1 u = some true
  | 0, i, _, hk => by omega
  | k + 1, i, hi, hk => by
    rw [solventref24_right.l0]
    by_cases hlt : i < u.length
    · obtain ⟨h0, h1⟩ := okU_at h hlt
      have ew : wrap64 ((i : Int) + 1) = ((i + 1 : Nat) : Int) := by unfold wrap64; omega
      rw [if_pos (by omega), if_pos (by omega), if_neg (by omega), if_neg (by omega), ew, right_l0 h hl x0 x1 k (i + 1) (by omega) (by omega)]
      by_cases hp : i = 0
      · rw [if_neg (by omega)]
      · obtain ⟨i', rfl⟩ : ∃ i', i = i' + 1 := ⟨i - 1, by omega⟩
        have ew2 : wrap64 (((i' + 1 : Nat) : Int) - 1) = (i' : Int) := by unfold wrap64; omega
        have := okU_next h hlt
        rw [if_pos (by omega), ew2, if_pos (by omega), if_pos (by omega), if_neg (by omega)]
    · rw [if_neg (by omega)]
end
theorem right_f {a0 a1 a2 a3 a4 a5 : Int} (h : chk a0 a1 a2 a3 a4 a5 = 0) {x : S59} (hx : okRow (grpO a0 a1 a2 a3 a4 a5) x) (k : Nat) (hk : 70 ≤ k) : solventref24_right.f k a0 a1 a2 a3 a4 a5 x.f0 x.f1 x.f2 = some true := by
  obtain ⟨k, rfl⟩ : ∃ k', k = k' + 1 := ⟨k - 1, by omega⟩
  unfold solventref24_right.f
  rcases hx with ⟨h0, h1, h2⟩ | ⟨h0, h1, h2, h3, h4, h5⟩
  · rw [if_pos h0, if_pos h1, h2]; rfl
  · have hl := okU_len h5 (grp_bounds a0 a1 a2 a3 a4 a5 x.f1).1
    have hg := (grp_bounds a0 a1 a2 a3 a4 a5 x.f1).2
    have e : ((x.f2.length : Int) == 0) = false := by
      have : x.f2.length ≠ 0 := fun e => h4 (List.eq_nil_of_length_eq_zero e)
      rw [beq_eq_false_iff_ne]
      omega
    rw [if_neg (by omega), if_neg (by omega), if_neg (by omega), if_neg (by omega), if_neg (by omega), e, solventref24_right.j0, if_neg (by decide), groups14 h _ k (by omega), Option.bind_some]
    exact right_l0 h5 (by omega) x.f0 x.f1 k 0 (by omega) (by omega)

theorem valid_l {a0 a1 a2 a3 a4 a5 : Int} (h : chk a0 a1 a2 a3 a4 a5 = 0) {l : List S59} (hl : okRows (grpO a0 a1 a2 a3 a4 a5) l) (hn : l.length ≤ 12) : ∀ (k : Nat),
    (∀ i : Nat, i ≤ l.length → (12 - i) * 14 + 100 ≤ k → solventref24_Valid.l0 k l (i : Int) a0 a1 a2 a3 a4 a5 = some true) ∧
    ∀ i j : Nat, i < l.length → j ≤ i → (12 - i - 1) * 14 + 100 + (i - j) + 1 ≤ k → solventref24_Valid.l1 k l (i : Int) (j : Int) a0 a1 a2 a3 a4 a5 = some true
  | 0 => ⟨fun i _ hk => by omega, fun i j _ _ hk => by omega⟩
  | k + 1 => by
    obtain ⟨ih0, ih1⟩ := valid_l h hl hn k
    refine ⟨fun i hi hk => ?_, fun i j hi hj hk => ?_⟩
    · rw [solventref24_Valid.l0]
      by_cases hlt : i < l.length
      · rw [if_pos (by omega), if_pos (by omega), right_f h (hl.1 _ (rd_mem hlt)) k (by omega), Option.bind_some, if_pos rfl]
        exact ih1 i 0 hlt (by omega) (by omega)
      · rw [if_neg (by omega)]
    · rw [solventref24_Valid.l1]
      by_cases hlt : j < i
      · have ew : wrap64 ((j : Int) + 1) = ((j + 1 : Nat) : Int) := by unfold wrap64; omega
        have hr := ih1 i (j + 1) hi (by omega) (by omega)
        rw [if_pos (by omega), if_pos (by omega), if_pos (by omega), if_pos (by omega), if_pos (by omega), ew, hr]
        by_cases e : (rd_T59 l (j : Int)).f0 = (rd_T59 l (i : Int)).f0
        · rw [if_pos e, if_pos (hl.2 _ (rd_mem (by omega)) _ (rd_mem hi) e)]
        · rw [if_neg e]
      · have ew : wrap64 ((i : Int) + 1) = ((i + 1 : Nat) : Int) := by unfold wrap64; omega
        rw [if_neg (by omega), ew]
        exact ih0 (i + 1) (by omega) (by omega)
theorem valid_f {a0 a1 a2 a3 a4 a5 : Int} (h : chk a0 a1 a2 a3 a4 a5 = 0) {l : List S59} (hl : okRows (grpO a0 a1 a2 a3 a4 a5) l) (hlen : (l.length : Int) = a2) (hn : l.length ≤ 12) (k : Nat) (hk : 300 ≤ k) : solventref24_Valid.f k a0 a1 a2 a3 a4 a5 l = some true := by
  obtain ⟨k, rfl⟩ : ∃ k', k = k' + 1 := ⟨k - 1, by omega⟩
  unfold solventref24_Valid.f
  have e : ((l.length : Int) != a2) = false := by rw [hlen]; simp
  rw [check13 h _ (by omega), Option.bind_some, if_pos rfl, e, solventref24_Valid.j0, if_neg (by decide)]
  exact (valid_l h hl hn k).1 0 (by omega) (by omega)

/-- New's list is right. -/
theorem new_okRows {a0 a1 a2 a3 a4 a5 : Int} (G : Int → Int) : okRows G (newO a0 a1 a2 a3 a4 a5).1 := by
  have hf : ∀ x ∈ (newO a0 a1 a2 a3 a4 a5).1, x = freeRow := by
    intro x hx
    unfold newO at hx
    split at hx
    · exact List.eq_of_mem_replicate hx
    · cases hx
  exact ⟨fun x hx => by rw [hf x hx]; exact free_ok G, fun x hx y hy _ => by rw [hf x hx, hf y hy]⟩
theorem new_err {a0 a1 a2 a3 a4 a5 : Int} (h : (newO a0 a1 a2 a3 a4 a5).2 = 0) : chk a0 a1 a2 a3 a4 a5 = 0 ∧ ((newO a0 a1 a2 a3 a4 a5).1.length : Int) = a2 := by
  unfold newO at h ⊢
  by_cases hc : chk a0 a1 a2 a3 a4 a5 = 0
  · rw [if_pos hc]
    have := chk_rows hc
    exact ⟨hc, by simp; omega⟩
  · rw [if_neg hc] at h; cases h

theorem stay_l0 {a0 a1 a2 a3 a4 a5 : Int} (h : chk a0 a1 a2 a3 a4 a5 = 0) (ops : List S48) (hops : ops.length ≤ 60) : ∀ (k i : Nat) (l : List S59), okRows (grpO a0 a1 a2 a3 a4 a5) l → (l.length : Int) = a2 → l.length ≤ 12 → i ≤ ops.length → 400 + (ops.length - i) ≤ k →
    solventlaw24_StripesStayValid.l0 k ops l (i : Int) a0 a1 a2 a3 a4 a5 = some true
  | 0, i, l, _, _, _, _, hk => by omega
  | k + 1, i, l, hl, hlen, hn, hi, hk => by
    rw [solventlaw24_StripesStayValid.l0]
    by_cases hlt : i < ops.length
    · have ew : wrap64 ((i : Int) + 1) = ((i + 1 : Nat) : Int) := by unfold wrap64; omega
      obtain ⟨h1, h2⟩ := play_ok a0 a1 a2 a3 a4 a5 hl (rd_T48 ops (i : Int))
      rw [if_pos (by omega), if_pos (by omega), play_f a0 a1 a2 a3 a4 a5 hl (ok_bnd _ _ _ _ _ _ hl hn) _ k (by omega), Option.bind_some, valid_f h h1 (by omega) (by omega) k (by omega), Option.bind_some, if_pos rfl, ew]
      exact stay_l0 h ops hops k (i + 1) _ h1 (by omega) (by omega) (by omega) (by omega)
    · rw [if_neg (by omega)]; rfl

theorem stay_true (a0 a1 a2 a3 a4 a5 : Int) (ops : List S48) : ∃ k, solventlaw24_StripesStayValid.f k a0 a1 a2 a3 a4 a5 ops = some true := by
  refine ⟨500, ?_⟩
  unfold solventlaw24_StripesStayValid.f stripes_New.f
  have hj : ∀ (l : List S59), solventlaw24_StripesStayValid.j0 500 ops l true a0 a1 a2 a3 a4 a5 = some true := fun l => by
    rw [show (500 : Nat) = 499 + 1 from rfl, solventlaw24_StripesStayValid.j0, if_pos rfl]; rfl
  unfold solventlaw24_small.f
  by_cases hs : a0 ≤ 12
  · rw [if_pos hs, Option.bind_some, Option.bind_some]
    by_cases hr : a2 ≤ 12
    · rw [decide_eq_true hr, if_pos rfl]
      by_cases he : (newO a0 a1 a2 a3 a4 a5).2 = 0
      · rw [if_pos he]
        obtain ⟨hc, hlen⟩ := new_err he
        by_cases h60 : (ops.length : Int) > 60
        · rw [decide_eq_true h60]; exact hj _
        · rw [decide_eq_false h60, show (500 : Nat) = 499 + 1 from rfl, solventlaw24_StripesStayValid.j0, if_neg (by decide)]
          exact stay_l0 hc ops (by omega) 499 0 _ (new_okRows _) hlen (by omega) (by omega) (by omega)
      · rw [if_neg he]; exact hj _
    · rw [decide_eq_false hr, if_neg (by decide)]; exact hj _
  · rw [if_neg hs, Option.bind_some, Option.bind_some, if_neg (by decide)]; exact hj _
end Go.Proofs.Ytlodlblkmnhaeaa

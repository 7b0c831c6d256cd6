/- The plain side of StripesBounded: rows held by a code against the peak of its stripes. -/
import Derived.Test.YtlodlblkmnhaeaaPureRow
import Derived.Test.YtlodlblkmnhaeaaPx7
namespace Go.Proofs.Ytlodlblkmnhaeaa
set_option linter.unusedVariables false
set_option linter.unusedSimpArgs false
open Go.RowKit Go.Lib Go.Proofs.Ytlodlblkmnhaeaa.P Go.Proofs.YtlodlblkmnhaeaaW.PrintWords Go.Proofs.YtlodlblkmnhaeaaW.PrintMore

/-- A sum over the rows. -/
def sm (φ : S59 → Nat) (l : List S59) : Nat := (l.map φ).sum
theorem sm_set (φ : S59 → Nat) : ∀ (l : List S59) (j : Nat) (x : S59), j < l.length → sm φ (l.set j x) + φ (rd_T59 l (j : Int)) = sm φ l + φ x
  | [], j, x, h => by simp at h
  | y :: r, 0, x, h => by simp [sm, rd_T59]; omega
  | y :: r, j + 1, x, h => by
    have ih := sm_set φ r j x (by simpa using h)
    have e : rd_T59 (y :: r) ((j + 1 : Nat) : Int) = rd_T59 r (j : Int) := by simp [rd_T59, List.getD_eq_getElem?_getD]
    rw [e]
    simp only [sm, List.set_cons_succ, List.map_cons, List.sum_cons] at ih ⊢
    omega
def h1 (code : Int) (x : S59) : Nat := if x.f0 = code then 1 else 0
def u1 (code : Int) (x : S59) : Nat := if x.f0 = code then x.f2.length else 0
theorem rows_map (l : List S59) : (List.range l.length).map (fun j : Nat => rd_T59 l (j : Int)) = l := by
  apply List.ext_getElem?
  intro i
  by_cases h : i < l.length
  · simp [h, rd_T59, List.getD_eq_getElem?_getD]
  · simp [h]
theorem filter_sum (p : Nat → Bool) : ∀ L : List Nat, (L.filter p).length = (L.map fun j => if p j = true then 1 else 0).sum
  | [] => rfl
  | x :: r => by
    have ih := filter_sum p r
    rw [List.filter_cons, List.map_cons, List.sum_cons]
    by_cases h : p x = true
    · rw [if_pos h, if_pos h, List.length_cons, ih]; omega
    · rw [if_neg h, if_neg h, ih]; omega
theorem flat_sum {β : Type} (p : Nat → Bool) (f : Nat → List β) : ∀ L : List Nat, ((L.filter p).flatMap f).length = (L.map fun j => if p j = true then (f j).length else 0).sum
  | [] => rfl
  | x :: r => by
    have ih := flat_sum p f r
    rw [List.filter_cons, List.map_cons, List.sum_cons]
    by_cases h : p x = true
    · rw [if_pos h, if_pos h, List.flatMap_cons, List.length_append, ih]
    · rw [if_neg h, if_neg h, ih]; omega
theorem held_sm (code : Int) (l : List S59) : (rowsOf code l).length = sm (h1 code) l := by
  unfold rowsOf sm
  rw [filter_sum]
  conv => rhs; rw [← rows_map l, List.map_map]
  congr 1
  apply List.map_congr_left
  intro j _
  simp [h1]
theorem strs_sm (code : Int) (l : List S59) : (strs code l).length = sm (u1 code) l := by
  unfold strs rowsOf sm
  rw [flat_sum]
  conv => rhs; rw [← rows_map l, List.map_map]
  congr 1
  apply List.map_congr_left
  intro j _
  simp [u1, rowStr]
theorem sm_le (φ : S59 → Nat) (M : Nat) : ∀ l : List S59, (∀ x ∈ l, φ x ≤ M) → sm φ l ≤ l.length * M
  | [], _ => by simp [sm]
  | x :: r, h => by
    have ih := sm_le φ M r (fun y hy => h y (List.mem_cons_of_mem _ hy))
    have hx := h x (List.mem_cons_self ..)
    simp only [sm, List.map_cons, List.sum_cons, List.length_cons, Nat.add_mul] at ih ⊢
    omega
/-- Where all rows of a code are full. -/
theorem full_sm {code : Int} {G : Int} : ∀ l : List S59, (∀ x ∈ l, x.f0 = code → (x.f2.length : Int) = G) → (sm (u1 code) l : Int) = (sm (h1 code) l : Int) * G
  | [], _ => by simp [sm]
  | x :: r, h => by
    have ih := full_sm r (fun y hy => h y (List.mem_cons_of_mem _ hy))
    simp only [sm, List.map_cons, List.sum_cons] at ih ⊢
    by_cases e : x.f0 = code
    · have hx := h x (List.mem_cons_self ..) e
      have e1 : u1 code x = x.f2.length := by unfold u1; rw [if_pos e]
      have e2 : h1 code x = 1 := by unfold h1; rw [if_pos e]
      rw [e1, e2, Int.natCast_add, ih, Int.natCast_add, Int.add_mul, hx]
      omega
    · have e1 : u1 code x = 0 := by unfold u1; rw [if_neg e]
      have e2 : h1 code x = 0 := by unfold h1; rw [if_neg e]
      rw [e1, e2, Nat.zero_add, Nat.zero_add]
      exact ih

/-- What the loop keeps. -/
def InvB (a0 a1 a2 a3 a4 a5 code wd : Int) (l : List S59) (p : Int) : Prop :=
  okRows (grpO a0 a1 a2 a3 a4 a5) l ∧ (∀ x ∈ l, x.f0 = code → x.f1 = wd) ∧ ((sm (h1 code) l : Int) = 0 ∨ ((sm (h1 code) l : Int) - 1) * grpO a0 a1 a2 a3 a4 a5 wd + 1 ≤ p)

theorem set_width {code wd : Int} {l : List S59} {j : Nat} {x : S59} (h : ∀ x ∈ l, x.f0 = code → x.f1 = wd) (hx : x.f0 = code → x.f1 = wd) : ∀ y ∈ l.set j x, y.f0 = code → y.f1 = wd := by
  intro y hy e
  rcases List.mem_or_eq_of_mem_set hy with hy2 | hy2
  · exact h y hy2 e
  · rw [hy2] at e ⊢; exact hx e
theorem inv_less {H H' G p p' : Int} (hG : 0 ≤ G) (h : H = 0 ∨ (H - 1) * G + 1 ≤ p) (h1 : 0 ≤ H') (h2 : H' ≤ H) (hp : p ≤ p') : H' = 0 ∨ (H' - 1) * G + 1 ≤ p' := by
  rcases h with h | h
  · exact .inl (by omega)
  · by_cases h0 : H' = 0
    · exact .inl h0
    · have := Int.mul_le_mul_of_nonneg_right (show H' - 1 ≤ H - 1 by omega) hG
      exact .inr (by omega)

theorem inv_play (a0 a1 a2 a3 a4 a5 code wd : Int) (hcode : 0 ≤ code) {l : List S59} {p : Int} (h : InvB a0 a1 a2 a3 a4 a5 code wd l p) (o : S48) (hs : ¬ (o.f1 = code ∧ o.f2 ≠ wd)) {p' : Int} (hp : p ≤ p') (hu : (sm (u1 code) (playO a0 a1 a2 a3 a4 a5 l o) : Int) ≤ p') :
    InvB a0 a1 a2 a3 a4 a5 code wd (playO a0 a1 a2 a3 a4 a5 l o) p' := by
  obtain ⟨hok, hw, hH⟩ := h
  have hg := (grp_bounds a0 a1 a2 a3 a4 a5 wd).1
  refine ⟨(play_ok a0 a1 a2 a3 a4 a5 hok o).1, ?_⟩
  have same : (∀ x ∈ l, x.f0 = code → x.f1 = wd) ∧ ((sm (h1 code) l : Int) = 0 ∨ ((sm (h1 code) l : Int) - 1) * grpO a0 a1 a2 a3 a4 a5 wd + 1 ≤ p') := ⟨hw, inv_less hg hH (by omega) (Int.le_refl _) hp⟩
  revert hu
  unfold playO
  by_cases h0 : o.f0 = true
  · rw [if_pos h0]
    by_cases hb : o.f3 < 0 ∨ o.f3 ≥ ((strs o.f1 l).length : Int)
    · rw [if_pos hb]; exact fun _ => same
    · rw [if_neg hb]
      intro _
      have hm := rd29_mem (l := strs o.f1 l) (i := o.f3) (by omega) (by omega)
      generalize rd_T29 (strs o.f1 l) o.f3 = s at hm
      have hi := idxS_mem hm
      obtain ⟨j, k, hj, hjl, hk, e, _⟩ := idxS_cases l s.f0 s.f1 (by omega)
      unfold relO
      rw [if_neg (by omega), hj, Int.toNat_natCast]
      rw [hj] at e hk
      rw [e, Int.toNat_natCast]
      have hmx := rd_mem hjl
      have hset := sm_set (h1 code) l j (cutRow (rd_T59 l (j : Int)) k) hjl
      generalize rd_T59 l (j : Int) = x at hmx hset hk ⊢
      have hc : (cutRow x k).f0 = code → x.f0 = code ∧ (cutRow x k).f1 = x.f1 := by
        unfold cutRow
        split
        · intro e2; simp at e2; omega
        · exact fun e2 => ⟨e2, rfl⟩
      have hle : h1 code (cutRow x k) ≤ h1 code x := by
        unfold h1
        by_cases e2 : (cutRow x k).f0 = code
        · rw [if_pos e2, if_pos (hc e2).1]; omega
        · rw [if_neg e2]; omega
      dsimp only
      exact ⟨set_width hw (fun e2 => by rw [(hc e2).2]; exact hw x hmx (hc e2).1), inv_less hg hH (by omega) (by omega) hp⟩
  · rw [if_neg h0]
    by_cases he : (allocO a0 a1 a2 a3 a4 a5 l o.f1 o.f2 o.f4.f0 o.f4.f1).2.2.2 = 0
    · rw [if_pos he]
      generalize o.f4.f0 = ge at he ⊢
      generalize o.f4.f1 = gc at he ⊢
      generalize o.f1 = c at hs he ⊢
      generalize o.f2 = w at hs he ⊢
      unfold allocO at he ⊢
      by_cases hb : badO a0 a1 a2 a3 a4 a5 c w = true
      · rw [if_pos hb] at he; exact absurd he (by decide)
      · rw [if_neg hb] at he ⊢
        by_cases hwd : widthsOk l c w = false
        · rw [if_pos hwd] at he; exact absurd he (by decide)
        · rw [if_neg hwd] at he ⊢
          cases hr : roomAt l c (grpO a0 a1 a2 a3 a4 a5 w) with
          | some j =>
            intro _
            obtain ⟨hjl, hjc⟩ := mem_rowsOf.1 (List.mem_of_find?_eq_some hr)
            have hmx := rd_mem hjl
            dsimp only
            unfold putRow
            have hset := fun y => sm_set (h1 code) l j y hjl
            generalize rd_T59 l (j : Int) = x at hmx hset hjc ⊢
            have hset2 := hset ⟨x.f0, x.f1, insAt x.f2 (gap0 x.f2) ⟨(gap0 x.f2 : Int), ⟨ge, gc⟩⟩⟩
            have e3 : h1 code ⟨x.f0, x.f1, insAt x.f2 (gap0 x.f2) ⟨(gap0 x.f2 : Int), ⟨ge, gc⟩⟩⟩ = h1 code x := rfl
            exact ⟨set_width hw (fun e2 => hw x hmx e2), inv_less hg hH (by omega) (by omega) hp⟩
          | none =>
            rw [hr] at he
            cases hf : freeAt l with
            | none => rw [hf] at he; simp at he
            | some j =>
              obtain ⟨hjl, hjc⟩ := mem_rowsOf.1 (List.mem_of_head? hf)
              dsimp only
              intro hu
              have hset := sm_set (h1 code) l j ⟨c, w, [⟨0, ⟨ge, gc⟩⟩]⟩ hjl
              have hsetu := sm_set (u1 code) l j ⟨c, w, [⟨0, ⟨ge, gc⟩⟩]⟩ hjl
              have hx0 : h1 code (rd_T59 l (j : Int)) = 0 := by unfold h1; rw [if_neg (by omega)]
              have hy0 : u1 code (rd_T59 l (j : Int)) = 0 := by unfold u1; rw [if_neg (by omega)]
              rw [hx0] at hset
              rw [hy0] at hsetu
              by_cases hc : c = code
              · have hwe : w = wd := by
                  by_cases e : w = wd
                  · exact e
                  · exact absurd ⟨hc, e⟩ hs
                subst hc hwe
                have e1 : h1 c ⟨c, w, [⟨0, ⟨ge, gc⟩⟩]⟩ = 1 := by unfold h1; rw [if_pos rfl]
                have e2 : u1 c ⟨c, w, [⟨0, ⟨ge, gc⟩⟩]⟩ = 1 := by unfold u1; rw [if_pos rfl]; rfl
                have hfull := full_sm (code := c) (G := grpO a0 a1 a2 a3 a4 a5 w) l (fun x hx ex => by
                  obtain ⟨i, hi⟩ := List.mem_iff_getElem?.1 hx
                  have hil : i < l.length := (List.getElem?_eq_some_iff.1 hi).1
                  have er : rd_T59 l (i : Int) = x := by simp [rd_T59, List.getD_eq_getElem?_getD, hi]
                  unfold roomAt at hr
                  have := List.find?_eq_none.1 hr i (mem_rowsOf.2 ⟨hil, by rw [er]; exact ex⟩)
                  rw [er] at this
                  simpa using this)
                rw [e1] at hset
                rw [e2] at hsetu
                refine ⟨set_width hw (fun _ => rfl), .inr ?_⟩
                have e4 : (sm (h1 c) (l.set j ⟨c, w, [⟨0, ⟨ge, gc⟩⟩]⟩) : Int) - 1 = (sm (h1 c) l : Int) := by omega
                rw [e4, ← hfull]
                omega
              · have e1 : h1 code ⟨c, w, [⟨0, ⟨ge, gc⟩⟩]⟩ = 0 := by unfold h1; rw [if_neg hc]
                rw [e1] at hset
                exact ⟨set_width hw (fun e2 => absurd e2 hc), inv_less hg hH (by omega) (by omega) hp⟩
    · rw [if_neg he]; exact fun _ => same

theorem sm_pos {φ : S59 → Nat} : ∀ {l : List S59}, 0 < sm φ l → ∃ x ∈ l, 0 < φ x
  | [], h => by simp [sm] at h
  | x :: r, h => by
    by_cases hx : 0 < φ x
    · exact ⟨x, List.mem_cons_self .., hx⟩
    · obtain ⟨y, hy, h2⟩ := sm_pos (φ := φ) (l := r) (by simp only [sm, List.map_cons, List.sum_cons] at h ⊢; omega)
      exact ⟨y, List.mem_cons_of_mem _ hy, h2⟩
theorem group_pos {a0 a1 a2 a3 a4 a5 code wd : Int} (hcode : 0 ≤ code) {l : List S59} {p : Int} (h : InvB a0 a1 a2 a3 a4 a5 code wd l p) (hH : 0 < sm (h1 code) l) : 1 ≤ grpO a0 a1 a2 a3 a4 a5 wd := by
  obtain ⟨x, hx, h2⟩ := sm_pos hH
  have e : x.f0 = code := by
    unfold h1 at h2
    by_cases e : x.f0 = code
    · exact e
    · rw [if_neg e] at h2; omega
  have hw := h.2.1 x hx e
  rcases h.1.1 x hx with h3 | ⟨_, _, _, _, h4, h5⟩
  · omega
  · obtain ⟨y, hy⟩ := List.exists_mem_of_ne_nil _ h4
    have := h5.2 y hy
    rw [hw] at this
    omega
theorem sm_u {code : Int} {l : List S59} (hb : bnd l = true) (hn : l.length ≤ 12) : sm (u1 code) l ≤ 12000 := by
  have h := sm_le (u1 code) 1000 l (fun x hx => by
    obtain ⟨i, hi⟩ := List.mem_iff_getElem?.1 hx
    have := bnd_at hb i x hi
    unfold u1
    split <;> omega)
  have := Nat.mul_le_mul_right 1000 hn
  omega
theorem ceil_ok {H p G : Int} (hG : 1 ≤ G) (hG2 : G ≤ 64) (hp0 : 0 ≤ p) (hp : p ≤ 20000) (h : H = 0 ∨ (H - 1) * G + 1 ≤ p) (hH : 0 < H) : ¬ H > wrap64 (Int.tdiv (wrap64 (wrap64 (p + G) - 1)) G) := by
  have e1 : wrap64 (p + G) = p + G := by unfold wrap64; omega
  have e2 : wrap64 (p + G - 1) = p + G - 1 := by unfold wrap64; omega
  rw [e1, e2, Int.tdiv_eq_ediv_of_nonneg (by omega)]
  have h0 : 0 ≤ (p + G - 1) / G := Int.ediv_nonneg (by omega) (by omega)
  have h2 : (p + G - 1) / G ≤ p + G - 1 := Int.ediv_le_self _ (by omega)
  have e3 : wrap64 ((p + G - 1) / G) = (p + G - 1) / G := by unfold wrap64; omega
  rw [e3]
  have h3 : H * G ≤ p + G - 1 := by
    rcases h with h | h
    · omega
    · rw [Int.sub_mul, Int.one_mul] at h; omega
  have := Int.le_ediv_of_mul_le (show 0 < G by omega) h3
  omega
theorem mx_le {a b : Int} : a ≤ mx a b ∧ b ≤ mx a b := by unfold mx; split <;> omega
theorem mx_or (a b : Int) : mx a b = a ∨ mx a b = b := by unfold mx; split <;> simp

theorem bnd_loop (a0 a1 a2 a3 a4 a5 code wd : Int) (ops : List S48) (hops : ops.length ≤ 60) : ∀ (k i : Nat) (l : List S59) (p : Int), okRows (grpO a0 a1 a2 a3 a4 a5) l → (0 ≤ code → InvB a0 a1 a2 a3 a4 a5 code wd l p) → l.length ≤ 12 → 0 ≤ p → p ≤ 20000 → i ≤ ops.length → 10 + 2 * (ops.length - i) ≤ k →
    solventlaw24_StripesBounded.l0 k ops code wd l (grpO a0 a1 a2 a3 a4 a5 wd) p (i : Int) a0 a1 a2 a3 a4 a5 = some true := by
  intro k
  induction k using Nat.strongRecOn with
  | _ k ih =>
    intro i l p hok hinv hn hp0 hp hi hk
    obtain ⟨k, rfl⟩ : ∃ k', k = k' + 1 + 1 := ⟨k - 2, by omega⟩
    rw [solventlaw24_StripesBounded.l0]
    by_cases hlt : i < ops.length
    · have ew : wrap64 ((i : Int) + 1) = ((i + 1 : Nat) : Int) := by unfold wrap64; omega
      rw [if_pos (by omega), if_pos (by omega)]
      generalize ho : rd_T48 ops (i : Int) = o
      have hgo : ∀ b : Bool, (b = true ∨ ¬ (o.f1 = code ∧ o.f2 ≠ wd)) → solventlaw24_StripesBounded.j2 (k + 1) ops code wd l (grpO a0 a1 a2 a3 a4 a5 wd) p (i : Int) b a0 a1 a2 a3 a4 a5 = some true := by
        intro b hb
        rw [solventlaw24_StripesBounded.j2]
        by_cases hb2 : b = true
        · rw [if_pos hb2, ew]
          exact ih k (by omega) (i + 1) l p hok hinv hn hp0 hp (by omega) (by omega)
        · have hs := hb.resolve_left hb2
          obtain ⟨h1_, h2_⟩ := play_ok a0 a1 a2 a3 a4 a5 hok o
          have hbl := ok_bnd a0 a1 a2 a3 a4 a5 h1_ (by omega)
          have hU := sm_u (code := code) hbl (by omega)
          have hm := mx_le (a := p) (b := ((strs code (playO a0 a1 a2 a3 a4 a5 l o)).length : Int))
          have hmo := mx_or p ((strs code (playO a0 a1 a2 a3 a4 a5 l o)).length : Int)
          have hinv2 : 0 ≤ code → InvB a0 a1 a2 a3 a4 a5 code wd (playO a0 a1 a2 a3 a4 a5 l o) (mx p ((strs code (playO a0 a1 a2 a3 a4 a5 l o)).length : Int)) := fun hc => inv_play a0 a1 a2 a3 a4 a5 code wd hc (hinv hc) o hs hm.1 (by rw [← strs_sm]; exact hm.2)
          rw [strs_sm] at hmo
          have hrec := ih k (by omega) (i + 1) (playO a0 a1 a2 a3 a4 a5 l o) _ h1_ hinv2 (by omega) (by omega) (by rw [strs_sm]; rcases hmo with e | e <;> rw [e] <;> omega) (by omega) (by omega)
          unfold stripes_Stripes.f stripes_Held.f
          rw [if_neg hb2, if_pos (by omega), if_pos (by omega), ho, play_f a0 a1 a2 a3 a4 a5 hok (ok_bnd a0 a1 a2 a3 a4 a5 hok hn) o k (by omega), Option.bind_some, if_pos hbl, Option.bind_some, if_pos hbl, Option.bind_some, ew, hrec]
          by_cases hc : code ≥ 0
          · rw [if_pos hc]
            by_cases hH : ((rowsOf code (playO a0 a1 a2 a3 a4 a5 l o)).length : Int) > 0
            · have hH2 : 0 < sm (h1 code) (playO a0 a1 a2 a3 a4 a5 l o) := by rw [← held_sm]; omega
              have hg := group_pos hc (hinv2 hc) hH2
              have hg2 := (grp_bounds a0 a1 a2 a3 a4 a5 wd).2
              have h3 := ceil_ok hg hg2 (p := mx p ((strs code (playO a0 a1 a2 a3 a4 a5 l o)).length : Int)) (by omega) (by rw [strs_sm]; rcases hmo with e | e <;> rw [e] <;> omega) (hinv2 hc).2.2 (by omega)
              rw [← held_sm] at h3
              rw [if_pos hH, if_neg (by omega), if_neg (by omega), if_neg h3]
            · rw [if_neg hH]
          · rw [if_neg hc]
      by_cases hcode : o.f1 = code
      · rw [if_pos hcode]
        by_cases hwd : o.f2 = wd
        · exact hgo _ (.inr (fun h => h.2 hwd))
        · exact hgo _ (.inl (by simp [hwd]))
      · rw [if_neg hcode]
        exact hgo false (.inr (fun h => hcode h.1))
    · rw [if_neg (by omega)]; rfl

theorem inv_new (a0 a1 a2 a3 a4 a5 code wd : Int) (hcode : 0 ≤ code) : InvB a0 a1 a2 a3 a4 a5 code wd (newO a0 a1 a2 a3 a4 a5).1 0 := by
  have hf : ∀ x ∈ (newO a0 a1 a2 a3 a4 a5).1, x = freeRow := by
    intro x hx
    unfold newO at hx
    split at hx
    · exact List.eq_of_mem_replicate hx
    · cases hx
  have hok : okRows (grpO a0 a1 a2 a3 a4 a5) (newO a0 a1 a2 a3 a4 a5).1 := ⟨fun x hx => by rw [hf x hx]; exact free_ok _, fun x hx y hy _ => by rw [hf x hx, hf y hy]⟩
  refine ⟨hok, fun x hx e => ?_, .inl ?_⟩
  · rw [hf x hx] at e
    have : (-1 : Int) = code := e
    omega
  · have h := sm_le (h1 code) 0 (newO a0 a1 a2 a3 a4 a5).1 (fun x hx => by
      rw [hf x hx]
      unfold h1
      rw [if_neg (by show ¬ (-1 : Int) = code; omega)]
      omega)
    omega

theorem bounded_true (a0 a1 a2 a3 a4 a5 : Int) (ops : List S48) (code wd : Int) : ∃ k, solventlaw24_StripesBounded.f k a0 a1 a2 a3 a4 a5 ops code wd = some true := by
  refine ⟨500, ?_⟩
  unfold solventlaw24_StripesBounded.f stripes_New.f
  have hj : ∀ (l : List S59), solventlaw24_StripesBounded.j0 500 ops code wd l true a0 a1 a2 a3 a4 a5 = some true := fun l => by
    rw [show (500 : Nat) = 499 + 1 from rfl, solventlaw24_StripesBounded.j0, if_pos rfl]; rfl
  unfold solventlaw24_small.f
  by_cases hs : a0 ≤ 12
  · rw [if_pos hs, Option.bind_some, Option.bind_some]
    by_cases hr : a2 ≤ 12
    · rw [decide_eq_true hr, if_pos rfl]
      by_cases he : (newO a0 a1 a2 a3 a4 a5).2 = 0
      · rw [if_pos he]
        have hlen : (newO a0 a1 a2 a3 a4 a5).1.length ≤ 12 := by
          unfold newO
          split
          · simp; omega
          · simp
        have hok : okRows (grpO a0 a1 a2 a3 a4 a5) (newO a0 a1 a2 a3 a4 a5).1 := (inv_new a0 a1 a2 a3 a4 a5 0 wd (by omega)).1
        by_cases h60 : (ops.length : Int) > 60
        · rw [if_pos h60]; exact hj _
        · rw [if_neg h60]
          by_cases hw : wd < 1
          · rw [if_pos hw]; exact hj _
          · rw [if_neg hw]
            by_cases hw2 : wd > 32
            · rw [decide_eq_true hw2]; exact hj _
            · rw [decide_eq_false hw2, show (500 : Nat) = 499 + 1 from rfl, solventlaw24_StripesBounded.j0, if_neg (by decide), groups_f, Option.bind_some]
              exact bnd_loop a0 a1 a2 a3 a4 a5 code wd ops (by omega) 499 0 _ 0 hok (inv_new a0 a1 a2 a3 a4 a5 code wd) hlen (by omega) (by omega) (by omega) (by omega)
      · rw [if_neg he]; exact hj _
    · rw [decide_eq_false hr, if_neg (by decide)]; exact hj _
  · rw [if_neg hs, Option.bind_some, Option.bind_some, if_neg (by decide)]; exact hj _
end Go.Proofs.Ytlodlblkmnhaeaa

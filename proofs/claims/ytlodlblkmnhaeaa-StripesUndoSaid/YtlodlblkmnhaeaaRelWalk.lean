/- The walk of stripes.Release: the rows without a used stripe. -/
import Derived.Test.YtlodlblkmnhaeaaCopied
import Derived.Test.YtlodlblkmnhaeaaDelete
import Derived.Test.YtlodlblkmnhaeaaIdxWalk
namespace Go.Proofs.Ytlodlblkmnhaeaa
set_option linter.unusedVariables false
open Go.RowKit Go.Lib Go.Proofs.Ytlodlblkmnhaeaa.P Go.Proofs.YtlodlblkmnhaeaaW.PrintWords Go.Proofs.YtlodlblkmnhaeaaW.PrintLast Go.Proofs.YtlodlblkmnhaeaaW.PrintMore

theorem idxU_cases (y : Int) : ∀ (l : List S37) (i : Nat), idxU y l i = -1 ∨ ∃ k : Nat, k < l.length ∧ idxU y l i = ((i + k : Nat) : Int) ∧ (rd_T37 l (k : Int)).f0 = y
  | [], _ => .inl rfl
  | x :: r, i => by
    rw [idxU]
    by_cases h : x.f0 = y
    · rw [if_pos h]
      exact .inr ⟨0, by simp, by simp, by simpa [rd_T37] using h⟩
    · rw [if_neg h]
      rcases idxU_cases y r (i + 1) with e | ⟨k, hk, e, hy⟩
      · exact .inl e
      · refine .inr ⟨k + 1, by simp; omega, by rw [e]; congr 1; omega, ?_⟩
        simpa [rd_T37, List.getD_eq_getElem?_getD] using hy

/-- The row without the used stripe at place k. -/
def cutRow (x : S59) (k : Nat) : S59 := if x.f2.length = 1 then ⟨-1, 0, []⟩ else ⟨x.f0, x.f1, x.f2.eraseIdx k⟩
/-- What Release returns. -/
def relO (l : List S59) (r g : Int) : List S59 × Int := if idxS l r g < 0 then ([], 12) else (l.set r.toNat (cutRow (rd_T59 l r) (idxS l r g).toNat), 0)

def RelPost (w : World) (p : List S59 × Int) (e : Ending) (w' : World) : Prop :=
  ∃ v, e = .returned (.tuple #[v, .int .i64 p.2]) ∧ Kd.S k59 59 w' w.heap.size (fun k => w.heap.size ≤ k) v p.1 ∧ Below w.heap.size w w'

set_option maxHeartbeats 4000000 in
theorem release_none (A : Option Addr) (c : Nat) (l : List S59) (r g : Int) (w : World) (hl : Kd.C k59 w A l.length l) (hb : bnd l = true) (h : idxS l r g = -1) :
    Calls Try.prog 11 #[.slice A l.length c, .agg #[.int .i64 r, .int .i64 g]] w (RelPost w ([], 12)) := by
  have HL : Aside _ := hl
  have IX : Aside (∀ W, Kd.C k59 W A l.length l → Calls Try.prog 26 #[.slice A l.length c, .agg #[.int .i64 r, .int .i64 g]] W fun e w' => e = .returned (.int .i64 (-1)) ∧ Below W.heap.size W w') := fun W hW => by
    have := index_any A c l r g W hW (by have := bnd_rd hb r; omega)
    rwa [h] at this
  have hu := Try.underlying29
  clear hl hb h
  obtain ⟨n, hn⟩ : ∃ n, n = l.length := ⟨_, rfl⟩
  rw [← hn] at IX ⊢
  have HN := Lib.hid hn
  clear hn
  go_enter Try.func11, Try.ntmps11
  go_wp2_with (go_at_call 26; refine (IX.out _ (by rw [HN.out]; exact Kd.C_alloc HL.out _)).mono ?_; rintro e w1 ⟨rfl, hb⟩; have HB : Aside _ := hb; clear hb)
  go_ret2
  exact ⟨_, rfl, Kd.S_nil _ _ _ _ _, below_then (below_alloc (Below.refl _ _) _) (by simp) HB.out⟩


theorem idxS_cases (l : List S59) (r g : Int) (h : ¬ idxS l r g = -1) : ∃ j k : Nat, r = (j : Int) ∧ j < l.length ∧ k < (rd_T59 l r).f2.length ∧ idxS l r g = (k : Int) ∧ (rd_T37 (rd_T59 l r).f2 (k : Int)).f0 = g := by
  unfold idxS at h ⊢
  by_cases h0 : r < 0
  · rw [if_pos h0] at h; exact absurd rfl h
  · rw [if_neg h0] at h ⊢
    by_cases h1 : r ≥ (l.length : Int)
    · rw [if_pos h1] at h; exact absurd rfl h
    · rw [if_neg h1] at h ⊢
      rcases idxU_cases g (rd_T59 l r).f2 0 with e | ⟨k, hk, e, hy⟩
      · exact absurd e h
      · exact ⟨r.toNat, k, by omega, by omega, hk, by rw [e]; congr 1; omega, hy⟩

/-- The element that is lent, with what the walk wants of it. -/
theorem lent {W : World} {base g n cap i : Nat} {ok : Nat → Prop} {xs : List S59} {x : S59} (h : Kd.S k59 59 W base ok (.slice (some ⟨g, 0, none⟩) n cap) xs) (hi : xs[i]? = some x) (hn : n = xs.length) :
    ∃ (oki : Nat → Prop) (v2 : Value), k37.R 37 W base oki v2 x.f2 ∧ W.cell? ⟨g, i * 3, none⟩ = some (.int .i64 x.f0) ∧ W.cell? ⟨g, i * 3 + 1, none⟩ = some (.int .i64 x.f1) ∧ W.cell? ⟨g, i * 3 + 2, none⟩ = some v2 ∧ (∀ j, W.frozen? ⟨g, i * 3 + j, none⟩ = false) ∧ (∀ k, oki k → ok k ∧ k ≠ g) ∧
      Kd.H k59 59 W base ok (.slice (some ⟨g, 0, none⟩) n cap) xs (i : Int) oki [.int .i64 x.f0, .int .i64 x.f1, v2] := by
  have hil : i < xs.length := (List.getElem?_eq_some_iff.1 hi).1
  obtain ⟨oki, c, hcl, hM, hcc, hfr, hok, hH⟩ := Kd.S_elem h z59 (i : Int) (by omega) (by omega)
  rw [Int.toNat_natCast] at hM hcc hfr
  rw [List.getD_eq_getElem?_getD, hi] at hM
  obtain ⟨v2, rfl, hR⟩ := k59_openM hM
  exact ⟨oki, v2, hR, hcc 0 _ rfl, hcc 1 _ rfl, hcc 2 _ rfl, hfr, hok, hH⟩

/-- Behind Delete and the stores. -/
theorem rel_mem {W W2 : World} {base g gU n cap cu i k : Nat} {ok oki : Nat → Prop} {xs : List S59} {x : S59} (hn : n = xs.length) (hil : i < n)
    (hH : Kd.H k59 59 W base ok (.slice (some ⟨g, 0, none⟩) n cap) xs (i : Int) oki [.int .i64 x.f0, .int .i64 x.f1, .slice (some ⟨gU, 0, none⟩) x.f2.length cu])
    (hoki : ∀ k, oki k → ok k ∧ k ≠ g) (hgU : oki gU) (hg : W.grownBy W2 (some gU))
    (hR : k37.R 37 W2 base (fun k => some k = (Value.slice (some ⟨gU, 0, none⟩) (x.f2.length - 1) cu).ownBlock) (.slice (some ⟨gU, 0, none⟩) (x.f2.length - 1) cu) (x.f2.eraseIdx k)) :
    Kd.S k59 59 (W2.setCell ⟨g, i * 3 + 2, none⟩ (.slice (some ⟨gU, 0, none⟩) (x.f2.length - 1) cu)) base ok (.slice (some ⟨g, 0, none⟩) n cap) (xs.set i ⟨x.f0, x.f1, x.f2.eraseIdx k⟩) := by
  have h1 := Kd.H_grown hH hg (fun k hk => by cases hk; exact hgU)
  obtain ⟨h2, h3⟩ := Kd.H_seg h1 (by omega) (by omega) (seg := [.slice (some ⟨gU, 0, none⟩) (x.f2.length - 1) cu]) (j := 2) (by show 2 + 1 ≤ 3; omega) (by intro q hq; simp at hq; rw [hq]; rfl)
  rw [Int.toNat_natCast] at h2 h3
  have hM : k59.M (W2.setCells g (i * 3 + 2) [.slice (some ⟨gU, 0, none⟩) (x.f2.length - 1) cu]) base oki ⟨x.f0, x.f1, x.f2.eraseIdx k⟩ ([.int .i64 x.f0, .int .i64 x.f1, .slice (some ⟨gU, 0, none⟩) (x.f2.length - 1) cu]) := by
    refine k59_mkM _ _ _ ⟨x.f0, x.f1, x.f2.eraseIdx k⟩ (Kd.R_mono (Kd.R_grown hR h3 (fun k hk => ?_)) (fun k hk => ?_))
    · have : k = gU := by simpa [Value.ownBlock] using hk
      rw [this]
      intro e
      have := (hoki gU hgU).2
      injection e with e
      omega
    · have : k = gU := by simpa [Value.ownBlock] using hk
      rw [this]; exact hgU
  have h4 := Kd.H_back h2 hM (fun k hk => hk)
  rw [Int.toNat_natCast] at h4
  exact h4
/-- .. and where the row is made free. -/
theorem free_mem {W : World} {base g n cap i : Nat} {ok : Nat → Prop} {xs : List S59} (hn : n = xs.length) (hil : i < n) (h : Kd.S k59 59 W base ok (.slice (some ⟨g, 0, none⟩) n cap) xs) (y : S59) (hy : y = ⟨-1, 0, []⟩) :
    Kd.S k59 59 (((W.setCell ⟨g, i * 3, none⟩ (.int .i64 (-1))).setCell ⟨g, i * 3 + 1, none⟩ (.int .i64 0)).setCell ⟨g, i * 3 + 2, none⟩ (.slice none 0 0)) base ok (.slice (some ⟨g, 0, none⟩) n cap) (xs.set i y) := by
  subst hy
  obtain ⟨x, hx⟩ : ∃ x, xs[i]? = some x := ⟨_, List.getElem?_eq_getElem (by omega)⟩
  obtain ⟨oki, v2, _, _, _, _, _, hok, hH⟩ := lent h hx hn
  obtain ⟨h2, h3⟩ := Kd.H_seg hH (by omega) (by omega) (seg := [.int .i64 (-1), .int .i64 0, .slice none 0 0]) (j := 0) (by show 0 + 3 ≤ 3; omega) (by intro q hq; simp at hq; rcases hq with rfl | rfl | rfl <;> rfl)
  rw [Int.toNat_natCast] at h2 h3
  have hM : k59.M (W.setCells g (i * 3 + 0) [.int .i64 (-1), .int .i64 0, .slice none 0 0]) base oki ⟨-1, 0, []⟩ [.int .i64 (-1), .int .i64 0, .slice none 0 0] := k59_mkM _ _ _ ⟨-1, 0, []⟩ (Kd.R_nil _ _ _ _ _)
  have h4 := Kd.H_back h2 hM (fun k hk => hk)
  rw [Int.toNat_natCast] at h4
  exact h4


/-- What copied leaves at row j: facts for the walk, under one name each. -/
theorem rel_setup {W : World} {base n j k : Nat} {ok : Nat → Prop} {v : Value} {l : List S59} {x : S59} (hS : Kd.S k59 59 W base ok v l) (hn : n = l.length) (hx : l[j]? = some x) (hk : k < x.f2.length) :
    ∃ (g cap gU cu : Nat) (oki : Nat → Prop), v = .slice (some ⟨g, 0, none⟩) n cap ∧ gU ≠ g ∧ oki gU ∧ (∀ k, oki k → ok k ∧ k ≠ g) ∧ k37.R 37 W base oki (.slice (some ⟨gU, 0, none⟩) x.f2.length cu) x.f2 ∧ W.cell? ⟨g, j * 3 + 2, none⟩ = some (.slice (some ⟨gU, 0, none⟩) x.f2.length cu) ∧
      (∀ t, t < 3 → (W.cell? ⟨g, j * 3 + t, none⟩).isSome = true) ∧ (∀ t, W.frozen? ⟨g, j * 3 + t, none⟩ = false) ∧ g < W.heap.size ∧ base ≤ g ∧ Kd.S k59 59 W base ok (.slice (some ⟨g, 0, none⟩) n cap) l ∧
      Kd.H k59 59 W base ok (.slice (some ⟨g, 0, none⟩) n cap) l (j : Int) oki [.int .i64 x.f0, .int .i64 x.f1, .slice (some ⟨gU, 0, none⟩) x.f2.length cu] := by
  have hjl : j < l.length := (List.getElem?_eq_some_iff.1 hx).1
  obtain ⟨g, cap, rfl, hbg, hgl, _⟩ := Kd.S_form hS (by omega)
  obtain ⟨oki, v2, hR, hc0, hc1, hc2, hfr, hok, hH⟩ := lent hS hx rfl
  obtain ⟨A2, cu, rfl⟩ := Kd.R_slice hR
  rcases own37 hR with ⟨_, h0, _, _⟩ | ⟨gU, cur, rfl, _⟩
  · omega
  · have hgU : oki gU := hR.1 gU (by simp [Value.ownBlock])
    subst hn
    refine ⟨g, cap, gU, cu, oki, rfl, (hok gU hgU).2, hgU, hok, hR, hc2, fun t ht => ?_, hfr, hgl, hbg, hS, hH⟩
    obtain rfl | rfl | rfl : t = 0 ∨ t = 1 ∨ t = 2 := by omega
    · rw [Nat.add_zero, hc0]; rfl
    · rw [hc1]; rfl
    · rw [hc2]; rfl

set_option maxHeartbeats 8000000 in
theorem release_some (A : Option Addr) (c : Nat) (l : List S59) (j k : Nat) (g : Int) (w : World) (hl : Kd.C k59 w A l.length l) (hb : bnd l = true) (h : idxS l (j : Int) g = (k : Int)) (hj : j < l.length) (hk : k < (rd_T59 l (j : Int)).f2.length) :
    Calls Try.prog 11 #[.slice A l.length c, .agg #[.int .i64 (j : Int), .int .i64 g]] w (RelPost w (l.set j (cutRow (rd_T59 l (j : Int)) k), 0)) := by
  have HL : Aside _ := hl
  obtain ⟨x, hx⟩ : ∃ x, x = rd_T59 l (j : Int) := ⟨_, rfl⟩
  have hxl : l[j]? = some x := by rw [hx]; simp [rd_T59, List.getD_eq_getElem?_getD, hj]
  have hlen1 := bnd_len hb
  have hux : x.f2.length ≤ 1000 := bnd_at hb j x hxl
  rw [← hx] at hk ⊢
  obtain ⟨n, hn⟩ : ∃ n, n = l.length := ⟨_, rfl⟩
  have IX : Aside (∀ W, Kd.C k59 W A l.length l → Calls Try.prog 26 #[.slice A n c, .agg #[.int .i64 (j : Int), .int .i64 g]] W fun e w' => e = .returned (.int .i64 (k : Int)) ∧ Below W.heap.size W w') := fun W hW => by
    have := index_any A c l (j : Int) g W hW (by have := bnd_rd hb (j : Int); omega)
    rw [hn]
    rwa [h] at this
  have CP : Aside (∀ W, Kd.C k59 W A l.length l → Calls Try.prog 24 #[.slice A n c] W fun e w' => ∃ v, e = .returned v ∧ Kd.S k59 59 w' W.heap.size (fun k => W.heap.size ≤ k) v l ∧ Below W.heap.size W w') := fun W hW => by
    rw [hn]
    exact copied_any A c l W hW (by omega) (fun j x hx => by have := bnd_at hb j x hx; omega)
  have hu := Try.underlying29
  have hu59 := Try.underlying59
  have hu57 := Try.underlying57
  rw [← hn] at hj ⊢
  have HN := Lib.hid hn
  have HX := Lib.hid hx
  have HXL := Lib.hid hxl
  have hjz : (j : Int) < (n : Int) := by omega
  have hkz : ¬ ((k : Int) < 0) := by omega
  obtain ⟨m, hm⟩ : ∃ m, m = x.f2.length := ⟨_, rfl⟩
  rw [← hm] at hux hk
  have HM := Lib.hid hm
  obtain ⟨Q, hQ⟩ : ∃ Q, Q = RelPost w (l.set j (cutRow x k), 0) := ⟨_, rfl⟩
  rw [← hQ]
  have HQ := Lib.hid hQ
  clear hl hb h hn hx hxl hlen1 hm hQ
  go_enter Try.func11, Try.ntmps11
  go_upto_region 5 with (first
    | (go_at_call 26; refine (IX.out _ (Kd.C_alloc HL.out _)).mono ?_; rintro e w1 ⟨rfl, hb⟩; have HB : Aside _ := hb; have hst : w1.cell? ⟨w.heap.size, 0, none⟩ = some (.int .i64 (j : Int)) := pw_cell_below hb (by rw [World.cell?_alloc_at (w := w) _ _ w.heap.size 0 rfl]; rfl); clear hb)
    | (go_at_call 24; refine (CP.out _ (Kd.C_below (Kd.C_alloc HL.out _) HB.out)).mono ?_; rintro e w2 ⟨v, rfl, hS, hb⟩; have HB2 : Aside _ := hb; have HS : Aside _ := hS; have hst2 : w2.cell? ⟨w.heap.size, 0, none⟩ = some (.int .i64 (j : Int)) := pw_cell_below hb hst; clear hb hS hst))
  obtain ⟨gb, cap, gU, cu, oki, rfl, hne, hgU, hoki, hRU, hcU, hsome, hfr, hgl, hbg, hS2, hH⟩ := rel_setup HS.out HN.out HXL.out (by rw [← HM.out]; exact hk)
  obtain ⟨bs, hbs⟩ : ∃ bs, bs = w1.heap.size := ⟨_, rfl⟩
  rw [← hbs] at hRU hbg hS2 hH hoki
  have DEL0 := delete_any gU cu x.f2 k bs oki w2 hRU (by rw [← HM.out]; exact hk) (by rw [← HM.out]; omega) (by rw [hbs]; exact HB2.out.size)
  rw [← HM.out] at hcU hRU DEL0
  have DEL : Aside (Calls Try.prog 27 #[.slice (some ⟨gU, 0, none⟩) m cu, .int .i64 k, .int .i64 ((k : Int) + 1)] w2 (Deld bs gU m cu w2 x.f2 k)) := DEL0
  have HBS := Lib.hid hbs
  clear hbs
  have hc0 := hsome 0 (by omega)
  have hc1 := hsome 1 (by omega)
  obtain ⟨cv0, hcv0⟩ := Option.isSome_iff_exists.1 hc0
  obtain ⟨cv1, hcv1⟩ := Option.isSome_iff_exists.1 hc1
  rw [Nat.add_zero] at hcv0
  have hf0 := hfr 0
  rw [Nat.add_zero] at hf0
  have hf1 := hfr 1
  have hf2 := hfr 2
  have HH : Aside _ := hH
  have HOK : Aside _ := hoki
  have HGU : Aside (oki gU) := hgU
  have HBG : Aside _ := hbg
  have HSS : Aside _ := hS2
  have HST := Lib.hid hst2
  have hst3 : w2.cell? ⟨w.heap.size, 0, none⟩ = some (.int .i64 (j : Int)) := HST.out
  clear DEL0 hS2 hH hgU hbg hoki hRU hsome hfr hc0 hc1 hst2
  go_upto_region 7 with (go_at_call 27; refine DEL.out.mono ?_; rintro e w3 ⟨rfl, hR3, hg3⟩; have HR3 : Aside _ := hR3; have HG3 : Aside _ := hg3; have hd0 : w3.cell? ⟨gb, j * 3, none⟩ = some cv0 := hg3.cell hcv0 (by intro e; injection e with e; exact hne e.symm); have hd1 : w3.cell? ⟨gb, j * 3 + 1, none⟩ = some cv1 := hg3.cell hcv1 (by intro e; injection e with e; exact hne e.symm); have hd2 : w3.cell? ⟨gb, j * 3 + 2, none⟩ = some (.slice (some ⟨gU, 0, none⟩) m cu) := hg3.cell hcU (by intro e; injection e with e; exact hne e.symm); have he0 : w3.frozen? ⟨gb, j * 3, none⟩ = false := (World.frozen?_of_block (hg3.block gb hgl (by intro e; injection e with e; exact hne e.symm))).trans hf0; have he1 : w3.frozen? ⟨gb, j * 3 + 1, none⟩ = false := (World.frozen?_of_block (hg3.block gb hgl (by intro e; injection e with e; exact hne e.symm))).trans hf1; have he2 : w3.frozen? ⟨gb, j * 3 + 2, none⟩ = false := (World.frozen?_of_block (hg3.block gb hgl (by intro e; injection e with e; exact hne e.symm))).trans hf2; clear hR3 hg3 hcv0 hcv1 hcU hf0 hf1 hf2)
  have hm0 : 0 < m := by omega
  have hgU2 := HOK.out gU HGU.out
  by_cases hm1 : m = 1
  · have hml : ((m - 1 : Nat) : Int) = 0 := by omega
    go_wp2_with fail
    show Q (.returned (.tuple #[.slice (some ⟨gb, 0, none⟩) n cap, .int .i64 0])) _
    have hbase : w.heap.size ≤ bs := by have h1 := HB.out.size; have h2 := HBS.out; simp at h1; omega
    have hm2 : x.f2.length = 1 := by have := HM.out; omega
    have e1 := rel_mem (k := k) HN.out hj (by have h := HH.out; exact h) HOK.out HGU.out HG3.out (by rw [← HM.out]; exact HR3.out)
    rw [hm2] at e1
    have e2 := free_mem (by rw [List.length_set]; exact HN.out) hj e1 ⟨-1, 0, []⟩ rfl
    rw [List.set_set] at e2
    rw [HQ.out]
    refine ⟨_, rfl, ?_, ?_⟩
    · have hcut : cutRow x k = ⟨-1, 0, []⟩ := by unfold cutRow; rw [if_pos hm2]
      dsimp only
      rw [hcut]
      exact Kd.S_mono (Kd.S_lower e2 hbase) (fun q hq => Nat.le_trans hbase hq)
    · have b1 : Below w.heap.size w w2 := below_then (below_then (below_alloc (Below.refl _ _) _) (by simp) HB.out) (by have h1 := HB.out.size; simp at h1; omega) HB2.out
      have b2 : Below w.heap.size w w3 := b1.grown HG3.out b1.size (fun q hq => by cases hq; omega)
      have hgb := HBG.out
      exact below_set (below_set (below_set (below_set b2 (by omega)) (by omega)) (by omega)) (by omega)
  · have hml : ¬ ((m : Int) - 1 = 0) := by omega
    go_wp2_with fail
    show Q (.returned (.tuple #[.slice (some ⟨gb, 0, none⟩) n cap, .int .i64 0])) _
    have hbase : w.heap.size ≤ bs := by have h1 := HB.out.size; have h2 := HBS.out; simp at h1; omega
    have hm2 : ¬ x.f2.length = 1 := by have := HM.out; omega
    have e1 := rel_mem (k := k) HN.out hj (by have h := HH.out; exact h) HOK.out HGU.out HG3.out (by rw [← HM.out]; exact HR3.out)
    rw [← HM.out] at e1
    rw [HQ.out]
    refine ⟨_, rfl, ?_, ?_⟩
    · have hcut : cutRow x k = ⟨x.f0, x.f1, x.f2.eraseIdx k⟩ := by unfold cutRow; rw [if_neg hm2]
      dsimp only
      rw [hcut]
      exact Kd.S_mono (Kd.S_lower e1 hbase) (fun q hq => Nat.le_trans hbase hq)
    · have b1 : Below w.heap.size w w2 := below_then (below_then (below_alloc (Below.refl _ _) _) (by simp) HB.out) (by have h1 := HB.out.size; simp at h1; omega) HB2.out
      have b2 : Below w.heap.size w w3 := b1.grown HG3.out b1.size (fun q hq => by cases hq; omega)
      have hgb := HBG.out
      exact below_set b2 (by omega)

theorem release_any (A : Option Addr) (c : Nat) (l : List S59) (r g : Int) (w : World) (hl : Kd.C k59 w A l.length l) (hb : bnd l = true) :
    Calls Try.prog 11 #[.slice A l.length c, .agg #[.int .i64 r, .int .i64 g]] w (RelPost w (relO l r g)) := by
  unfold relO
  by_cases h : idxS l r g = -1
  · rw [if_pos (by omega)]
    exact release_none A c l r g w hl hb h
  · obtain ⟨j, k, rfl, hj, hk, e, _⟩ := idxS_cases l r g h
    rw [if_neg (by omega), e, Int.toNat_natCast, Int.toNat_natCast]
    exact release_some A c l j k g w hl hb e hj hk
end Go.Proofs.Ytlodlblkmnhaeaa
namespace Go.Proofs.Ytlodlblkmnhaeaa.P
open Go.RowKit Go.Proofs.YtlodlblkmnhaeaaW.PrintWords

def stripes_Release.f (l0 : List S59) (a1_0 a1_1 : Int) : Option (List S59 × Int) := if bnd l0 = true then some (relO l0 a1_0 a1_1) else none
theorem stripes_Release.calls (A0 : Option Addr) (c0 : Nat) (l0 : List S59) (a1_0 a1_1 : Int) (r1 : List S59) (r2 : Int) (w : World) (hr0 : Kd.C k59 w A0 l0.length l0) (_hc0 : l0.length ≤ c0) (h : stripes_Release.f l0 a1_0 a1_1 = some (r1, r2)) :
    Calls Try.prog 11 #[.slice A0 l0.length c0, .agg #[.int .i64 a1_0, .int .i64 a1_1]] w fun e w' => ∃ v0_ : Value, e = .returned (.tuple #[v0_, .int .i64 r2]) ∧ Kd.S k59 59 w' w.heap.size (fun k_ => (w.heap.size ≤ k_)) v0_ r1 ∧ Below w.heap.size w w' := by
  unfold stripes_Release.f at h
  by_cases hb : bnd l0 = true
  · rw [if_pos hb] at h
    have h2 := Option.some.inj h
    refine (release_any A0 c0 l0 a1_0 a1_1 w hr0 hb).mono ?_
    rintro e w' ⟨v, rfl, hS, hB⟩
    rw [h2] at hS ⊢
    exact ⟨v, rfl, hS, hB⟩
  · rw [if_neg hb] at h
    cases h
end Go.Proofs.Ytlodlblkmnhaeaa.P

/- The walk of slices.Insert at []api.Used for one value: the list with the value at its place, in the row's own memory or in new memory. -/
import Derived.Test.YtlodlblkmnhaeaaClone
import Derived.Lib.AppendZeros
import Derived.Lib.AppendZerosOnto
import Derived.Lib.Overlaps
import Derived.Laws.Externs
import Derived.Laws.IdiomCopy
import Derived.Laws.CopyRow
import Derived.Shelf.Spec.SlicesInsert
import Derived.Laws.NewBlocks
namespace Go.Proofs.Ytlodlblkmnhaeaa
set_option linter.unusedVariables false
open Go.RowKit Go.Lib Go.Proofs.Ytlodlblkmnhaeaa.P Go.Proofs.YtlodlblkmnhaeaaW.PrintWords Go.Proofs.YtlodlblkmnhaeaaW.PrintLast Go.Proofs.YtlodlblkmnhaeaaW.PrintMore

/-- The cells of a used stripe. -/
def uenc (x : S37) : List Value := [.int .i64 x.f0, .int .i64 x.f1.f0, .int .i64 x.f1.f1]
/-- A list with a value put in at a place. -/
def insAt (xs : List S37) (i : Nat) (u : S37) : List S37 := xs.take i ++ [u] ++ xs.drop i

theorem flat_len (xs : List S37) : (xs.flatMap uenc).length = xs.length * 3 := by
  induction xs with
  | nil => rfl
  | cons x r ih => rw [List.flatMap_cons, List.length_append, ih, List.length_cons, Nat.add_mul]; simp [uenc]; omega
theorem flat_take (xs : List S37) (i : Nat) (h : i ≤ xs.length) : (xs.take i).flatMap uenc = (xs.flatMap uenc).take (i * 3) := by
  conv => rhs; rw [← List.take_append_drop i xs, List.flatMap_append]
  rw [List.take_left' (by rw [flat_len, List.length_take]; congr 1; omega)]
theorem flat_drop (xs : List S37) (i : Nat) (h : i ≤ xs.length) : (xs.drop i).flatMap uenc = (xs.flatMap uenc).drop (i * 3) := by
  conv => rhs; rw [← List.take_append_drop i xs, List.flatMap_append]
  rw [List.drop_left' (by rw [flat_len, List.length_take]; congr 1; omega)]
theorem flat_ins (xs : List S37) (i : Nat) (u : S37) (h : i ≤ xs.length) : (insAt xs i u).flatMap uenc = (xs.flatMap uenc).take (i * 3) ++ uenc u ++ (xs.flatMap uenc).drop (i * 3) := by
  unfold insAt
  rw [List.flatMap_append, List.flatMap_append, flat_take xs i h, flat_drop xs i h]
  simp
theorem ins_len (xs : List S37) (i : Nat) (u : S37) (h : i ≤ xs.length) : (insAt xs i u).length = xs.length + 1 := by
  unfold insAt; simp; omega
theorem reps_flat {w : World} {base : Nat} {ok : Nat → Prop} (xs : List S37) : Reps (k37.M w base ok) 3 xs (xs.flatMap uenc) := by
  refine ⟨flat_len xs, fun j p hj => ?_⟩
  have hjl := (List.getElem?_eq_some_iff.1 hj).1
  have e : ((xs.flatMap uenc).drop (j * 3)).take 3 = uenc p := by
    rw [← flat_drop xs j (by omega), List.drop_eq_getElem_cons hjl, List.flatMap_cons]
    rw [List.take_left' (by simp [uenc])]
    rw [(List.getElem?_eq_some_iff.1 hj).2]
  rw [e]
  exact k37_mkM w base ok p
theorem flat_of {w : World} {base : Nat} {ok : Nat → Prop} {xs : List S37} {inner : List Value} (h : Reps (k37.M w base ok) 3 xs inner) : inner = xs.flatMap uenc := by
  have hf := reps_flat (w := w) (base := base) (ok := ok) xs
  apply List.ext_getElem?
  intro t
  by_cases ht : t < xs.length * 3
  · have hj : t / 3 < xs.length := by omega
    have h1 := k37_openM (h.2 (t / 3) _ (List.getElem?_eq_getElem hj))
    have h2 := k37_openM (hf.2 (t / 3) _ (List.getElem?_eq_getElem hj))
    have h3 := congrArg (fun l => l[t % 3]?) (h1.trans h2.symm)
    simp only [List.getElem?_take, List.getElem?_drop] at h3
    rw [if_pos (by omega), if_pos (by omega)] at h3
    rw [show t / 3 * 3 + t % 3 = t by omega] at h3
    exact h3
  · rw [List.getElem?_eq_none (by rw [h.1]; omega), List.getElem?_eq_none (by rw [hf.1]; omega)]

/-- A row of used stripes of the call's own that is no nil. -/
theorem own37 {W : World} {base : Nat} {ok : Nat → Prop} {A : Option Addr} {n c : Nat} {xs : List S37} (h : k37.R 37 W base ok (.slice A n c) xs) :
    (A = none ∧ n = 0 ∧ c = 0 ∧ xs = []) ∨ ∃ g cur, A = some ⟨g, 0, none⟩ ∧ n = xs.length ∧ base ≤ g ∧ W.heap[g]? = some (.cells cur 37 (0, 0)) ∧ n ≤ c ∧ c ≤ maxLen ∧ cur.size = c * 3 ∧ cur.toList.take (n * 3) = xs.flatMap uenc := by
  obtain ⟨_, inner, ho, hr⟩ := h
  obtain rfl := flat_of hr
  rcases ho.2 with ⟨he, h0⟩ | ⟨g, cap, cur, he, hg, hh, hnc, hcm, hcs, ht⟩
  · injection he with h1 h2 h3
    exact .inl ⟨h1, h2, h3, List.eq_nil_of_length_eq_zero h0⟩
  · injection he with h1 h2 h3
    subst h2 h3
    exact .inr ⟨g, cur, h1, rfl, hg, hh, hnc, hcm, hcs, ht⟩
theorem own37_mk {W : World} {base : Nat} {g c : Nat} {cur : Array Value} {xs : List S37} (hg : base ≤ g) (hh : W.heap[g]? = some (.cells cur 37 (0, 0))) (hnc : xs.length ≤ c) (hcm : c ≤ maxLen) (hcs : cur.size = c * 3) (ht : cur.toList.take (xs.length * 3) = xs.flatMap uenc) :
    k37.R 37 W base (fun k => some k = (Value.slice (some ⟨g, 0, none⟩) xs.length c).ownBlock) (.slice (some ⟨g, 0, none⟩) xs.length c) xs :=
  ⟨fun k hk => hk.symm, xs.flatMap uenc, ⟨flat_len xs, .inr ⟨g, c, cur, rfl, hg, hh, hnc, hcm, hcs, ht⟩⟩, reps_flat xs⟩

theorem lit_reads {W : World} {vb : Nat} {u : S37} (hv : W.heap[vb]? = some (.cells (uenc u).toArray 37 (0, 0))) : Kd.C k37 W (some ⟨vb, 0, none⟩) 1 [u] := by
  refine ⟨rfl, by omega, fun _ => ⟨_, rfl, fun j p hj => ?_⟩⟩
  have hj0 : j = 0 := by have := (List.getElem?_eq_some_iff.1 hj).1; simp at this; omega
  subst hj0
  obtain rfl := Option.some.inj hj
  refine ⟨uenc u, rfl, k37_mk W u, fun i x hi => ?_⟩
  rw [add_plain, Nat.zero_mul, Nat.zero_add]
  exact (blk_cell hv i).trans (by simpa using hi)

/-- What Insert leaves. -/
def Insd (base : Nat) (W : World) (v : Value) (xs : List S37) (i : Nat) (u : S37) (e : Ending) (w' : World) : Prop :=
  ∃ A' c', e = .returned (.slice A' (xs.length + 1) c') ∧ k37.R 37 w' base (fun k => some k = (Value.slice A' (xs.length + 1) c').ownBlock) (.slice A' (xs.length + 1) c') (insAt xs i u) ∧ W.grownBy w' v.ownBlock ∧
    ((Value.slice A' (xs.length + 1) c').ownBlock = v.ownBlock ∨ ∃ b, (Value.slice A' (xs.length + 1) c').ownBlock = some b ∧ W.heap.size ≤ b)

theorem ins_end (xs : List S37) (u : S37) : insAt xs xs.length u = xs ++ [u] := by
  unfold insAt; simp

set_option maxHeartbeats 4000000 in
theorem insert_end (A : Option Addr) (c : Nat) (xs : List S37) (u : S37) (vb base : Nat) (ok : Nat → Prop) (W : World) (HO : k37.R 37 W base ok (.slice A xs.length c) xs) (hn : xs.length ≤ 1000000)
    (hv : W.heap[vb]? = some (.cells (uenc u).toArray 37 (0, 0))) (hbase : base ≤ W.heap.size) :
    Calls Try.prog 25 #[.slice A xs.length c, .int .i64 xs.length, .slice (some ⟨vb, 0, none⟩) 1 1] W (Insd base W (.slice A xs.length c) xs xs.length u) := by
  have HT : Aside _ := Kd.R_tight rfl HO
  have hcn : Aside (xs.length ≤ c) := (Kd.R_reads' HO).2.1
  have HV : Aside _ := lit_reads hv
  have hc63 : c ≤ 9223372036854775807 := by
    rcases own37 HO with ⟨_, _, h, _⟩ | ⟨g, cur, _, _, _, _, _, h, _⟩
    · omega
    · unfold maxLen at h; omega
  clear HO hv
  obtain ⟨n, hnn⟩ : ∃ n, n = xs.length := ⟨_, rfl⟩
  have HI : Aside (Insd base W (.slice A n c) xs xs.length u = Insd base W (.slice A n c) xs xs.length u) := rfl
  have HN := Lib.hid hnn
  rw [← hnn] at hn ⊢
  obtain ⟨i0, hi0, hz0, hz1, hz2⟩ := info_parts info37
  have hs1 := cut_from 57 37 .i64 under57 hi0 3 hz1 A n c n (by omega) (by omega)
  rw [Int.toNat_natCast, Nat.sub_self] at hs1
  obtain ⟨A1, hA1⟩ : ∃ A1, A1 = (if c = n then A else A.map (·.add (n * 3))) := ⟨_, rfl⟩
  rw [← hA1] at hs1
  clear hA1
  have hcn' : n ≤ c := by rw [hnn]; exact hcn.out
  obtain ⟨Q, hQ⟩ : ∃ Q, Q = Insd base W (.slice A n c) xs n u := ⟨_, rfl⟩
  rw [← hQ]
  have HQ := Lib.hid hQ
  clear hnn hcn hQ HI
  go_enter Try.func25, Try.ntmps25
  go_wp2_with (at_builtin; refine Kd.R_append_rows k37 (Rr := k37.K W) base rfl _ _ 57 37 _ 24 rfl under57 info37 rfl (by decide) (by decide) (.slice A n c) xs [u] (some ⟨vb, 0, none⟩) 1 1 (fun k => W.heap.size ≤ k ∨ some k = (Value.slice A n c).ownBlock) (fun _ => False) rfl rfl ?q1 HV.out (fun x cs h => m37_any h) (fun _ h => h.elim) (fun k h => .inl h) (Below.refl _ _) hbase ?q2 ?_)
  case q1 => rw [HN.out]; exact Kd.R_mono HT.out (fun k hk => .inr hk)
  case q2 => have := HN.out; omega
  intro v1 w1 hR HB hg hat
  obtain ⟨A', c', rfl⟩ := Kd.R_slice hR
  have hl : (xs ++ [u]).length = n + 1 := by have := HN.out; simp; omega
  rw [hl] at hR hat ⊢
  clear hl
  have HR : Aside _ := Kd.R_tight rfl hR
  have HAT : Aside _ := hat
  have HG : Aside _ := hg
  clear hR hat hg HB
  go_wp2_with fail
  rw [HQ.out]
  have e := HN.out
  subst e
  exact ⟨A', c', rfl, by rw [ins_end]; exact HR.out, HG.out, HAT.out⟩


theorem cut_upto (A : Option Addr) (n c : Nat) (j : Int) (h0 : 0 ≤ j) (hc : j ≤ c) : ∀ W : World, (Instr.slice 57 (.slice A n c) none (some (.int .i64 j)) none).run Try.prog W = .ok (.slice A j.toNat c) W := by
  intro W
  obtain ⟨i0, hi0, hz0, hz1, hz2⟩ := info_parts info37
  have hel : Try.prog.elem 57 = 37 := by simp [Program.elem]
  have hu : Try.prog.underlying 57 = some (.slice (Try.prog.elem 57)) := by rw [hel]; exact under57
  have ha : (A.map fun x => x.add 0) = A := by cases A <;> simp [Addr.add]
  rw [run_slice_h W 57 A n c hu .i64 j h0 hc, hel]
  simp [sizeOf, typeInfo, hi0, sliced, Result.andThen, ha]
theorem cut_tail (g n c i : Nat) (h : i ≤ n) (hc : i < c) : ∀ W : World, (Instr.slice 57 (.slice (some ⟨g, 0, none⟩) n c) (some (.int .i64 (i : Int))) none none).run Try.prog W = .ok (.slice (some ⟨g, i * 3, none⟩) (n - i) (c - i)) W := by
  intro W
  obtain ⟨i0, hi0, hz0, hz1, hz2⟩ := info_parts info37
  rw [cut_from 57 37 .i64 under57 hi0 3 hz1 (some ⟨g, 0, none⟩) n c i (by omega) (by omega) W, Int.toNat_natCast, if_neg (by omega), Option.map_some, add_plain]
theorem cut_tail1 (g n c i : Nat) (h : i + 1 ≤ n) (hc : i + 1 < c) : ∀ W : World, (Instr.slice 57 (.slice (some ⟨g, 0, none⟩) n c) (some (.int .i64 ((i : Int) + 1))) none none).run Try.prog W = .ok (.slice (some ⟨g, (i + 1) * 3, none⟩) (n - (i + 1)) (c - (i + 1))) W :=
  fun W => cut_tail g n c (i + 1) h hc W

theorem copy3 (w : World) (ty : TypeId) (g o dLen dCap : Nat) (a : Addr) (sLen sCap m : Nat) (cur : Array Value) (t : TypeId) (cs : List Value) (hm : Nat.min sLen dLen = m)
    (hg : w.heap[g]? = some (.cells cur t (0, 0))) (hn : cs.length = m * 3)
    (hsrc : ∀ j v, cs[j]? = some v → w.cell? (a.add j) = some v) (hfit : o + cs.length ≤ cur.size) (h1 : ∀ v ∈ cs, v.oneCell' = true) :
    (Builtin.copy_ #[57, 57] ty #[.slice (some ⟨g, o, none⟩) dLen dCap, .slice (some a) sLen sCap]).run Try.prog w =
      .ok (goInt m) (w.setRow g (cur.toList.take o ++ cs ++ cur.toList.drop (o + cs.length)).toArray) := by
  have hl := run_loadCells_list (P := Try.prog) w a cs hsrc
  have hst := run_storeCells_at Try.prog g o t cs 0 cur w hg (by simpa using hfit) h1
  obtain ⟨i0, hi0, hz0, hz1, hz2⟩ := info_parts info37
  have hmn : m * i0.size = cs.length := by rw [hz1, hn]
  simp [Builtin.copy_, run_underlying under57, Builtin.lenOf, Builtin.firstCells, sizeOf, typeInfo, hi0, hm, hmn, hl, hst]

theorem grown_row (w : World) (g : Nat) (cs : Array Value) : w.grownBy (w.setRow g cs) (some g) :=
  ⟨rfl, rfl, rfl, by rw [setRow_size]; exact Nat.le_refl _, fun k _ hk => setRow_other w g k cs (fun e => hk (by rw [e]))⟩

theorem flat_ones (xs : List S37) : ∀ v ∈ xs.flatMap uenc, v.oneCell' = true := by
  intro v hv
  obtain ⟨x, _, hx⟩ := List.mem_flatMap.1 hv
  simp [uenc] at hx
  rcases hx with rfl | rfl | rfl <;> rfl

/-- What the cells are behind the two copies of the road with room. -/
theorem shift_cells (L F v : List Value) (i n c : Nat) (hi : i < n) (hnc : n + 1 ≤ c) (hL : L.length = c * 3) (hF : L.take (n * 3) = F) (hv : v.length = 3) :
    (((L.take ((i + 1) * 3) ++ F.drop (i * 3) ++ L.drop ((i + 1) * 3 + (n - i) * 3)).take (i * 3) ++ v ++ (L.take ((i + 1) * 3) ++ F.drop (i * 3) ++ L.drop ((i + 1) * 3 + (n - i) * 3)).drop (i * 3 + 3)).take ((n + 1) * 3)) = F.take (i * 3) ++ v ++ F.drop (i * 3) := by
  have hFl : F.length = n * 3 := by rw [← hF, List.length_take]; omega
  have e1 : (L.take ((i + 1) * 3)).take (i * 3) = F.take (i * 3) := by
    rw [← hF, List.take_take, List.take_take]; congr 1; omega
  obtain ⟨M, hM⟩ : ∃ M, M = L.take ((i + 1) * 3) ++ F.drop (i * 3) ++ L.drop ((i + 1) * 3 + (n - i) * 3) := ⟨_, rfl⟩
  rw [← hM]
  have h1 : M.take (i * 3) = F.take (i * 3) := by
    rw [hM, List.append_assoc, List.take_append_of_le_length (by rw [List.length_take]; omega), e1]
  have h2 : M.drop (i * 3 + 3) = F.drop (i * 3) ++ L.drop ((i + 1) * 3 + (n - i) * 3) := by
    rw [hM, List.append_assoc, List.drop_left' (by rw [List.length_take]; omega)]
  rw [h1, h2, ← List.append_assoc]
  rw [List.take_left' (by simp only [List.length_append, List.length_take, List.length_drop]; omega)]


set_option maxHeartbeats 4000000 in
theorem insert_room (g c : Nat) (cur : Array Value) (xs : List S37) (i : Nat) (u : S37) (vb base : Nat) (W : World) (hg : base ≤ g) (hh : W.heap[g]? = some (.cells cur 37 (0, 0))) (hi : i < xs.length) (hnc : xs.length + 1 ≤ c) (hcm : c ≤ maxLen) (hcs : cur.size = c * 3)
    (ht : cur.toList.take (xs.length * 3) = xs.flatMap uenc) (hn : xs.length ≤ 1000000) (hv : W.heap[vb]? = some (.cells (uenc u).toArray 37 (0, 0))) (hne : vb ≠ g) :
    Calls Try.prog 25 #[.slice (some ⟨g, 0, none⟩) xs.length c, .int .i64 i, .slice (some ⟨vb, 0, none⟩) 1 1] W (Insd base W (.slice (some ⟨g, 0, none⟩) xs.length c) xs i u) := by
  obtain ⟨n, hnn⟩ : ∃ n, n = xs.length := ⟨_, rfl⟩
  obtain ⟨F, hF⟩ : ∃ F, F = xs.flatMap uenc := ⟨_, rfl⟩
  have hFl : F.length = n * 3 := by rw [hF, hnn, flat_len]
  have hF1 : ∀ v ∈ F, v.oneCell' = true := by rw [hF]; exact flat_ones xs
  rw [← hF, ← hnn] at ht
  have hLl : cur.toList.length = c * 3 := by rw [Array.length_toList]; exact hcs
  have hcell : ∀ j v, (F.drop (i * 3))[j]? = some v → W.drew.cell? (Addr.add ⟨g, i * 3, none⟩ j) = some v := fun j v hj => by
    rw [Addr.add_lit]
    show W.cell? _ = _
    rw [blk_cell hh]
    rw [List.getElem?_drop, ← ht, List.getElem?_take] at hj
    split at hj
    · simpa using hj
    · cases hj
  obtain ⟨W1, hW1⟩ : ∃ W1, W1 = W.drew.setRow g (cur.toList.take ((i + 1) * 3) ++ F.drop (i * 3) ++ cur.toList.drop ((i + 1) * 3 + (F.drop (i * 3)).length)).toArray := ⟨_, rfl⟩
  have hcp1 : ∀ ty dc sc, (Builtin.copy_ #[57, 57] ty #[.slice (some ⟨g, (i + 1) * 3, none⟩) (n - i) dc, .slice (some ⟨g, i * 3, none⟩) (n + 1 - i) sc]).run Try.prog W.drew = .ok (goInt ((n - i : Nat) : Int)) W1 := fun ty dc sc => by
    rw [hW1]
    exact copy3 W.drew ty g ((i + 1) * 3) _ dc ⟨g, i * 3, none⟩ _ sc (n - i) cur 37 (F.drop (i * 3)) (by simp only [Nat.min_def]; split <;> omega) hh (by rw [List.length_drop, hFl]; omega) hcell (by rw [List.length_drop, hFl, hcs]; omega) (fun v hv => hF1 v (List.mem_of_mem_drop hv))
  have hh1 : W1.heap[g]? = some (.cells (cur.toList.take ((i + 1) * 3) ++ F.drop (i * 3) ++ cur.toList.drop ((i + 1) * 3 + (F.drop (i * 3)).length)).toArray 37 (0, 0)) := by rw [hW1]; exact setRow_heap _ g cur _ 37 _ hh
  have hg1 : W.grownBy W1 (some g) := by
    have h := grown_row W.drew g (cur.toList.take ((i + 1) * 3) ++ F.drop (i * 3) ++ cur.toList.drop ((i + 1) * 3 + (F.drop (i * 3)).length)).toArray
    rw [hW1]; exact ⟨h.os, h.tape, h.output, h.size, h.block⟩
  have hv1 : W1.heap[vb]? = some (.cells (uenc u).toArray 37 (0, 0)) := (hg1.block vb (blk_lt hv) (by intro e; injection e with e; exact hne e)).trans hv
  obtain ⟨cur1, hc1⟩ : ∃ cur1, cur1 = (cur.toList.take ((i + 1) * 3) ++ F.drop (i * 3) ++ cur.toList.drop ((i + 1) * 3 + (F.drop (i * 3)).length)).toArray := ⟨_, rfl⟩
  rw [← hc1] at hh1
  have hs1 : cur1.size = c * 3 := by rw [hc1]; simp only [List.size_toArray, List.length_append, List.length_take, List.length_drop, hFl, hLl]; omega
  obtain ⟨W2, hW2⟩ : ∃ W2, W2 = W1.setRow g (cur1.toList.take (i * 3) ++ uenc u ++ cur1.toList.drop (i * 3 + (uenc u).length)).toArray := ⟨_, rfl⟩
  have hcp2 : ∀ ty dc, (Builtin.copy_ #[57, 57] ty #[.slice (some ⟨g, i * 3, none⟩) (n + 1 - i) dc, .slice (some ⟨vb, 0, none⟩) 1 1]).run Try.prog W1 = .ok (goInt ((1 : Nat) : Int)) W2 := fun ty dc => by
    rw [hW2]
    exact copy3 W1 ty g (i * 3) _ dc ⟨vb, 0, none⟩ 1 1 1 cur1 37 (uenc u) (by simp only [Nat.min_def]; split <;> omega) hh1 rfl (fun j v hj => by rw [add_plain, blk_cell hv1]; simpa using hj) (by rw [hs1]; show i * 3 + 3 ≤ c * 3; omega) (by intro v hv; simp [uenc] at hv; rcases hv with rfl | rfl | rfl <;> rfl)
  have hend : Insd base W (.slice (some ⟨g, 0, none⟩) n c) xs i u (.returned (.slice (some ⟨g, 0, none⟩) (n + 1) c)) W2 := by
    refine ⟨some ⟨g, 0, none⟩, c, by rw [hnn], ?_, ?_, .inl rfl⟩
    · have hl := ins_len xs i u (by omega)
      rw [← hl]
      refine own37_mk hg (by rw [hW2]; exact setRow_heap _ g cur1 _ 37 _ hh1) (by omega) hcm (by simp only [List.size_toArray, List.length_append, List.length_take, List.length_drop, Array.length_toList, hs1]; show min _ _ + 3 + (_ - (_ + 3)) = _; omega) ?_
      rw [hl, flat_ins xs i u (by omega), ← hF, List.toList_toArray, hc1, List.toList_toArray, ← hnn]
      rw [List.length_drop, hFl, ← Nat.sub_mul]
      exact shift_cells cur.toList F (uenc u) i n c (by omega) (by omega) hLl ht rfl
    · exact ⟨by rw [hW2]; exact hg1.os, by rw [hW2]; exact hg1.tape, by rw [hW2]; exact hg1.output, by rw [hW2, setRow_size]; exact hg1.size, fun k hk hne => by rw [hW2]; exact ((grown_row W1 g _).block k (Nat.lt_of_lt_of_le hk hg1.size) hne).trans (hg1.block k hk hne)⟩
  have hov : ∀ lb cb, (callFunc 37 #[.slice (some ⟨vb, 0, none⟩) 1 1, .slice (some ⟨g, (i + 1) * 3, none⟩) lb cb]).run Try.prog W = .ok (.value (.bool false)) W := fun lb cb => by
    rw [run_callFunc_extern Try.func37 (by kernel_rfl) (by kernel_rfl) (by kernel_rfl) (e := Extern.SlicesOverlaps.overlaps #[57, 57] #[4]) (by kernel_rfl),
      Lib.run_overlaps_apart W 57 4 37 under57 3 Try.sizeOf37 ⟨vb, 0, none⟩ ⟨g, (i + 1) * 3, none⟩ 1 1 lb cb hne 37 37 3 (c * 3) (by simp [World.shape?, hv, uenc]) (by simp [World.shape?, hh, hcs]) (by omega) (blk_frozen hv _) (blk_frozen hv _)]
    rfl
  rw [← hnn] at hi hnc hn ⊢
  have hu := Try.underlying57
  have hb1 : ¬ ((i : Int) = (n : Int)) := by omega
  have hb2 : i + 1 < c := by omega
  have hcut1 := cut_tail g n c i (by omega) (by omega)
  have hcut2 := cut_upto (some ⟨g, 0, none⟩) n c ((n : Int) + 1) (by omega) (by omega)
  rw [show ((n : Int) + 1).toNat = n + 1 by omega] at hcut2
  have hcut3 := cut_tail1 g (n + 1) c i (by omega) (by omega)
  have hcut4 := cut_tail g (n + 1) c i (by omega) (by omega)
  have HE : Aside _ := hend
  obtain ⟨Q, hQ⟩ : ∃ Q, Q = Insd base W (.slice (some ⟨g, 0, none⟩) n c) xs i u := ⟨_, rfl⟩
  rw [← hQ]
  have HQ := Lib.hid hQ
  clear hend hQ hW2 hW1 hh1 hg1 hv1 hs1 hc1 hcell hLl hF1 hFl hF hnn ht hcs hh hv hg
  have hcm' : c ≤ 9223372036854775807 := by unfold maxLen at hcm; omega
  clear hcm
  go_enter Try.func25, Try.ntmps25
  go_wp2_with (simp only [hov])
  have mixed : Try.prog.follows .mixedOrders = true := by kernel_rfl
  have hw1 : IntKind.i64.wrap ((i : Int) + 1) = (i : Int) + 1 := by rw [IntKind.wrap_i64]; omega
  have hx1 : (0 : Int) ≤ (i : Int) + 1 := by omega
  have hx2 : ((i : Int) + 1).toNat = i + 1 := by omega
  go_region_law_o (refine step_copy_runI rfl _ _ 57 57 rfl _ _ (by simp [Act.eval, Act.put]) (by simp [Act.eval, Act.put]) (hcp1 _ _ _) ?_)
  go_wp2_with (at_builtin; refine wpList_copy_runI _ rfl _ _ 57 57 rfl _ _ rfl rfl (hcp2 _ _) ?_)
  rw [HQ.out]
  exact HE.out


theorem grow_cells (F Z1 Z2 v : List Value) (i n : Nat) (hi : i < n) (hFl : F.length = n * 3) (hv : v.length = 3) (hZ1 : Z1.length = (n + 1 - i) * 3) (M M2 : List Value)
    (hM : M = F.take (i * 3) ++ Z1 ++ Z2) (hM2 : M2 = M.take (i * 3) ++ v ++ M.drop (i * 3 + v.length)) :
    (M2.take ((i + 1) * 3) ++ F.drop (i * 3) ++ M2.drop ((i + 1) * 3 + (F.drop (i * 3)).length)).take ((n + 1) * 3) = F.take (i * 3) ++ v ++ F.drop (i * 3) := by
  have h1 : M.take (i * 3) = F.take (i * 3) := by
    rw [hM, List.append_assoc, List.take_left' (by rw [List.length_take]; omega)]
  have h2 : M2.take ((i + 1) * 3) = F.take (i * 3) ++ v := by
    rw [hM2, h1, List.take_left' (by rw [List.length_append, List.length_take]; omega)]
  rw [h2, List.take_left' (by simp only [List.length_append, List.length_take, List.length_drop]; omega)]

theorem room_gone (w : World) (n : Nat) (hn : n ≤ 1000000) : Builtin.nextslicecap (n + 1) n * 24 ≤ 281474976710656 := growslice_fits (by omega) (by omega)

set_option maxHeartbeats 4000000 in
theorem insert_grow (g : Nat) (cur : Array Value) (xs : List S37) (i : Nat) (u : S37) (vb base : Nat) (W : World) (hg : base ≤ W.heap.size) (hh : W.heap[g]? = some (.cells cur 37 (0, 0))) (hi : i < xs.length) (hcs : cur.size = xs.length * 3)
    (ht : cur.toList.take (xs.length * 3) = xs.flatMap uenc) (hn : xs.length ≤ 1000000) (hv : W.heap[vb]? = some (.cells (uenc u).toArray 37 (0, 0))) :
    Calls Try.prog 25 #[.slice (some ⟨g, 0, none⟩) xs.length xs.length, .int .i64 i, .slice (some ⟨vb, 0, none⟩) 1 1] W (Insd base W (.slice (some ⟨g, 0, none⟩) xs.length xs.length) xs i u) := by
  obtain ⟨n, hnn⟩ : ∃ n, n = xs.length := ⟨_, rfl⟩
  obtain ⟨F, hF⟩ : ∃ F, F = xs.flatMap uenc := ⟨_, rfl⟩
  have hFl : F.length = n * 3 := by rw [hF, hnn, flat_len]
  have hF1 : ∀ v ∈ F, v.oneCell' = true := by rw [hF]; exact flat_ones xs
  rw [← hF, ← hnn] at ht
  rw [← hnn] at hi hcs hn
  obtain ⟨i0, hi0, hz0, hz1, hz2⟩ := info_parts info37
  have hold0 : ∀ j v, F[j]? = some v → W.cell? (Addr.add ⟨g, 0, none⟩ j) = some v := fun j v hj => by
    rw [add_plain, blk_cell hh]
    rw [← ht, List.getElem?_take] at hj
    split at hj
    · simpa using hj
    · cases hj
  have hold : (Builtin.firstCells i0.size i (.slice (some ⟨g, 0, none⟩) i n)).run Try.prog W.drew = .ok (F.take (i * 3)).toArray W.drew := by
    rw [hz1]
    exact run_firstCells_some W.drew 3 i ⟨g, 0, none⟩ i n (F.take (i * 3)) (by rw [List.length_take]; omega) (fun j v hj => by
      rw [List.getElem?_take] at hj
      split at hj
      · exact hold0 j v hj
      · cases hj)
  obtain ⟨G, hG⟩ : ∃ G, G = grownCap W (n + 1) n 37 := ⟨_, rfl⟩
  have hGn : n + 1 ≤ G := by rw [hG]; exact grownCap_ge W _ _ _
  have hGm : G ≤ maxLen := by rw [hG]; exact grownCap_le_maxLen W (n + 1) n 37 (by unfold maxLen; omega)
  obtain ⟨Z, hZ⟩ : ∃ Z : Value, Z = .agg #[.int .i64 0, .int .i64 0, .int .i64 0] := ⟨_, rfl⟩
  have hZs : Z.cells.size = 3 := by rw [hZ]; rfl
  have hzl : ∀ k, (Builtin.zeroCells Z.cells k).toList.length = k * 3 := fun k => by rw [Array.length_toList, size_zeroCells, hZs]
  obtain ⟨ROW, hROW⟩ : ∃ ROW : Array Value, ROW = (F.take (i * 3)).toArray ++ Builtin.zeroCells Z.cells (n + 1 - i) ++ Builtin.zeroCells Z.cells (G - (n + 1)) := ⟨_, rfl⟩
  have hRl : ROW.toList = F.take (i * 3) ++ (Builtin.zeroCells Z.cells (n + 1 - i)).toList ++ (Builtin.zeroCells Z.cells (G - (n + 1))).toList := by rw [hROW]; simp
  have hRs : ROW.size = G * 3 := by
    rw [← Array.length_toList, hRl]
    simp only [List.length_append, hzl, List.length_take, hFl]
    omega
  obtain ⟨W1, hW1⟩ : ∃ W1, W1 = W.drew.alloc (.cells ROW 37) := ⟨_, rfl⟩
  have hrz : ∀ ty, (Builtin.append_ #[57, 3] ty #[.slice (some ⟨g, 0, none⟩) i n, .int .i64 ((n : Int) + 1 - (i : Int))]).run Try.prog W = .ok (.slice (some ⟨W.heap.size, 0, none⟩) (n + 1) G) W1 := fun ty => by
    have hik : i + (n + 1 - i) = n + 1 := by omega
    have h := Lib.run_append_grow_zeros W 57 3 ty 37 i0 Z .i64 .i64 under57 Try.underlying3 hi0 (by rw [hZ]; exact hz0) (some ⟨g, 0, none⟩) i n (F.take (i * 3)) hold (n + 1 - i) (by omega) (by omega) (by omega) (by omega) (by rw [hz2]; omega) (by rw [hz2, hik]; exact room_gone W n hn)
    rw [hik, ← hG, ← hROW, ← hW1] at h
    rw [show (n : Int) + 1 - (i : Int) = ((n + 1 - i : Nat) : Int) by omega]
    exact h
  have hh1 : W1.heap[W.heap.size]? = some (.cells ROW 37 (0, 0)) := by rw [hW1]; exact heap_alloc_new W.drew _
  have hb1 : W.grownBy W1 none := by
    have h := World.grownBy_alloc W.drew (.cells ROW 37) none
    rw [hW1]; exact ⟨h.os, h.tape, h.output, h.size, h.block⟩
  have hv1 : W1.heap[vb]? = some (.cells (uenc u).toArray 37 (0, 0)) := (hb1.block vb (blk_lt hv) (by simp)).trans hv
  have hg1 : W1.heap[g]? = some (.cells cur 37 (0, 0)) := (hb1.block g (blk_lt hh) (by simp)).trans hh
  obtain ⟨N, hN⟩ : ∃ N, N = W.heap.size := ⟨_, rfl⟩
  have hgN : g ≠ N := by have := blk_lt hh; omega
  have hvN : vb ≠ N := by have := blk_lt hv; omega
  rw [← hN] at hrz hh1
  obtain ⟨cur1, hc1⟩ : ∃ cur1, cur1 = (ROW.toList.take (i * 3) ++ uenc u ++ ROW.toList.drop (i * 3 + (uenc u).length)).toArray := ⟨_, rfl⟩
  obtain ⟨W2, hW2⟩ : ∃ W2, W2 = W1.setRow N cur1 := ⟨_, rfl⟩
  have hcp1 : ∀ ty dc, (Builtin.copy_ #[57, 57] ty #[.slice (some ⟨N, i * 3, none⟩) (n + 1 - i) dc, .slice (some ⟨vb, 0, none⟩) 1 1]).run Try.prog W1 = .ok (goInt ((1 : Nat) : Int)) W2 := fun ty dc => by
    rw [hW2, hc1]
    exact copy3 W1 ty N (i * 3) _ dc ⟨vb, 0, none⟩ 1 1 1 ROW 37 (uenc u) (by simp only [Nat.min_def]; split <;> omega) hh1 rfl (fun j v hj => by rw [add_plain, blk_cell hv1]; simpa using hj) (by rw [hRs]; show i * 3 + 3 ≤ G * 3; omega) (by intro v hv; simp [uenc] at hv; rcases hv with rfl | rfl | rfl <;> rfl)
  have hh2 : W2.heap[N]? = some (.cells cur1 37 (0, 0)) := by rw [hW2]; exact setRow_heap _ N ROW _ 37 _ hh1
  have hg2 : W2.heap[g]? = some (.cells cur 37 (0, 0)) := by rw [hW2, setRow_other _ _ _ _ hgN]; exact hg1
  have hs1 : cur1.size = G * 3 := by
    rw [hc1]
    simp only [List.size_toArray, List.length_append, List.length_take, List.length_drop, Array.length_toList, hRs]
    show min _ _ + 3 + (_ - (_ + 3)) = _
    omega
  obtain ⟨cur2, hc2⟩ : ∃ cur2, cur2 = (cur1.toList.take ((i + 1) * 3) ++ F.drop (i * 3) ++ cur1.toList.drop ((i + 1) * 3 + (F.drop (i * 3)).length)).toArray := ⟨_, rfl⟩
  obtain ⟨W3, hW3⟩ : ∃ W3, W3 = W2.drew.setRow N cur2 := ⟨_, rfl⟩
  have hcp2 : ∀ ty dc sc, (Builtin.copy_ #[57, 57] ty #[.slice (some ⟨N, (i + 1) * 3, none⟩) (n - i) dc, .slice (some ⟨g, i * 3, none⟩) (n - i) sc]).run Try.prog W2.drew = .ok (goInt ((n - i : Nat) : Int)) W3 := fun ty dc sc => by
    rw [hW3, hc2]
    exact copy3 W2.drew ty N ((i + 1) * 3) _ dc ⟨g, i * 3, none⟩ _ sc (n - i) cur1 37 (F.drop (i * 3)) (by simp only [Nat.min_def]; split <;> omega) hh2 (by rw [List.length_drop, hFl]; omega)
      (fun j v hj => by
        rw [Addr.add_lit]
        show W2.cell? _ = _
        rw [blk_cell hg2]
        rw [List.getElem?_drop, ← ht, List.getElem?_take] at hj
        split at hj
        · simpa using hj
        · cases hj) (by rw [List.length_drop, hFl, hs1]; omega) (fun v hv => hF1 v (List.mem_of_mem_drop hv))
  have hend : Insd base W (.slice (some ⟨g, 0, none⟩) n n) xs i u (.returned (.slice (some ⟨N, 0, none⟩) (n + 1) G)) W3 := by
    refine ⟨some ⟨N, 0, none⟩, G, by rw [hnn], ?_, ?_, .inr ⟨N, rfl, by omega⟩⟩
    · have hl := ins_len xs i u (by omega)
      rw [← hl]
      refine own37_mk (by omega) (by rw [hW3]; exact setRow_heap _ N cur1 _ 37 _ hh2) (by omega) hGm (by rw [hc2]; simp only [List.size_toArray, List.length_append, List.length_take, List.length_drop, Array.length_toList, hs1, hFl]; omega) ?_
      rw [hl, flat_ins xs i u (by omega), ← hF, hc2, List.toList_toArray, ← hnn]
      exact grow_cells F _ _ (uenc u) i n hi hFl rfl (hzl _) ROW.toList cur1.toList hRl (by rw [hc1, List.toList_toArray])
    · refine ⟨by rw [hW3, hW2]; exact hb1.os, by rw [hW3, hW2]; exact hb1.tape, by rw [hW3, hW2]; exact hb1.output, by rw [hW3, setRow_size]; show _ ≤ W2.heap.size; rw [hW2, setRow_size]; exact hb1.size, fun k hk hne => ?_⟩
      rw [hW3, setRow_other _ _ _ _ (by omega)]
      show W2.heap[k]? = _
      rw [hW2, setRow_other _ _ _ _ (by omega)]
      exact hb1.block k hk (by simp)
  rw [← hnn]
  have hu := Try.underlying57
  have hb1 : ¬ ((i : Int) = (n : Int)) := by omega
  have hcut1 : ∀ W : World, (Instr.slice 57 (.slice (some ⟨g, 0, none⟩) n n) (some (.int .i64 (i : Int))) none none).run Try.prog W = .ok (.slice (some ⟨g, i * 3, none⟩) (n - i) (n - i)) W := cut_tail g n n i (by omega) (by omega)
  have hcut2 := cut_upto (some ⟨g, 0, none⟩) n n (i : Int) (by omega) (by omega)
  rw [show ((i : Int)).toNat = i by omega] at hcut2
  have hcut3 := cut_tail1 N (n + 1) G i (by omega) (by omega)
  have hcut4 := cut_tail N (n + 1) G i (by omega) (by omega)
  have HE : Aside _ := hend
  obtain ⟨Q, hQ⟩ : ∃ Q, Q = Insd base W (.slice (some ⟨g, 0, none⟩) n n) xs i u := ⟨_, rfl⟩
  rw [← hQ]
  have HQ := Lib.hid hQ
  have hG' : G ≤ 9223372036854775807 := by unfold maxLen at hGm; omega
  have mixed : Try.prog.follows .mixedOrders = true := by kernel_rfl
  have hw1 : IntKind.i64.wrap ((i : Int) + 1) = (i : Int) + 1 := by rw [IntKind.wrap_i64]; omega
  have hx1 : (0 : Int) ≤ (i : Int) + 1 := by omega
  have hx2 : ((i : Int) + 1).toNat = i + 1 := by omega
  have hx3 : (i : Int) ≤ (n : Int) := by omega
  clear hend hQ hW3 hW2 hc2 hc1 hs1 hg2 hh2 hg1 hv1 hh1 hW1 hRs hRl hROW hzl hZs hZ hGm hG hold hold0 hz0 hz1 hz2 hi0 ht hF1 hFl hF hnn hcs hh hv hN hg
  clear hb1
  have hb1 : ¬ ((i : Int) = (n : Int)) := by omega
  go_enter Try.func25, Try.ntmps25
  go_wp2_with (first
    | (at_builtin; refine Lib.wpList_append_run _ rfl _ _ _ _ rfl _ _ rfl rfl _ _ (hrz _) ?_)
    | (at_builtin; refine wpList_copy_runI _ rfl _ _ 57 57 rfl _ _ rfl rfl (hcp1 _ _) ?_))
  go_region_law_o (refine step_copy_runI rfl _ _ 57 57 rfl (.slice (some ⟨N, (i + 1) * 3, none⟩) (n - i) (G - (i + 1))) (.slice (some ⟨g, i * 3, none⟩) (n - i) (n - i)) (by simp [Act.eval, Act.put]) (by simp [Act.eval, Act.put]) (hcp2 _ _ _) ?_)
  go_wp2
  rw [HQ.out]
  exact HE.out


/-- slices.Insert of one value at a place of a row of the call's own. -/
theorem insert_any (A : Option Addr) (c : Nat) (xs : List S37) (i : Nat) (u : S37) (vb base : Nat) (ok : Nat → Prop) (W : World) (HO : k37.R 37 W base ok (.slice A xs.length c) xs) (hi : i ≤ xs.length) (hn : xs.length ≤ 1000000)
    (hv : W.heap[vb]? = some (.cells (uenc u).toArray 37 (0, 0))) (hne : some vb ≠ (Value.slice A xs.length c).ownBlock) (hbase : base ≤ W.heap.size) :
    Calls Try.prog 25 #[.slice A xs.length c, .int .i64 i, .slice (some ⟨vb, 0, none⟩) 1 1] W (Insd base W (.slice A xs.length c) xs i u) := by
  by_cases h : i = xs.length
  · subst h
    exact insert_end A c xs u vb base ok W HO hn hv hbase
  · rcases own37 HO with ⟨rfl, h0, rfl, rfl⟩ | ⟨g, cur, rfl, _, hg, hh, hnc, hcm, hcs, ht⟩
    · simp at hi; omega
    · have hne' : vb ≠ g := fun e => hne (by simp [Value.ownBlock, e])
      by_cases hr : xs.length + 1 ≤ c
      · exact insert_room g c cur xs i u vb base W hg hh (by omega) hr hcm hcs ht hn hv hne'
      · obtain rfl : c = xs.length := by omega
        exact insert_grow g cur xs i u vb base W hbase hh (by omega) hcs ht hn hv

end Go.Proofs.Ytlodlblkmnhaeaa

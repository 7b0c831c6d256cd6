/- The walk of schedule.Run. -/
import Derived.Test.YtmpeekkbmfbjeaaNextCalls
namespace Go.Proofs.Ytmpeekkbmfbjeaa
open Go.RowKit Go.Lib Go.Shelf Go.Sort Go.Proofs.Ytmpeekkbmfbjeaa.P Go.Proofs.YtmpeekkbmfbjeaaW.PrintWords Go.Proofs.YtmpeekkbmfbjeaaW.PrintLast Go.Proofs.YtmpeekkbmfbjeaaW.PrintMore
set_option linter.unusedVariables false
set_option linter.unusedSimpArgs false

theorem foldl_bStep (l : List S58) (kind : Int) (p : S58 → Bool) (cf : S58 → S58 → Int) : ∀ (left : List Int) (out : Int), left.foldl (bStep l kind p cf) out = out ∨ left.foldl (bStep l kind p cf) out ∈ left
  | [], out => .inl rfl
  | x :: r, out => by
    rw [List.foldl_cons]
    rcases foldl_bStep l kind p cf r (bStep l kind p cf out x) with h | h
    · rw [h]
      unfold bStep
      split
      · exact .inr List.mem_cons_self
      · exact .inl rfl
    · exact .inr (List.mem_cons_of_mem _ h)
theorem bst_mem (l : List S58) (kind : Int) (p : S58 → Bool) (cf : S58 → S58 → Int) (left : List Int) (h : ¬ bst l kind p cf left < 0) : bst l kind p cf left ∈ left := by
  rcases foldl_bStep l kind p cf left (-1) with h1 | h1
  · exfalso
    unfold bst at h
    rw [h1] at h
    exact h (by decide)
  · exact h1
theorem nxt_mem {l : List S58} {left cr : List Int} (h : ¬ (nxt l left cr).2 < 0) : (nxt l left cr).2 ∈ left := by
  unfold nxt at h ⊢
  split
  · rename_i c
    rw [if_pos c] at h
    exact bst_mem _ _ _ _ _ h
  · rename_i c
    rw [if_neg c] at h
    split
    · rename_i c2
      rw [if_pos c2] at h
      exact absurd (show (-1 : Int) < 0 by decide) h
    · rename_i c2
      rw [if_neg c2] at h
      exact bst_mem _ _ _ _ _ h

theorem enters34 : ∀ args w, (callFunc 34 args).run Try.prog w = .ok (.enter 34 args) w := fun args w => enters_ Try.func34 (by kernel_rfl) rfl args w
theorem fn34_any (x k : Int) (kb : Nat) (w : World) (hk : w.cell? ⟨kb, 0, none⟩ = some (.int .i64 k)) : Calls Try.prog 34 #[.int .i64 x, .pointer (some ⟨kb, 0, none⟩)] w fun e w' => e = .returned (.bool (x == k)) ∧ w' = w := by
  go_enter Try.func34, Try.ntmps34
  go_wp2
  go_ret
  exact ⟨rfl, rfl⟩

theorem Crd.holds {w : World} {g n : Nat} {cr : List Int} (h : Crd w g n cr) : Holds (Value.int .i64) w g 0 cr.toArray := by
  intro j hj
  have hj' : j < cr.length := by simpa using hj
  rw [Nat.zero_add]
  refine ⟨?_, h.frozen j⟩
  rw [h.cell j hj']
  simp [rd, List.getD_eq_getElem?_getD, hj', getElem!_pos]

theorem turn_putRow (w : World) (g q : Nat) (d : Array Int) : Turn g w (putRow (Value.int .i64) (Sort.ahead w q) g 0 d) := by
  refine ⟨rfl, rfl, rfl, ?_, fun k hk hg => ?_⟩
  · show w.heap.size ≤ (w.heap.modify g _).size
    rw [Array.size_modify]
    exact Nat.le_refl _
  · show (w.heap.modify g _)[k]? = _
    rw [Array.getElem?_modify, if_neg (fun e => hg e.symm)]

theorem crd_putRow {w : World} {g n : Nat} {cr : List Int} (h : Crd w g n cr) (q : Nat) (F : List Int) (m : Nat) (hF : F.length ≤ cr.length) : Crd (putRow (Value.int .i64) (Sort.ahead w q) g 0 (F ++ List.replicate m 0).toArray) g n F := by
  obtain ⟨cs, h1, h2, h3, h4⟩ := h
  refine ⟨putCells (Value.int .i64) 0 (F ++ List.replicate m 0).toArray cs, ?_, by simp [putCells, h2], ?_, Nat.le_trans hF h4⟩
  · show (w.heap.modify g _)[g]? = _
    rw [Array.getElem?_modify, if_pos rfl, h1]
    rfl
  · apply List.ext_getElem?
    intro j
    rw [List.getElem?_take]
    by_cases hj : j < F.length
    · rw [if_pos hj, List.getElem?_map, List.getElem?_eq_getElem hj, Array.getElem?_toList]
      have hjc : j < cs.size := by omega
      unfold putCells
      rw [Array.getElem?_mapIdx, Array.getElem?_eq_getElem hjc]
      have hd : j < (F ++ List.replicate m (0 : Int)).toArray.size := by simp; omega
      simp only [Option.map_some]
      rw [if_pos ⟨Nat.zero_le _, by omega⟩, Nat.sub_zero, getElem!_pos _ j hd]
      simp [hj, List.getElem_append_left]
    · rw [if_neg hj, List.getElem?_map, List.getElem?_eq_none (by omega)]
      rfl

theorem delAt (gl nl kb : Nat) (left : List Int) (k : Int) (w : World) (hc : Crd w gl nl left) (hlen : left.length ≤ 100) (hk : w.cell? ⟨kb, 0, none⟩ = some (.int .i64 k)) (hne : kb ≠ gl) :
    Calls Try.prog 33 #[.slice (some ⟨gl, 0, none⟩) left.length nl, .func (.func 34) #[] #[.pointer (some ⟨kb, 0, none⟩)]] w fun e w' =>
      e = .returned (.slice (some ⟨gl, 0, none⟩) (left.filter fun i => !(i == k)).length nl) ∧ Crd w' gl nl (left.filter fun i => !(i == k)) ∧ Turn gl w w' := by
  have hH := hc.holds
  have hlt : kb < w.heap.size := World.block_lt_of_cell? _ _ hk
  have h1 : PredAt Try.prog 34 #[.pointer (some ⟨kb, 0, none⟩)] (Value.int .i64) (fun i => i == k) w := fun W x hb =>
    (fn34_any x k kb W ((hb.cell (p := ⟨kb, 0, none⟩) hlt).trans hk)).mono fun e w' h => ⟨h.1, 0, h.2⟩
  have h2 : PredOver Try.prog 34 #[.pointer (some ⟨kb, 0, none⟩)] (Value.int .i64) (fun i => i == k) gl 0 left.toArray.size w := fun m os dk x _ => by
    refine (fn34_any x k kb _ ?_).mono fun e w' h => ⟨h.1, 0, h.2⟩
    unfold sortWorld
    rw [cell?_grow _ _ _ (by show kb < (w.heap.modify gl _).size; rw [Array.size_modify]; exact hlt)]
    exact (cell_same ((turn_putRow w gl m dk).block kb hlt hne) 0).trans hk
  refine (AnyE.slices_DeleteFunc Try.laysDf (Value.int .i64) (fun _ => rfl) (fun i => i == k) 34 #[.pointer (some ⟨kb, 0, none⟩)] enters34 0 (fun w => Try.zeroValue3 w) gl 0 nl left.toArray w h1 h2 hH (by simp; omega) ?_).mono ?_
  · obtain ⟨cs, _, _, _, h4⟩ := hc
    simpa using h4
  · rintro e w' ⟨rfl, q, rfl⟩
    refine ⟨rfl, ?_, turn_putRow _ _ _ _⟩
    exact crd_putRow hc q _ _ (List.length_filter_le _ _)

/-- how the indices that are left lie in memory. -/
def LRep (w : World) (v : Value) (left : List Int) (lo hi : Nat) : Prop := (left = [] ∧ ∃ A c, v = .slice A 0 c) ∨ ∃ gl nl, v = .slice (some ⟨gl, 0, none⟩) left.length nl ∧ lo < gl ∧ gl < hi ∧ Crd w gl nl left
theorem LRep.turn {w w1 : World} {v : Value} {left : List Int} {lo hi g : Nat} (h : LRep w v left lo hi) (ht : Turn g w w1) (hg : g ≤ lo ∨ hi ≤ g) : LRep w1 v left lo hi := by
  rcases h with h | ⟨gl, nl, rfl, h1, h2, hc⟩
  · exact .inl h
  · refine .inr ⟨gl, nl, rfl, h1, h2, ?_⟩
    have hlt := hc.lt
    obtain ⟨cs, c1, c2⟩ := hc
    exact ⟨cs, (ht.block gl hlt (by omega)).trans c1, c2⟩
theorem LRep.reads {w : World} {v : Value} {left : List Int} {lo hi g : Nat} (h : LRep w v left lo hi) (hl : left.length ≤ 60) (hg : g ≤ lo) : ∃ B d, v = .slice B left.length d ∧ ∀ W, KeepBut w W g none → Kd.C (Kd.int .i64) W B left.length left := by
  rcases h with ⟨rfl, A, c, rfl⟩ | ⟨gl, nl, rfl, h1, h2, hc⟩
  · exact ⟨A, c, rfl, fun W hW => ⟨rfl, by simp, fun h => absurd h (Nat.lt_irrefl 0)⟩⟩
  · exact ⟨_, _, rfl, hc.keepC (by omega) (by omega)⟩
theorem Turn.of_grown {w w1 : World} {row : Option Nat} {g : Nat} (h : w.grownBy w1 row) (hr : ∀ k, row = some k → k = g) : Turn g w w1 := ⟨h.os, h.tape, h.output, h.size, fun k hk hg => h.block k hk (fun e => hg (hr k e.symm))⟩

theorem Crd.same {w w1 : World} {g n : Nat} {cr : List Int} (h : Crd w g n cr) (e : w1.heap[g]? = w.heap[g]?) : Crd w1 g n cr := by
  obtain ⟨cs, h1, h2⟩ := h
  exact ⟨cs, e.trans h1, h2⟩

theorem Crd.R2 {w : World} {g n base : Nat} {cr : List Int} {ok : Nat → Prop} (h : Crd w g n cr) (hn : n ≤ maxLen) (hb : base ≤ g) (hok : ok g) : Kd.R (Kd.int .i64) 3 w base ok (.slice (some ⟨g, 0, none⟩) cr.length n) cr := by
  obtain ⟨cs, h1, h2, h3, h4⟩ := h
  refine Kd.R_of_own ?_ (fun k hk => by cases hk; exact hok)
  refine ⟨by rw [encs_length]; omega, .inr ⟨g, n, cs, rfl, hb, h1, h4, hn, by omega, ?_⟩⟩
  rw [Nat.mul_one]
  exact h3

structure RInv (l : List S58) (left picks cr : List Int) : Prop where
  mem : ∀ x ∈ left, 0 ≤ x ∧ x < (l.length : Int)
  len : picks.length + left.length ≤ 60
  ok : COk cr
theorem RInv.step {l : List S58} {left picks cr : List Int} (h : RInv l left picks cr) (hk : ¬ (nxt l left cr).2 < 0) : RInv l (left.filter fun i => !(i == (nxt l left cr).2)) (picks ++ [(nxt l left cr).2]) (nxt l left cr).1 := by
  have hm := nxt_mem hk
  refine ⟨fun x hx => h.mem x (List.mem_filter.1 hx).1, ?_, nxt_COk h.ok⟩
  have h1 : (left.filter fun i => !(i == (nxt l left cr).2)).length < left.length := by
    rcases Nat.lt_or_eq_of_le (List.length_filter_le (fun i => !(i == (nxt l left cr).2)) left) with h2 | h2
    · exact h2
    · exfalso
      have := (List.length_filter_eq_length_iff.1 h2) _ hm
      simp at this
  have := h.len
  rw [List.length_append]
  simp only [List.length_cons, List.length_nil]
  omega

set_option maxHeartbeats 16000000 in
set_option maxRecDepth 1000000 in
theorem run_full (A0 : Option Addr) (c0 : Nat) (l0 : List Int) (A1 : Option Addr) (c1 : Nat) (l1 : List S58) (budget : Int) (R : List Int × List Int) (w : World) (hr0 : Kd.C (Kd.int .i64) w A0 l0.length l0) (hr1 : Kd.C k58 w A1 l1.length l1) (hc1 : l1.length ≤ c1)
    (hv : vOk l0 = true) (hb0 : ¬ budget < 0) (h60 : l1.length ≤ 60) (hrun : runO l1 budget 61 l0 (upto l1.length) [] = some R) :
    Calls Try.prog 22 #[.agg #[.slice A0 l0.length c0], .slice A1 l1.length c1, .int .i64 budget] w fun e w' => ∃ v0 v1 : Value, e = .returned (.tuple #[.agg #[v0], v1, .int .i64 0]) ∧
      Kd.R (Kd.int .i64) 3 w' w.heap.size (fun k_ => some k_ ≠ (v1 : Value).ownBlock) v0 R.1 ∧ Kd.R (Kd.int .i64) 3 w' w.heap.size (fun k_ => some k_ ≠ (v0 : Value).ownBlock) v1 R.2 ∧ Below w.heap.size w w' := by
  have hu26 := Try.underlying26
  have HOK := Aside0.mk (vOk_COk hv)
  have h5 : l0.length = 5 := HOK.out.1
  have HL := Aside0.mk hr1
  have HV := Aside0.mk (fun W hW => valid_any A0 c0 l0 W (Kd.C_below hr0 hW))
  have EV := Aside0.mk (fun (W : World) (hW : Below w.heap.size w W) => schedule_every.calls 100 A1 c1 l1 (upto l1.length) W (Kd.C_below hr1 hW) hc1 (every_f l1 h60))
  have CL := Aside0.mk (fun (W : World) (hW : Below w.heap.size w W) => clone5 A0 c0 l0 W (Kd.C_below hr0 hW) h5)
  have HQ := Aside0.mk h60
  have HRUN := Aside0.mk hrun
  have hbd : decide (budget < 0) = false := decide_eq_false hb0
  rw [hv] at HV
  rw [h5] at HV ⊢
  clear hr0 hr1 hc1 hv h60 h5 hrun
  obtain ⟨W0, hW0⟩ : ∃ W0, W0 = (w.alloc (.cells #[.slice A0 5 c0] 26 (0, 0))).alloc (.cells #[.slice none 0 0] 26 (0, 0)) := ⟨_, rfl⟩
  have G1 : Aside0 (W0.heap[w.heap.size]? = some (.cells #[.slice A0 5 c0] 26 (0, 0))) := ⟨by rw [hW0]; exact blk_alloc (blk_new w _) _⟩
  have G2 : Aside0 (W0.heap[w.heap.size + 1]? = some (.cells #[.slice none 0 0] 26 (0, 0))) := ⟨by
    rw [hW0]
    have := blk_new (w.alloc (.cells #[.slice A0 5 c0] 26 (0, 0))) (.cells #[.slice none 0 0] 26 (0, 0))
    simpa using this⟩
  have B0 : Aside0 (Below w.heap.size w W0) := ⟨by rw [hW0]; exact below_alloc (below_alloc (Below.refl _ _) _) _⟩
  have HW0 := Lib.hid hW0
  clear hW0
  go_enter Try.func22, Try.ntmps22
  go_wp2_with fail
  rw [← HW0.out]
  refine (HV.out _ B0.out).mono ?_
  rintro e w1 ⟨rfl, hb⟩
  have B1 := Aside0.mk (below_then B0.out B0.out.size hb)
  have cA := (blk_cell (blk_below G1.out hb) 0).trans rfl
  have G3 := Aside0.mk (blk_below G2.out hb)
  clear HV HW0 B0 G1 G2 hb
  go_wp2_with fail
  refine (CL.out _ B1.out).mono ?_
  rintro e w2 ⟨g, n, rfl, hg, hn, hcr, hb⟩
  have HNM := Aside0.mk hn
  have B2 := Aside0.mk (below_then B1.out B1.out.size hb)
  have HG : Aside0 (w.heap.size ≤ g) := ⟨Nat.le_trans B1.out.size hg⟩
  have GTG : Aside0 (w.heap.size + 1 < g) := ⟨Nat.lt_of_lt_of_le (blk_lt G3.out) hg⟩
  have GG9 := Aside0.mk hcr.lt
  have G4 := Aside0.mk (blk_below G3.out hb)
  have CR := Aside0.mk hcr
  clear CL B1 cA G3 hg hn hcr hb
  go_wp2_with fail
  have BD2 := Aside0.mk (below_alloc B2.out (.cells #[.slice (some ⟨g, 0, none⟩) 5 n] 26 (0, 0)))
  have CD2 := Aside0.mk (CR.out.below (below_alloc (Below.refl _ _) (.cells #[.slice (some ⟨g, 0, none⟩) 5 n] 26 (0, 0))))
  have GT2 := Aside0.mk (blk_alloc G4.out (.cells #[.slice (some ⟨g, 0, none⟩) 5 n] 26 (0, 0)))
  have GB2 := Aside0.mk (blk_new w2 (.cells #[.slice (some ⟨g, 0, none⟩) 5 n] 26 (0, 0)))
  clear B2 CR G4
  generalize w2.alloc (.cells #[.slice (some ⟨g, 0, none⟩) 5 n] 26 (0, 0)) = W2 at BD2 CD2 GT2 GB2 ⊢
  generalize w2.heap.size = g9 at GG9 GB2 ⊢
  refine (EV.out _ BD2.out).mono ?_
  rintro e w3 ⟨v3, rfl, hR, hb⟩
  have BD3 := Aside0.mk (below_then BD2.out BD2.out.size hb)
  have CD3 := Aside0.mk (CD2.out.below hb)
  have GT3 := Aside0.mk (blk_below GT2.out hb)
  have GB3 := Aside0.mk (blk_below GB2.out hb)
  have LR3 : Aside0 (LRep w3 v3 (upto l1.length) g9 w3.heap.size) := ⟨by
    rcases Nat.eq_zero_or_pos (upto l1.length).length with h0 | h0
    · obtain ⟨A, c, e1, _⟩ := Kd.R_reads hR
      rw [h0] at e1
      exact .inl ⟨List.eq_nil_of_length_eq_zero h0, A, c, e1⟩
    · obtain ⟨gl, nl, e1, e2, e3, e4⟩ := Crd.of_R hR h0
      exact .inr ⟨gl, nl, e1, Nat.lt_of_lt_of_le (blk_lt GB2.out) e2, e4.lt, e4⟩⟩
  have IV3 : Aside0 (RInv l1 (upto l1.length) [] l0) := ⟨⟨fun x hx => mem_upto hx, by rw [upto_len]; have := HQ.out; simpa using this, HOK.out⟩⟩
  clear EV BD2 CD2 GT2 GB2 hR hb
  go_wp2_with fail
  obtain ⟨N0, hN0⟩ : ∃ N0, N0 = w3.heap.size := ⟨_, rfl⟩
  rw [← hN0] at LR3
  have HN0 := Lib.hid hN0
  clear hN0
  have PK3 : Aside0 (Kd.R (Kd.int .i64) 3 w3 N0 (fun _ => True) (.slice none 0 0) []) := ⟨Kd.R_nil _ _ _ _ _⟩
  have G9N : Aside0 (g9 < N0) := ⟨by rw [HN0.out]; exact blk_lt GB3.out⟩
  have SZ3 : Aside0 (N0 ≤ w3.heap.size) := ⟨by rw [HN0.out]; exact Nat.le_refl _⟩
  clear HN0
  go_loopg [10, 11, 12] 61 (fun gq v10 v11 v12 wr => ∃ (cr left picks : List Int), Aside0 (runO l1 budget gq cr left picks = some R) ∧ Aside0 (gq ≤ 61) ∧ Aside0 (LRep wr v10 left g9 N0) ∧ Aside0 (Kd.R (Kd.int .i64) 3 wr N0 (fun _ => True) v11 picks) ∧ Aside0 (RInv l1 left picks cr) ∧ Aside0 (Crd wr g n cr) ∧ Aside0 (wr.heap[w.heap.size + 1]? = some (.cells #[.slice none 0 0] 26 (0, 0))) ∧ Aside0 (wr.heap[g9]? = some (.cells #[.slice (some ⟨g, 0, none⟩) 5 n] 26 (0, 0))) ∧ Aside0 (Below w.heap.size w wr) ∧ Aside0 (N0 ≤ wr.heap.size))
  case atStart => exact ⟨l0, upto l1.length, [], HRUN, ⟨Nat.le_refl _⟩, LR3, PK3, IV3, CD3, GT3, GB3, BD3, SZ3⟩
  case round =>
    clear HRUN LR3 PK3 IV3 CD3 GT3 GB3 BD3 SZ3
    obtain ⟨cr, left, picks, HA, HK, LR, PK, IV, CD, GT, GB, BD, SZ⟩ := hrel
    cases gk with
    | zero => exact absurd HA.out (by simp [runO])
    | succ k1 =>
      obtain ⟨Ap, cp, ep⟩ := Kd.R_slice PK.out
      subst ep
      have hRO := HA.out
      unfold runO at hRO
      by_cases hlt : (picks.length : Int) < budget
      · rw [if_pos hlt] at hRO
        obtain ⟨c2, k, hnx⟩ : ∃ c2 k, nxt l1 left cr = (c2, k) := ⟨_, _, rfl⟩
        have IVS : Aside0 (¬ k < 0 → RInv l1 (left.filter fun i => !(i == k)) (picks ++ [k]) c2) := ⟨fun h => by have := IV.out.step (by rw [hnx]; exact h); rw [hnx] at this; exact this⟩
        have MEM : Aside0 (¬ k < 0 → k ∈ left) := ⟨fun h => by have := nxt_mem (l := l1) (left := left) (cr := cr) (by rw [hnx]; exact h); rw [hnx] at this; exact this⟩
        have K5 : Aside0 (c2.length = 5) := ⟨by have := nxt_COk (l := l1) (left := left) IV.out.ok; rw [hnx] at this; exact this.1⟩
        rw [hnx] at hRO
        have HNX := Lib.hid hnx
        have HRO := Lib.hid hRO
        have hld : decide ((picks.length : Int) < budget) = true := decide_eq_true hlt
        obtain ⟨B, d, eB, hBC⟩ := LR.out.reads (g := g) (by have := IV.out.len; omega) (Nat.le_of_lt GG9.out)
        subst eB
        have HN := Aside0.mk (nextAt (l := l1) (left := left) (cr := cr) (g := g) (n := n) wr (A := A1) (c := c1) (B := B) (d := d) (Kd.C_foot_came k58_heap HL.out BD.out HG.out) hBC (inL_of IV.out.mem (by have := IV.out.len; omega)) CD.out IV.out.ok)
        have c9 := (blk_cell GB.out 0).trans rfl
        rw [HNX.out] at HN
        clear hRO HA hBC hnx HNX
        go_wp2_with fail
        refine HN.out.mono ?_
        rintro e w5 ⟨rfl, hcr, ht⟩
        have CD5 : Aside0 (Crd w5 g n c2) := ⟨hcr⟩
        have BD5 := Aside0.mk (BD.out.grown ht.grown BD.out.size (fun k hk => by cases hk; exact HG.out))
        have GT5 := Aside0.mk ((ht.block _ (blk_lt GT.out) (Nat.ne_of_lt GTG.out)).trans GT.out)
        have GB5 := Aside0.mk ((ht.block _ (blk_lt GB.out) (Nat.ne_of_gt GG9.out)).trans GB.out)
        have LR5 := Aside0.mk (LR.out.turn ht (.inl (Nat.le_of_lt GG9.out)))
        have PK5 := Aside0.mk (Kd.R_mono (Kd.R_grown (Kd.R_bound PK.out) ht.grown (fun k hk => by have h1 := hk.2.1; have h3 := GG9.out; have h4 := G9N.out; intro e; cases e; omega)) (ok' := fun _ => True) (fun _ _ => trivial))
        have SZ5 : Aside0 (N0 ≤ w5.heap.size) := ⟨Nat.le_trans SZ.out ht.size⟩
        have LEN := Aside0.mk IV.out.len
        clear CD BD GT GB LR PK SZ HN hcr ht c9
        by_cases hk0 : k < 0
        · have hkd : decide (k < 0) = true := decide_eq_true hk0
          have hRO := HRO.out
          rw [if_pos hk0] at hRO
          obtain rfl := Option.some.inj hRO
          have hb6 : Below w5.heap.size w5 (w5.alloc (.cells #[.int .i64 k] 3 (0, 0))) := below_alloc (Below.refl _ _) _
          have CD6 := Aside0.mk (CD5.out.below hb6)
          have BD6 := Aside0.mk (below_then BD5.out BD5.out.size hb6)
          have GT6 := Aside0.mk (blk_below GT5.out hb6)
          have GB6 := Aside0.mk (blk_below GB5.out hb6)
          have PK6 := Aside0.mk (Kd.R_below PK5.out hb6)
          clear hRO HRO hb6
          have cT := (blk_cell GT6.out 0).trans rfl
          have fT := blk_frozen GT6.out 0
          have c9 := (blk_cell GB6.out 0).trans rfl
          go_wp2_with fail
          have hR := (CD6.out.far (p := ⟨w.heap.size + 1, 0, none⟩) (Nat.ne_of_gt GTG.out) (.slice (some ⟨g, 0, none⟩) 5 n)).R2 (ok := fun k_ => some k_ ≠ (Value.slice Ap picks.length cp).ownBlock) HNM.out HG.out (fun e => by have h1 : N0 ≤ g := own_base (Kd.own_of_R PK6.out) g e.symm; have h3 := GG9.out; have h4 := G9N.out; omega)
          rw [K5.out] at hR
          have hP := Kd.R_lower (Kd.R_mono (ok' := fun k_ => some k_ ≠ (Value.slice (some ⟨g, 0, none⟩) 5 n).ownBlock) (Kd.R_far (p := ⟨w.heap.size + 1, 0, none⟩) (Kd.R_bound PK6.out) (fun k hk => by have h1 := hk.2.1; have h2 := GTG.out; have h3 := GG9.out; have h4 := G9N.out; show k ≠ w.heap.size + 1; omega) (.slice (some ⟨g, 0, none⟩) 5 n)) (fun k hk => by have h1 := hk.2.1; have h3 := GG9.out; have h4 := G9N.out; intro e; have e2 : k = g := Option.some.inj e; omega)) (show w.heap.size ≤ N0 by have h2 := GTG.out; have h3 := GG9.out; have h4 := G9N.out; omega)
          have hB := BD6.out.setCell (p := ⟨w.heap.size + 1, 0, none⟩) (Nat.le_succ _) (.slice (some ⟨g, 0, none⟩) 5 n)
          have hG := blk_set GT6.out 0 (.slice (some ⟨g, 0, none⟩) 5 n)
          refine bodyPost_ret (v := .tuple #[.agg #[.slice (some ⟨g, 0, none⟩) 5 n], .slice Ap picks.length cp, .int .i64 0]) ?_ rfl ⟨_, _, rfl, hR, hP, hB⟩
          have cR := (blk_cell hG 0).trans rfl
          simp [results, Try.results22, go_sem, cR]
        · have hkd : decide (k < 0) = false := decide_eq_false hk0
          have hRO := HRO.out
          rw [if_neg hk0] at hRO
          have HRO2 := Aside0.mk hRO
          have hmem := MEM.out (Int.not_lt.1 hk0)
          have IV2 := Aside0.mk (IVS.out (Int.not_lt.1 hk0))
          clear hRO HRO MEM IVS IV
          rcases LR5.out with ⟨rfl, _⟩ | ⟨gl, nl, e, hgl1, hgl2, hcl⟩
          · exact absurd hmem List.not_mem_nil
          injection e with e1 e2 e3
          subst e1
          subst e3
          have CL5 := Aside0.mk hcl
          have GL1 := Aside0.mk hgl1
          have GL2 := Aside0.mk hgl2
          have hb6 : Below w5.heap.size w5 (w5.alloc (.cells #[.int .i64 k] 3 (0, 0))) := below_alloc (Below.refl _ _) _
          have CD6 := Aside0.mk (CD5.out.below hb6)
          have BD6 := Aside0.mk (below_then BD5.out BD5.out.size hb6)
          have GT6 := Aside0.mk (blk_below GT5.out hb6)
          have GB6 := Aside0.mk (blk_below GB5.out hb6)
          have PK6 := Aside0.mk (Kd.R_below PK5.out hb6)
          have CL6 := Aside0.mk (hcl.below hb6)
          have KB6 := Aside0.mk (blk_new w5 (.cells #[.int .i64 k] 3 (0, 0)))
          have PNE : Aside0 (∀ b, (Value.slice Ap picks.length cp).ownBlock = some b → b < w5.heap.size) := ⟨fun b hb => own_lt (Kd.own_of_R PK5.out) b hb⟩
          have PLO : Aside0 (∀ b, (Value.slice Ap picks.length cp).ownBlock = some b → N0 ≤ b) := ⟨fun b hb => own_base (Kd.own_of_R PK5.out) b hb⟩
          have SZ6 : Aside0 (N0 ≤ (w5.alloc (.cells #[.int .i64 k] 3 (0, 0))).heap.size) := ⟨Nat.le_trans SZ5.out hb6.size⟩
          clear hb6 CD5 BD5 GT5 GB5 PK5 CL5 LR5 hcl hgl1 hgl2 hmem e2
          go_wp2_with (first | ((with_reducible refine gate_builtin (b := .append) (xs := #[.tmp 37, .tmp 39]) rfl ?_); at_builtin; refine Kd.R_append (Kd.int .i64) (w0 := w5.alloc (.cells #[.int .i64 k] 3 (0, 0))) N0 rfl (.tmp 37) (.tmp 39) 24 3 (.int .i64 0) 8 rfl Try.underlying24 info3 rfl (by decide) (by omega) (.slice Ap picks.length cp) picks k [.int .i64 k] (fun _ => True) (fun _ => False) rfl (by show Value.slice (some ⟨w5.heap.size + 1, 0, none⟩) 1 1 = _; simp) rfl (fun _ hk => hk.elim) (fun _ _ => trivial) PK6.out (Below.refl _ _) SZ6.out (by have := LEN.out; omega) ?_; intro v6 w6 ho hb hg hat; have PK7 := Aside0.mk ho; have LB7 := Aside0.mk hb; have GR7 := Aside0.mk hg; clear ho hb hg hat PK6))
          have NG : Aside0 (g < N0) := ⟨Nat.lt_trans GG9.out G9N.out⟩
          have NT : Aside0 (w.heap.size + 1 < N0) := ⟨Nat.lt_trans GTG.out NG.out⟩
          have CL7 := Aside0.mk (Crd.same CL6.out (LB7.out.block gl GL2.out))
          have CD7 := Aside0.mk (Crd.same CD6.out (LB7.out.block g NG.out))
          have GT7 := Aside0.mk ((LB7.out.block _ NT.out).trans GT6.out)
          have GB7 := Aside0.mk ((LB7.out.block _ G9N.out).trans GB6.out)
          have BD7 := Aside0.mk (BD6.out.trans (LB7.out.mono (show w.heap.size ≤ N0 by have := NT.out; omega)))
          have kc : w6.cell? ⟨w5.heap.size, 0, none⟩ = some (.int .i64 k) := by
            have h1 := GR7.out.block w5.heap.size (blk_lt KB6.out) (fun e => Nat.lt_irrefl _ (PNE.out _ e.symm))
            exact (blk_cell (h1.trans KB6.out) 0).trans rfl
          have HDL := Aside0.mk (delAt gl d w5.heap.size left k w6 CL7.out (by have := LEN.out; omega) kc (Nat.ne_of_gt (Nat.lt_of_lt_of_le GL2.out SZ5.out)))
          clear CL6 CD6 GT6 GB6 BD6 kc KB6 PNE PLO CL7
          go_wp2_with fail
          refine HDL.out.mono ?_
          rintro e w7 ⟨rfl, hc8, ht⟩
          have GLW : Aside0 (w.heap.size ≤ gl) := ⟨by have h1 := GTG.out; have h2 := GG9.out; have h3 := GL1.out; omega⟩
          have CD8 := Aside0.mk (Crd.same CD7.out (ht.block _ CD7.out.lt (by have h2 := GG9.out; have h3 := GL1.out; omega)))
          have GT8 := Aside0.mk ((ht.block _ (blk_lt GT7.out) (by have h1 := GTG.out; have h2 := GG9.out; have h3 := GL1.out; omega)).trans GT7.out)
          have GB8 := Aside0.mk ((ht.block _ (blk_lt GB7.out) (Nat.ne_of_lt GL1.out)).trans GB7.out)
          have BD8 := Aside0.mk (BD7.out.grown ht.grown BD7.out.size (fun k hk => by cases hk; exact GLW.out))
          have PK8 := Aside0.mk (Kd.R_mono (Kd.R_grown (Kd.R_bound PK7.out) ht.grown (fun k hk => by have h1 := hk.2.1; have h3 := GL2.out; intro e; cases e; omega)) (ok' := fun _ => True) (fun _ _ => trivial))
          have SZ8 : Aside0 (N0 ≤ w7.heap.size) := ⟨Nat.le_trans (Nat.le_trans SZ6.out LB7.out.size) ht.size⟩
          have LR8 : Aside0 (LRep w7 (.slice (some ⟨gl, 0, none⟩) (left.filter fun i => !(i == k)).length d) (left.filter fun i => !(i == k)) g9 N0) := ⟨.inr ⟨gl, d, rfl, GL1.out, GL2.out, hc8⟩⟩
          clear CD7 GT7 GB7 BD7 PK7 LB7 GR7 SZ6 SZ5 HDL hc8 ht
          generalize (left.filter fun i => !(i == k)) = left2 at HRO2 IV2 LR8 ⊢
          go_wp2_with fail
          go_roundg k1
          case measure => have := HK.out; omega
          case rel => exact ⟨c2, left2, picks ++ [k], HRO2, ⟨by have := HK.out; omega⟩, LR8, PK8, IV2, CD8, GT8, GB8, BD8, SZ8⟩
      · rw [if_neg hlt] at hRO
        obtain rfl := Option.some.inj hRO
        have hld : decide ((picks.length : Int) < budget) = false := decide_eq_false hlt
        have K5 : Aside0 (cr.length = 5) := ⟨IV.out.ok.1⟩
        clear hRO HA
        have cT := (blk_cell GT.out 0).trans rfl
        have fT := blk_frozen GT.out 0
        have c9 := (blk_cell GB.out 0).trans rfl
        go_wp2_with fail
        have hR := (CD.out.far (p := ⟨w.heap.size + 1, 0, none⟩) (Nat.ne_of_gt GTG.out) (.slice (some ⟨g, 0, none⟩) 5 n)).R2 (ok := fun k_ => some k_ ≠ (Value.slice Ap picks.length cp).ownBlock) HNM.out HG.out (fun e => by have h1 : N0 ≤ g := own_base (Kd.own_of_R PK.out) g e.symm; have h3 := GG9.out; have h4 := G9N.out; omega)
        rw [K5.out] at hR
        have hP := Kd.R_lower (Kd.R_mono (ok' := fun k_ => some k_ ≠ (Value.slice (some ⟨g, 0, none⟩) 5 n).ownBlock) (Kd.R_far (p := ⟨w.heap.size + 1, 0, none⟩) (Kd.R_bound PK.out) (fun k hk => by have h1 := hk.2.1; have h2 := GTG.out; have h3 := GG9.out; have h4 := G9N.out; show k ≠ w.heap.size + 1; omega) (.slice (some ⟨g, 0, none⟩) 5 n)) (fun k hk => by have h1 := hk.2.1; have h3 := GG9.out; have h4 := G9N.out; intro e; have e2 : k = g := Option.some.inj e; omega)) (show w.heap.size ≤ N0 by have h2 := GTG.out; have h3 := GG9.out; have h4 := G9N.out; omega)
        have hB := BD.out.setCell (p := ⟨w.heap.size + 1, 0, none⟩) (Nat.le_succ _) (.slice (some ⟨g, 0, none⟩) 5 n)
        have hG := blk_set GT.out 0 (.slice (some ⟨g, 0, none⟩) 5 n)
        refine bodyPost_ret (v := .tuple #[.agg #[.slice (some ⟨g, 0, none⟩) 5 n], .slice Ap picks.length cp, .int .i64 0]) ?_ rfl ⟨_, _, rfl, hR, hP, hB⟩
        have cR := (blk_cell hG 0).trans rfl
        simp [results, Try.results22, go_sem, cR]

set_option maxHeartbeats 4000000 in
theorem run_err (A0 : Option Addr) (c0 : Nat) (l0 : List Int) (A1 : Option Addr) (c1 n1 : Nat) (budget : Int) (w : World) (hr0 : Kd.C (Kd.int .i64) w A0 l0.length l0) (hbad : vOk l0 = false ∨ budget < 0) :
    Calls Try.prog 22 #[.agg #[.slice A0 l0.length c0], .slice A1 n1 c1, .int .i64 budget] w fun e w' => e = .returned (.tuple #[.agg #[.slice none 0 0], .slice none 0 0, .int .i64 1]) ∧ Below w.heap.size w w' := by
  have hu26 := Try.underlying26
  have HV := Aside0.mk (fun W hW => valid_any A0 c0 l0 W (Kd.C_below hr0 hW))
  obtain ⟨m, hm⟩ : ∃ m, m = l0.length := ⟨_, rfl⟩
  rw [← hm] at HV ⊢
  obtain ⟨b, hb⟩ : ∃ b, b = vOk l0 := ⟨_, rfl⟩
  rw [← hb] at HV hbad
  clear hr0 hm hb
  obtain ⟨W0, hW0⟩ : ∃ W0, W0 = (w.alloc (.cells #[.slice A0 m c0] 26 (0, 0))).alloc (.cells #[.slice none 0 0] 26 (0, 0)) := ⟨_, rfl⟩
  have G2 : Aside0 (W0.heap[w.heap.size + 1]? = some (.cells #[.slice none 0 0] 26 (0, 0))) := ⟨by
    rw [hW0]
    have := blk_new (w.alloc (.cells #[.slice A0 m c0] 26 (0, 0))) (.cells #[.slice none 0 0] 26 (0, 0))
    simpa using this⟩
  have B0 : Aside0 (Below w.heap.size w W0) := ⟨by rw [hW0]; exact below_alloc (below_alloc (Below.refl _ _) _) _⟩
  have HW0 := Lib.hid hW0
  clear hW0
  have two : (b = true ∧ budget < 0) ∨ b = false := by cases b <;> simp_all
  clear hbad
  rcases two with ⟨rfl, hbn⟩ | rfl
  · have hbd : decide (budget < 0) = true := decide_eq_true hbn
    go_enter Try.func22, Try.ntmps22
    go_wp2_with fail
    rw [← HW0.out]
    refine (HV.out _ B0.out).mono ?_
    rintro e w1 ⟨rfl, hb⟩
    have B1 := Aside0.mk (below_then B0.out B0.out.size hb)
    have G3 := Aside0.mk (blk_below G2.out hb)
    have cT := (blk_cell G3.out 0).trans rfl
    have fT := blk_frozen G3.out 0
    clear HV HW0 B0 G2 hb
    go_wp2_with fail
    have hB := B1.out.setCell (p := ⟨w.heap.size + 1, 0, none⟩) (Nat.le_succ _) (.slice none 0 0)
    have hG := blk_set G3.out 0 (.slice none 0 0)
    refine bodyPost_ret (v := .tuple #[.agg #[.slice none 0 0], .slice none 0 0, .int .i64 1]) ?_ rfl ⟨rfl, hB⟩
    have cR := (blk_cell hG 0).trans rfl
    simp [results, Try.results22, go_sem, cR]
  · go_enter Try.func22, Try.ntmps22
    go_wp2_with fail
    rw [← HW0.out]
    refine (HV.out _ B0.out).mono ?_
    rintro e w1 ⟨rfl, hb⟩
    have B1 := Aside0.mk (below_then B0.out B0.out.size hb)
    have G3 := Aside0.mk (blk_below G2.out hb)
    have cT := (blk_cell G3.out 0).trans rfl
    have fT := blk_frozen G3.out 0
    clear HV HW0 B0 G2 hb
    go_wp2_with fail
    have hB := B1.out.setCell (p := ⟨w.heap.size + 1, 0, none⟩) (Nat.le_succ _) (.slice none 0 0)
    have hG := blk_set G3.out 0 (.slice none 0 0)
    refine bodyPost_ret (v := .tuple #[.agg #[.slice none 0 0], .slice none 0 0, .int .i64 1]) ?_ rfl ⟨rfl, hB⟩
    have cR := (blk_cell hG 0).trans rfl
    simp [results, Try.results22, go_sem, cR]

end Go.Proofs.Ytmpeekkbmfbjeaa

/- The walks of schedule.Urgent and schedule.Next. -/
import Derived.Test.YtmpeekkbmfbjeaaRunPure
namespace Go.Proofs.Ytmpeekkbmfbjeaa
open Go.RowKit Go.Lib Go.Proofs.Ytmpeekkbmfbjeaa.P Go.Proofs.YtmpeekkbmfbjeaaW.PrintWords Go.Proofs.YtmpeekkbmfbjeaaW.PrintLast Go.Proofs.YtmpeekkbmfbjeaaW.PrintMore
set_option linter.unusedVariables false
set_option linter.unusedSimpArgs false

def nxcR.T : Bool × List (List Nat × List Nat) := (true, [([], []), ([], []), ([], []), ([2], [2]), ([0, 1, 3, 3], [0, 1, 3]), ([4, 4, 0, 1, 2, 3, 4], [4])])
def nxcR.B : List Nat := [0, 0, 0, 4, 15, 31]
theorem nxcR.tab : rtab .any (opsOf Try.f12 4) = nxcR.T := by kernel_rfl
theorem nxcR.bits : waitsOk nxcR.T.2 nxcR.B = true := by kernel_rfl

theorem nextAt {l : List S58} {left : List Int} {g n : Nat} {cr : List Int} (w : World) {A : Option Addr} {c : Nat} {B : Option Addr} {d : Nat}
    (hl : ∀ W, KeepBut w W g none → Kd.C k58 W A l.length l) (hle : ∀ W, KeepBut w W g none → Kd.C (Kd.int .i64) W B left.length left) (hin : InL l left) (hcr : Crd w g n cr) (hok : COk cr) :
    Calls Try.prog 25 #[.agg #[.slice (some ⟨g, 0, none⟩) 5 n], .slice A l.length c, .slice B left.length d] w fun e w' =>
      e = .returned (.int .i64 (nxt l left cr).2) ∧ Crd w' g n (nxt l left cr).1 ∧ Turn g w w' := next_any A c l B d left g n n cr w hl hle hin hcr hok

theorem Crd.far {w : World} {g n : Nat} {cr : List Int} (h : Crd w g n cr) {p : Addr} (hp : g ≠ p.block) (u : Value) : Crd (w.setCell p u) g n cr := by
  obtain ⟨cs, h1, h2⟩ := h
  exact ⟨cs, blk_far h1 hp u, h2⟩

theorem urgent_any (A : Option Addr) (c : Nat) (l : List S58) (w : World) (hl : Kd.C k58 w A l.length l) (hc : l.length ≤ c) (h60 : l.length ≤ 60) :
    Calls Try.prog 19 #[.slice A l.length c] w fun e w' => e = .returned (.int .i64 (bestU l (upto l.length))) ∧ Below w.heap.size w w' := by
  have EV := Aside0.mk (schedule_every.calls 100 A c l (upto l.length) w hl hc (every_f l h60))
  have HL := Aside0.mk hl
  have HI := Aside0.mk (inL_upto l h60)
  clear hl hc h60
  go_enter Try.func19, Try.ntmps19
  go_wp2_with fail
  refine EV.out.mono ?_
  rintro e w1 ⟨v1, rfl, hR, hb⟩
  obtain ⟨B, d, rfl, hd, hC⟩ := Kd.R_reads hR
  rw [upto_len]
  have HB := Aside0.mk (bestU_any A c l B d (upto l.length) w1 (Kd.C_below HL.out hb) hC HI.out)
  rw [upto_len] at HB
  have BD := Aside0.mk hb
  clear hR hC hb hd EV
  go_wp2_with fail
  refine HB.out.mono ?_
  rintro e w2 ⟨rfl, hb⟩
  have BD2 := Aside0.mk (below_then BD.out BD.out.size hb)
  clear hb HB
  go_wp2_with fail
  go_ret
  exact ⟨rfl, BD2.out⟩

theorem next_full (A0 : Option Addr) (c0 : Nat) (l0 : List Int) (A1 : Option Addr) (c1 : Nat) (l1 : List S58) (w : World) (hr0 : Kd.C (Kd.int .i64) w A0 l0.length l0) (hr1 : Kd.C k58 w A1 l1.length l1) (hc1 : l1.length ≤ c1) (hv : vOk l0 = true) (h60 : l1.length ≤ 60) :
    Calls Try.prog 12 #[.agg #[.slice A0 l0.length c0], .slice A1 l1.length c1] w fun e w' => ∃ v : Value, e = .returned (.tuple #[.agg #[v], .int .i64 (nxt l1 (upto l1.length) l0).2, .int .i64 0]) ∧
      Kd.R (Kd.int .i64) 3 w' w.heap.size (fun _ => True) v (nxt l1 (upto l1.length) l0).1 ∧ Below w.heap.size w w' := by
  have hu26 := Try.underlying26
  have HOK := Aside0.mk (vOk_COk hv)
  have h5 : l0.length = 5 := HOK.out.1
  have HR0 := Aside0.mk hr0
  have HL := Aside0.mk hr1
  have HV := Aside0.mk (fun W hW => valid_any A0 c0 l0 W (Kd.C_below hr0 hW))
  have EV := Aside0.mk (fun (W : World) (hW : Below w.heap.size w W) => schedule_every.calls 100 A1 c1 l1 (upto l1.length) W (Kd.C_below hr1 hW) hc1 (every_f l1 h60))
  have CL := Aside0.mk (fun (W : World) (hW : Below w.heap.size w W) => clone5 A0 c0 l0 W (Kd.C_below hr0 hW) h5)
  have HQ := Aside0.mk h60
  rw [hv] at HV
  rw [h5] at HV ⊢
  clear hr0 hr1 hc1 hv h60 h5
  obtain ⟨W0, hW0⟩ : ∃ W0, W0 = (w.alloc (.cells #[.slice A0 5 c0] 26 (0, 0))).alloc (.cells #[.slice none 0 0] 26 (0, 0)) := ⟨_, rfl⟩
  have G1 : Aside0 (W0.heap[w.heap.size]? = some (.cells #[.slice A0 5 c0] 26 (0, 0))) := ⟨by rw [hW0]; exact blk_alloc (blk_new w _) _⟩
  have G2 : Aside0 (W0.heap[w.heap.size + 1]? = some (.cells #[.slice none 0 0] 26 (0, 0))) := ⟨by
    rw [hW0]
    have := blk_new (w.alloc (.cells #[.slice A0 5 c0] 26 (0, 0))) (.cells #[.slice none 0 0] 26 (0, 0))
    simpa using this⟩
  have B0 : Aside0 (Below w.heap.size w W0) := ⟨by rw [hW0]; exact below_alloc (below_alloc (Below.refl _ _) _) _⟩
  have HW0 := Lib.hid hW0
  clear hW0
  go_enter Try.func12, Try.ntmps12
  go_wp2_with fail
  rw [← HW0.out]
  refine (HV.out _ B0.out).mono ?_
  rintro e w1 ⟨rfl, hb⟩
  have B1 := Aside0.mk (below_then B0.out B0.out.size hb)
  have cA := (blk_cell (blk_below G1.out hb) 0).trans rfl
  have G3 := Aside0.mk (blk_below G2.out hb)
  clear HV HW0 B0 G1 G2 hb
  go_wp2_with fail
  refine (CL.out _ B1.out).mono ?_
  rintro e w2 ⟨g, n, rfl, hg, hn, hcr, hb⟩
  have HNM := Aside0.mk hn
  have B2 := Aside0.mk (below_then B1.out B1.out.size hb)
  have HG : Aside0 (w.heap.size ≤ g) := ⟨Nat.le_trans B1.out.size hg⟩
  have GNT : Aside0 (w.heap.size + 1 ≠ g) := ⟨Nat.ne_of_lt (Nat.lt_of_lt_of_le (blk_lt G3.out) hg)⟩
  have hq : w2.heap.size ≠ g := Nat.ne_of_gt hcr.lt
  have GNE := Aside0.mk hq
  have G4 := Aside0.mk (blk_below G3.out hb)
  have CR := Aside0.mk hcr
  clear CL B1 cA G3 hg hn hcr hb hq
  go_wp2_with fail
  have BD2 := Aside0.mk (below_alloc B2.out (.cells #[.slice (some ⟨g, 0, none⟩) 5 n] 26 (0, 0)))
  have CD2 := Aside0.mk (CR.out.below (below_alloc (Below.refl _ _) (.cells #[.slice (some ⟨g, 0, none⟩) 5 n] 26 (0, 0))))
  have GT2 := Aside0.mk (blk_alloc G4.out (.cells #[.slice (some ⟨g, 0, none⟩) 5 n] 26 (0, 0)))
  have GB2 := Aside0.mk (blk_new w2 (.cells #[.slice (some ⟨g, 0, none⟩) 5 n] 26 (0, 0)))
  have c7 := (blk_cell GB2.out 0).trans rfl
  clear B2 CR G4
  generalize w2.alloc (.cells #[.slice (some ⟨g, 0, none⟩) 5 n] 26 (0, 0)) = W2 at BD2 CD2 GT2 GB2 c7 ⊢
  generalize w2.heap.size = g7 at GNE GB2 c7 ⊢
  refine start_ (n := 6) (S := fun w' => w'.cell? ⟨g7, 0, none⟩ = some (.slice (some ⟨g, 0, none⟩) 5 n)) (ds := []) #[false, false, false, false, false, false] (by kernel_rfl) rfl rfl c7 (fun hHeld => ?_)
  refine with_tab nxcR.tab (fun HT_ => ?_)
  have BD3 := Aside0.mk (below_drew1 BD2.out)
  have CD3 := Aside0.mk (CD2.out.below (below_drew1 (Below.refl _ _)))
  have GB3 := Aside0.mk (blk_drew GB2.out)
  have GT3 := Aside0.mk (blk_drew GT2.out)
  clear BD2 CD2 GB2 GT2 c7
  generalize W2.drew = wd at BD3 CD3 GB3 GT3 hHeld ⊢
  refine take_ (i := 0) (N := some 17) (v := ?_) (a' := ?_) #[true, false, false, false, false, false] rfl rfl (take_of HT_.out (by kernel_rfl)) (fun _ _ _ h => h) (Or.inl ⟨by rfl, ?_⟩) hHeld ?_ ?_
  rotate_left
  · rintro w' s0
    go_simp
    with_reducible rfl
  rotate_left
  · simp only [Act.put, List.setIfInBounds_toArray, List.set_cons_zero, List.set_cons_succ, i64_w, i32_w]
    rfl
  refine pure_ (i := 1) (N := some 18) (v := ?_) (a' := ?_) #[true, true, false, false, false, false] rfl rfl (any_of HT_.out (by kernel_rfl)) (fun _ _ _ h => h) (Or.inl ⟨by rfl, ?_⟩) ?_ ?_
  rotate_left
  · intro w'
    go_simp
    with_reducible rfl
  rotate_left
  · simp only [Act.put, List.setIfInBounds_toArray, List.set_cons_zero, List.set_cons_succ, i64_w, i32_w]
    rfl
  refine pure_ (i := 2) (N := some 19) (v := ?_) (a' := ?_) #[true, true, true, false, false, false] rfl rfl (any_of HT_.out (by kernel_rfl)) (fun _ _ _ h => h) (Or.inl ⟨by rfl, ?_⟩) ?_ ?_
  rotate_left
  · intro w'
    go_simp
    with_reducible rfl
  rotate_left
  · simp only [Act.put, List.setIfInBounds_toArray, List.set_cons_zero, List.set_cons_succ, i64_w, i32_w]
    rfl
  refine one_ (i := 3) (N := some 20) #[true, true, true, true, false, false] rfl rfl (one_of HT_.out (by kernel_rfl)) (by decide) (fun K hK => ?_)
  refine goes_ Try.func26 (by kernel_rfl) rfl #[.slice A1 l1.length c1] (by rfl) rfl rfl (by (try simp only [List.map_toArray, List.map_cons, List.map_nil]); first | done | rfl) ?_
  refine (EV.out wd BD3.out).mono ?_
  rintro e w5 ⟨v5, rfl, hR, hb⟩
  refine ⟨_, rfl, ?_⟩
  obtain ⟨B5, d5, rfl, hd5, hC5⟩ := Kd.R_reads hR
  rw [upto_len]
  refine hK.out _ _ (pw_cell_below hb hHeld) (fun hHeld => ?_)
  have BD4 := Aside0.mk (below_then BD3.out BD3.out.size hb)
  have CD4 := Aside0.mk (CD3.out.below hb)
  have GB4 := Aside0.mk (blk_below GB3.out hb)
  have GT4 := Aside0.mk (blk_below GT3.out hb)
  have HN := Aside0.mk (nextAt (l := l1) (left := upto l1.length) (cr := l0) (g := g) (n := n) w5 (A := A1) (c := c1) (B := B5) (d := d5) (Kd.C_foot_came k58_heap HL.out BD4.out HG.out) (by
    have h1 := Kd.C_foot_own (g := g) (Kd.R_mono (Kd.R_bound hR) (fun k hk => hk)) (fun k hk => by
      have := hk.2.1
      have := CD3.out.lt
      omega)
    exact h1) (inL_upto l1 HQ.out) CD4.out HOK.out)
  rw [upto_len] at HN
  clear BD3 CD3 GB3 GT3 hR hC5 hb
  clear hK K
  refine norm_ (a' := ?_) ?_ ?_
  rotate_left
  · show Act.put _ (some 20) _ = _
    simp only [Act.put, List.setIfInBounds_toArray, List.set_cons_zero, List.set_cons_succ, i64_w, i32_w]
    rfl
  refine one_ (i := 4) (N := some 21) #[true, true, true, true, true, false] rfl rfl (one_of HT_.out (by kernel_rfl)) (by decide) (fun K hK => ?_)
  refine goes_ Try.func25 (by kernel_rfl) rfl #[.agg #[.slice (some ⟨g, 0, none⟩) 5 n], .slice A1 l1.length c1, .slice B5 l1.length d5] (by rfl) rfl rfl (by (try simp only [List.map_toArray, List.map_cons, List.map_nil]); first | done | rfl) ?_
  refine HN.out.mono ?_
  rintro e w6 ⟨rfl, hcr, ht⟩
  refine ⟨_, rfl, ?_⟩
  refine hK.out _ _ (ht.cell (blk_lt GB4.out) GNE.out hHeld) (fun hHeld => ?_)
  have BD5 := Aside0.mk (BD4.out.grown ht.grown BD4.out.size (fun k hk => by cases hk; exact HG.out))
  have CD5 := Aside0.mk hcr
  have GB5 := Aside0.mk ((ht.block _ (blk_lt GB4.out) GNE.out).trans GB4.out)
  have GT5 := Aside0.mk ((ht.block _ (blk_lt GT4.out) GNT.out).trans GT4.out)
  clear BD4 CD4 GB4 GT4 HN hcr ht
  clear hK K
  refine norm_ (a' := ?_) ?_ ?_
  rotate_left
  · show Act.put _ (some 21) _ = _
    simp only [Act.put, List.setIfInBounds_toArray, List.set_cons_zero, List.set_cons_succ, i64_w, i32_w]
    rfl
  refine pure_ (i := 5) (N := some 8) (v := ?_) (a' := ?_) #[true, true, true, true, true, true] rfl rfl (any_of HT_.out (by kernel_rfl)) (fun _ _ _ h => h) (Or.inl ⟨by rfl, ?_⟩) ?_ ?_
  rotate_left
  · intro w'
    go_simp
    with_reducible rfl
  rotate_left
  · simp only [Act.put, List.setIfInBounds_toArray, List.set_cons_zero, List.set_cons_succ, i64_w, i32_w]
    rfl
  refine done_ (done_of HT_.out (by kernel_rfl)) ?_
  clear HT_
  have c7 := hHeld
  have cT := (blk_cell GT5.out 0).trans rfl
  have fT := blk_frozen GT5.out 0
  clear hHeld
  go_wp2_with fail
  have k5 : (nxt l1 (upto l1.length) l0).1.length = 5 := (nxt_COk HOK.out).1
  have hR := (CD5.out.far (p := ⟨w.heap.size + 1, 0, none⟩) (fun h => GNT.out h.symm) (.slice (some ⟨g, 0, none⟩) 5 n)).R HNM.out HG.out
  rw [k5] at hR
  have hB := BD5.out.setCell (p := ⟨w.heap.size + 1, 0, none⟩) (Nat.le_succ _) (.slice (some ⟨g, 0, none⟩) 5 n)
  have hG := blk_set GT5.out 0 (.slice (some ⟨g, 0, none⟩) 5 n)
  refine bodyPost_ret (v := .tuple #[.agg #[.slice (some ⟨g, 0, none⟩) 5 n], .int .i64 (nxt l1 (upto l1.length) l0).2, .int .i64 0]) ?_ rfl ⟨_, rfl, hR, hB⟩
  have cR := (blk_cell hG 0).trans rfl
  simp [results, Try.results12, go_sem, cR]

theorem next_err (A0 : Option Addr) (c0 : Nat) (l0 : List Int) (A1 : Option Addr) (c1 n1 : Nat) (w : World) (hr0 : Kd.C (Kd.int .i64) w A0 l0.length l0) (hv : vOk l0 = false) :
    Calls Try.prog 12 #[.agg #[.slice A0 l0.length c0], .slice A1 n1 c1] w fun e w' => e = .returned (.tuple #[.agg #[.slice none 0 0], .int .i64 0, .int .i64 1]) ∧ Below w.heap.size w w' := by
  have hu26 := Try.underlying26
  have HV := Aside0.mk (fun W hW => valid_any A0 c0 l0 W (Kd.C_below hr0 hW))
  rw [hv] at HV
  obtain ⟨m, hm⟩ : ∃ m, m = l0.length := ⟨_, rfl⟩
  rw [← hm] at HV ⊢
  clear hr0 hv hm
  obtain ⟨W0, hW0⟩ : ∃ W0, W0 = (w.alloc (.cells #[.slice A0 m c0] 26 (0, 0))).alloc (.cells #[.slice none 0 0] 26 (0, 0)) := ⟨_, rfl⟩
  have G2 : Aside0 (W0.heap[w.heap.size + 1]? = some (.cells #[.slice none 0 0] 26 (0, 0))) := ⟨by
    rw [hW0]
    have := blk_new (w.alloc (.cells #[.slice A0 m c0] 26 (0, 0))) (.cells #[.slice none 0 0] 26 (0, 0))
    simpa using this⟩
  have B0 : Aside0 (Below w.heap.size w W0) := ⟨by rw [hW0]; exact below_alloc (below_alloc (Below.refl _ _) _) _⟩
  have HW0 := Lib.hid hW0
  clear hW0
  go_enter Try.func12, Try.ntmps12
  go_wp2_with fail
  rw [← HW0.out]
  refine (HV.out _ B0.out).mono ?_
  rintro e w1 ⟨rfl, hb⟩
  have B1 := Aside0.mk (below_then B0.out B0.out.size hb)
  have G3 := Aside0.mk (blk_below G2.out hb)
  have cT := (blk_cell G3.out 0).trans rfl
  have fT := blk_frozen G3.out 0
  clear HV HW0 B0 G2 hb
  go_wp2_with fail
  have hB := B1.out.setCell (p := ⟨w.heap.size + 1, 0, none⟩) (Nat.le_succ _) (.slice none 0 0)
  have hG := blk_set G3.out 0 (.slice none 0 0)
  refine bodyPost_ret (v := .tuple #[.agg #[.slice none 0 0], .int .i64 0, .int .i64 1]) ?_ rfl ⟨rfl, hB⟩
  have cR := (blk_cell hG 0).trans rfl
  simp [results, Try.results12, go_sem, cR]

end Go.Proofs.Ytmpeekkbmfbjeaa

/- The walks of the closures of health.Order and health.byLoss, and of slices.DeleteFunc at []Health where nothing is deleted. -/
import Derived.Test.YtmpeekkbmfbjeaaPx1
import Derived.Test.YtmpeekkbmfbjeaaLaid
import Derived.Lib.Hide
import Derived.BigQuiet
namespace Go.Proofs.Ytmpeekkbmfbjeaa
open Go.RowKit Go.Lib Go.Shelf Go.Proofs.Ytmpeekkbmfbjeaa.P Go.Proofs.YtmpeekkbmfbjeaaW.PrintWords Go.Proofs.YtmpeekkbmfbjeaaW.PrintLast Go.Proofs.YtmpeekkbmfbjeaaW.PrintMore

def hv (h : S78) : Value := .agg #[.int .i64 h.f0.f0, .int .i64 h.f0.f1, .int .i64 h.f1, .int .i64 h.f2]

theorem orderFn_any (h : S78) (w : World) : Calls Try.prog 49 #[hv h] w fun e w' => e = .returned (.bool (decide (h.f2 ≤ 0))) ∧ Below w.heap.size w w' := by
  have hu78 := Try.underlying78
  unfold hv
  go_enter Try.func49, Try.ntmps49
  go_wp2
  go_ret
  exact ⟨rfl, below_alloc (Below.refl _ _) _⟩

def hLost (h : S78) : Int := if h.f1 < 0 then 1 else 0

theorem lost_any (h : S78) (w : World) : Calls Try.prog 55 #[hv h] w fun e w' => e = .returned (.int .i64 (hLost h)) ∧ Below w.heap.size w w' ∧ w.drawn ≤ w'.drawn := by
  have hu78 := Try.underlying78
  unfold hv hLost
  by_cases k : h.f1 < 0
  · rw [if_pos k]
    go_enter Try.func55, Try.ntmps55
    go_wp2
    go_ret
    exact ⟨rfl, below_alloc (Below.refl _ _) _, Nat.le_refl _⟩
  · rw [if_neg k]
    go_enter Try.func55, Try.ntmps55
    go_wp2
    go_ret
    exact ⟨rfl, below_alloc (Below.refl _ _) _, Nat.le_refl _⟩

theorem byLoss_any (w : World) : Calls Try.prog 51 #[] w fun e w' => ∃ b : Nat, e = .returned (.agg #[.func (.func 56) #[] #[.pointer (some ⟨b, 0, none⟩)]]) ∧ w.heap.size ≤ b ∧ w'.heap[b]? = some (.cells #[.func (.func 55) #[] #[]] 93 (0, 0)) ∧ Below w.heap.size w w' := by
  have hs1 : ∀ (a : Addr) (m : Mode) (W : World), (store a (.func (.func 55) #[] #[]) m).run Try.prog W = stored Try.prog W a (.func (.func 55) #[] #[]) m := fun a m W => run_store Try.prog W a _ m rfl
  have hs2 : ∀ (x : Value) (a : Addr) (m : Mode) (W : World), (store a (.func (.func 56) #[] #[x]) m).run Try.prog W = stored Try.prog W a (.func (.func 56) #[] #[x]) m := fun x a m W => run_store Try.prog W a _ m rfl
  go_enter Try.func51, Try.ntmps51
  go_wp2
  refine bodyPost_ret (results_cell_row rfl _ _ w.heap.size 89 #[.func (.func 56) #[] #[.pointer (some ⟨w.heap.size + 1, 0, none⟩)]] (0, 0) _ rfl (blk_alloc (blk_new w _) _) Try.underlying89 rfl (by kernel_rfl)) rfl ?_
  refine ⟨w.heap.size + 1, rfl, by omega, ?_, below_alloc (below_alloc (Below.refl _ _) _) _⟩
  have := (MapKept.heap_alloc (w.alloc (.cells #[.func (.func 56) #[] #[.pointer (some ⟨w.heap.size + 1, 0, none⟩)]] 89 (0, 0))) (.cells #[.func (.func 55) #[] #[]] 93 (0, 0))).1
  simpa using this

def henc (h : S78) : List Value := [.int .i64 h.f0.f0, .int .i64 h.f0.f1, .int .i64 h.f1, .int .i64 h.f2]
theorem henc_hv (h : S78) : Value.agg (henc h).toArray = hv h := rfl
instance : Inhabited S78 := ⟨z78⟩
theorem enters49 : ∀ args w, (callFunc 49 args).run Try.prog w = .ok (.enter 49 args) w := fun args w => enters_ Try.func49 (by kernel_rfl) rfl args w

theorem idxBy_none (p : S78 → Bool) : ∀ (l : List S78) (d : S78), (∀ z, z ∈ l → p z = false) → Lib.idxBy (fun _ y => p y) l d = -1 := by
  intro l d h
  have := Lib.idxBy_miss (fun _ y => p y) l l.length d (fun j hj => h _ (by rw [getElem!_pos l j hj]; exact List.getElem_mem hj))
  rwa [List.take_length] at this

theorem delH_any (b off c : Nat) (zs : List S78) (w : World) (hbig : zs.length ≤ 9223372036854775807) (hb : b < w.heap.size)
    (hc : ∀ j, j < zs.length → ∀ i v, (henc zs[j]!)[i]? = some v → w.cell? ⟨b, off + j * 4 + i, none⟩ = some v) (hall : ∀ z, z ∈ zs → decide (z.f2 ≤ 0) = false) :
    Calls Try.prog 47 #[.slice (some ⟨b, off, none⟩) zs.length c, .func (.func 49) #[] #[]] w fun e w' => e = .returned (.slice (some ⟨b, off, none⟩) zs.length c) ∧ Below w.heap.size w w' := by
  have hI := AnyQ.slices_IndexFunc (P := Try.prog) Try.laysIfH 4 (fun w => Try.isAgg78 w) (fun w => Try.sizeOf78 w) henc (fun _ => rfl) (fun z => decide (z.f2 ≤ 0)) 49 #[] enters49 b off zs.length c zs w
    (fun W x hW => (orderFn_any x W).mono (fun e w' h => ⟨h.1, below_then hW hW.size h.2⟩)) (Nat.le_refl _) hbig hb hc
  rw [idxBy_none _ _ _ (fun z hz => hall z (List.mem_of_mem_take hz))] at hI
  have HI : Aside (Calls Try.prog 53 #[.slice (some ⟨b, off, none⟩) zs.length c, .func (.func 49) #[] #[]] w fun e w' => e = .returned (.int .i64 (-1)) ∧ Below w.heap.size w w') := hI
  clear hI
  go_enter Try.func47, Try.ntmps47
  go_wp2_with (first | (go_at_call 53; refine HI.out.mono ?_; rintro e w1 ⟨rfl, hb1⟩))
  go_ret
  exact ⟨rfl, hb1⟩

end Go.Proofs.Ytmpeekkbmfbjeaa

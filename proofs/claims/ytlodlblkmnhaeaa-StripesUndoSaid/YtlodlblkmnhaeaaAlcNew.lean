/- The memory behind Allocate's new row. -/
import Derived.Test.YtlodlblkmnhaeaaAlcPut
namespace Go.Proofs.Ytlodlblkmnhaeaa
set_option linter.unusedVariables false
open Go.RowKit Go.Lib Go.Shelf Go.Proofs.Ytlodlblkmnhaeaa.P Go.Proofs.YtlodlblkmnhaeaaW.PrintWords Go.Proofs.YtlodlblkmnhaeaaW.PrintLast Go.Proofs.YtlodlblkmnhaeaaW.PrintMore

/-- What the third loop leaves with. -/
def NewEx (a0 a1 a2 a3 a4 a5 code wd ge gc : Int) (w : World) (bs : Nat) (R : List RowA) (len : Nat) (l0 : List S59) (pre : List (Jx (-1) R len)) (X : World) : Prop :=
  ∃ (p0 : List (Jx (-1) R len)) (y : Jx (-1) R len) (v' : Value), (pre = p0 ++ [y] ∧ p0 = []) ∧ Fr X w.heap.size a0 a1 a2 a3 a4 a5 code wd ge gc v' (y.1 : Int) 0 0 ∧ Below w.heap.size w X ∧ Kd.S k59 59 X bs (fun k => bs ≤ k) v' (l0.set y.1 ⟨code, wd, [⟨0, ⟨ge, gc⟩⟩]⟩)
theorem newEx_own {a0 a1 a2 a3 a4 a5 code wd ge gc : Int} {w : World} {B bs : Nat} {R : List RowA} {len : Nat} {l0 : List S59} (h1 : w.heap.size ≤ B) : OwnFrom B (fun pre X => NewEx a0 a1 a2 a3 a4 a5 code wd ge gc w bs R len l0 pre X) :=
  exit_own (P1 := fun (pre p0 : List (Jx (-1) R len)) y => pre = p0 ++ [y] ∧ p0 = []) (f := fun y => (y.1 : Int)) (g := fun _ => 0) (L := fun y => l0.set y.1 ⟨code, wd, [⟨0, ⟨ge, gc⟩⟩]⟩) (Nat.le_refl _) h1
theorem new_setup {W : World} {base n j : Nat} {ok : Nat → Prop} {v : Value} {l : List S59} (hS : Kd.S k59 59 W base ok v l) (hn : n = l.length) (hj : j < n) :
    ∃ (gb cap : Nat) (c0 c1 c2 : Value), v = .slice (some ⟨gb, 0, none⟩) n cap ∧ W.cell? ⟨gb, j * 3, none⟩ = some c0 ∧ W.cell? ⟨gb, j * 3 + 1, none⟩ = some c1 ∧ W.cell? ⟨gb, j * 3 + 2, none⟩ = some c2 ∧
      W.frozen? ⟨gb, j * 3, none⟩ = false ∧ W.frozen? ⟨gb, j * 3 + 1, none⟩ = false ∧ W.frozen? ⟨gb, j * 3 + 2, none⟩ = false ∧ gb < W.heap.size ∧ base ≤ gb ∧ ∃ cells, W.heap[gb]? = some (.cells cells 59 (0, 0)) := by
  subst hn
  obtain ⟨x, hx⟩ : ∃ x, l[j]? = some x := ⟨_, List.getElem?_eq_getElem hj⟩
  obtain ⟨g, cap, rfl, hbg, hgl, hcells⟩ := Kd.S_form hS (by omega)
  obtain ⟨oki, v2, hR, hc0, hc1, hc2, hfr, hok, hH⟩ := lent hS hx rfl
  exact ⟨g, cap, _, _, _, rfl, hc0, hc1, hc2, hfr 0, hfr 1, hfr 2, hgl, hbg, hcells⟩

/-- A new row with one used stripe. -/
abbrev New3 (W : World) (gb j : Nat) (code wd ge gc : Int) : World :=
  (((W.alloc (.cells #[.int .i64 0, .int .i64 ge, .int .i64 gc] 37 (0, 0))).setCell ⟨gb, j * 3, none⟩ (.int .i64 code)).setCell ⟨gb, j * 3 + 1, none⟩ (.int .i64 wd)).setCell ⟨gb, j * 3 + 2, none⟩ (.slice (some ⟨W.heap.size, 0, none⟩) 1 1)
theorem new3_eq {W : World} {gb j : Nat} {code wd ge gc : Int} (h : gb < W.heap.size) : New3 W gb j code wd ge gc = (((W.setCell ⟨gb, j * 3, none⟩ (.int .i64 code)).setCell ⟨gb, j * 3 + 1, none⟩ (.int .i64 wd)).setCell ⟨gb, j * 3 + 2, none⟩ (.slice (some ⟨W.heap.size, 0, none⟩) 1 1)).alloc (.cells #[.int .i64 0, .int .i64 ge, .int .i64 gc] 37 (0, 0)) := by
  unfold New3
  rw [World.setCell_alloc_past _ _ _ _ h, World.setCell_alloc_past _ _ _ _ (by simpa using h), World.setCell_alloc_past _ _ _ _ (by simpa using h)]
theorem new_mem {W : World} {bs gb n cap j : Nat} {l : List S59} {code wd ge gc : Int} (hn : n = l.length) (hil : j < n) (hgl : gb < W.heap.size) (hbs : bs ≤ W.heap.size) (h : Kd.S k59 59 W bs (fun k => bs ≤ k) (.slice (some ⟨gb, 0, none⟩) n cap) l) :
    Kd.S k59 59 (New3 W gb j code wd ge gc) bs (fun k => bs ≤ k) (.slice (some ⟨gb, 0, none⟩) n cap) (l.set j ⟨code, wd, [⟨0, ⟨ge, gc⟩⟩]⟩) := by
  obtain ⟨x, hx⟩ : ∃ x, l[j]? = some x := ⟨_, List.getElem?_eq_getElem (by omega)⟩
  obtain ⟨oki, v2, _, _, _, _, _, hok, hH⟩ := lent h hx hn
  have h1 := Kd.H_alloc (Kd.H_widen hH) (.cells #[.int .i64 0, .int .i64 ge, .int .i64 gc] 37 (0, 0))
  obtain ⟨h2, h3⟩ := Kd.H_seg h1 (by omega) (by omega) (seg := [.int .i64 code, .int .i64 wd, .slice (some ⟨W.heap.size, 0, none⟩) 1 1]) (j := 0) (by show 0 + 3 ≤ 3; omega) (by intro q hq; simp at hq; rcases hq with rfl | rfl | rfl <;> rfl)
  rw [Int.toNat_natCast] at h2 h3
  have hN : (W.alloc (.cells #[.int .i64 0, .int .i64 ge, .int .i64 gc] 37 (0, 0))).heap[W.heap.size]? = some (.cells #[.int .i64 0, .int .i64 ge, .int .i64 gc] 37 (0, 0)) := World.alloc_heap_new _ _
  have hR := own37_mk (W := W.alloc (.cells #[.int .i64 0, .int .i64 ge, .int .i64 gc] 37 (0, 0))) (base := bs) (g := W.heap.size) (c := 1) (xs := [⟨0, ⟨ge, gc⟩⟩]) hbs hN (by simp) (by decide) (by rfl) (by rfl)
  have hM : k59.M ((W.alloc (.cells #[.int .i64 0, .int .i64 ge, .int .i64 gc] 37 (0, 0))).setCells gb (j * 3 + 0) [.int .i64 code, .int .i64 wd, .slice (some ⟨W.heap.size, 0, none⟩) 1 1]) bs (fun k => oki k ∨ bs ≤ k ∧ W.heap.size ≤ k) ⟨code, wd, [⟨0, ⟨ge, gc⟩⟩]⟩ [.int .i64 code, .int .i64 wd, .slice (some ⟨W.heap.size, 0, none⟩) 1 1] := by
    refine k59_mkM _ _ _ ⟨code, wd, [⟨0, ⟨ge, gc⟩⟩]⟩ (Kd.R_mono (Kd.R_grown hR h3 (fun k hk e => ?_)) (fun k hk => ?_))
    · have h5 : k = W.heap.size := by simpa [Value.ownBlock] using hk
      injection e with e
      omega
    · have h5 : k = W.heap.size := by simpa [Value.ownBlock] using hk
      exact .inr ⟨by omega, by omega⟩
  have h4 := Kd.H_back h2 hM (fun k hk => hk)
  rw [Int.toNat_natCast] at h4
  exact h4

theorem new_far {W : World} {gb j q : Nat} {code wd ge gc : Int} {ob : Obj} {cb : Array Value} (hcb : W.heap[gb]? = some (.cells cb 59 (0, 0))) (hk : W.heap[q]? = some ob) (h59 : ∀ cells, ob ≠ .cells cells 59 (0, 0)) : (New3 W gb j code wd ge gc).heap[q]? = some ob := by
  have hne : q ≠ gb := fun e => by
    rw [e, hcb] at hk
    injection hk with hk
    exact h59 _ hk.symm
  exact (Below.heap_setCell _ ⟨gb, j * 3 + 2, none⟩ _ q hne).trans ((Below.heap_setCell _ ⟨gb, j * 3 + 1, none⟩ _ q hne).trans ((Below.heap_setCell _ ⟨gb, j * 3, none⟩ _ q hne).trans ((heap_alloc_old W _ (blk_lt hk)).trans hk)))
theorem mid_new {W0 W w : World} {Bn Bg bs s D1 D2 gb n cap j : Nat} {a0 a1 a2 a3 a4 a5 code wd ge gc g c0 : Int} {l : List S59} {vv : Value}
    (hF : Fr W s a0 a1 a2 a3 a4 a5 c0 wd ge gc (.slice none 0 0) 0 0 0) (hB : Below s w W) (hK : W.heap[D1]? = some (.deferred (some []))) (hK2 : W.heap[D2]? = some (.deferred (some []))) (hM : AlcMid W0 W Bn Bg bs vv g l) (hW0 : s + 7 ≤ W0.heap.size) (hs : s ≤ w.heap.size)
    (hn : n = l.length) (hil : j < n) (hvv : vv = .slice (some ⟨gb, 0, none⟩) n cap) (hgl : gb < W.heap.size) (hbg : bs ≤ gb) (hcells : ∃ cells, W.heap[gb]? = some (.cells cells 59 (0, 0))) (hbs : bs ≤ W.heap.size) :
    (∀ (k : Nat) (ob : Obj), W.heap[k]? = some ob → (∀ cells, ob ≠ .cells cells 59 (0, 0)) → (New3 W gb j code wd ge gc).heap[k]? = some ob) ∧ W.heap.size ≤ (New3 W gb j code wd ge gc).heap.size ∧
    Fr (New3 W gb j code wd ge gc) s a0 a1 a2 a3 a4 a5 c0 wd ge gc (.slice none 0 0) 0 0 0 ∧ Below s w (New3 W gb j code wd ge gc) ∧ (New3 W gb j code wd ge gc).heap[D1]? = some (.deferred (some [])) ∧ (New3 W gb j code wd ge gc).heap[D2]? = some (.deferred (some [])) ∧ Boxed (New3 W gb j code wd ge gc) Bn 25 vv ∧
      Kd.S k59 59 (New3 W gb j code wd ge gc) bs (fun k => bs ≤ k) vv (l.set j ⟨code, wd, [⟨0, ⟨ge, gc⟩⟩]⟩) := by
  obtain ⟨cb, hcb⟩ := hcells
  have hns := hM.ns
  have hS := hM.cp
  have hbn := hM.bn
  rw [hvv] at hS
  refine ⟨fun k ob hk h59 => new_far hcb hk h59, by simp, ?_, ?_, new_far hcb hK (by simp), new_far hcb hK2 (by simp), new_far hcb hbn (by simp), by rw [hvv]; exact new_mem hn hil hgl hbs hS⟩
  · exact ⟨new_far hcb hF.b0 (by simp), new_far hcb hF.b1 (by simp), new_far hcb hF.b2 (by simp), new_far hcb hF.b3 (by simp), new_far hcb hF.b4 (by simp), new_far hcb hF.b5 (by simp), new_far hcb hF.b6 (by simp)⟩
  · have b1 := hB.alloc (by have := hB.size; omega) (.cells #[.int .i64 0, .int .i64 ge, .int .i64 gc] 37 (0, 0))
    have hp : s ≤ gb := by omega
    exact ((b1.setCell (p := ⟨gb, j * 3, none⟩) hp _).setCell (p := ⟨gb, j * 3 + 1, none⟩) hp _).setCell (p := ⟨gb, j * 3 + 2, none⟩) hp _
end Go.Proofs.Ytlodlblkmnhaeaa

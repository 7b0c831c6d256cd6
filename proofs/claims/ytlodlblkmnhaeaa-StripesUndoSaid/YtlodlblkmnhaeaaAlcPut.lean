/- What Allocate's loops find, and the memory behind its stores. -/
import Derived.Test.YtlodlblkmnhaeaaAlcMem
namespace Go.Proofs.Ytlodlblkmnhaeaa
set_option linter.unusedVariables false
open Go.RowKit Go.Lib Go.Shelf Go.Proofs.Ytlodlblkmnhaeaa.P Go.Proofs.YtlodlblkmnhaeaaW.PrintWords Go.Proofs.YtlodlblkmnhaeaaW.PrintLast Go.Proofs.YtlodlblkmnhaeaaW.PrintMore

/-- A row of the call's own abides the turn of what is no cells. -/
theorem S_turn {A B : World} {row : Option Nat} {base : Nat} {ok : Nat → Prop} {v : Value} {l : List S59} (h : Kd.S k59 59 A base ok v l) (hg : A.grownBy B row) (hr : ∀ r, row = some r → ∃ o : Obj, A.heap[r]? = some o ∧ o.isCells = false) : Kd.S k59 59 B base ok v l := by
  refine Kd.S_mono (Kd.S_grown (Kd.S_bound h) hg (fun k hk e => ?_)) (fun k hk => hk.1)
  obtain ⟨_, _, _, q, _, cells, hc⟩ := hk
  obtain ⟨o, ho, hn⟩ := hr k e.symm
  rw [hc] at ho
  cases ho
  cases hn
theorem S_put {W : World} {D base : Nat} {o o' : Obj} {ok : Nat → Prop} {v : Value} {l : List S59} (h : Kd.S k59 59 W base ok v l) (hK : W.heap[D]? = some o) (hn : o.isCells = false) : Kd.S k59 59 (W.putObj D o') base ok v l := by
  refine Kd.S_mono (Kd.S_step (Kd.S_bound h) (fun k hk _ => World.putObj_heap_other (fun e => ?_))) (fun k hk => hk.1)
  obtain ⟨_, _, _, q, _, cells, hc⟩ := hk
  rw [e, hK] at hc
  cases hc
  cases hn
theorem mid_own {β : Type} {W : World} {Bn Bg bs B : Nat} {v : Value} {g : Int} {l : List S59} (hB : W.heap.size ≤ B) : OwnFrom B (fun (_ : β) X => AlcMid W X Bn Bg bs v g l) := fun s X Y row h hg hr =>
  ⟨cells_kept h.bn hg (fun r e => (hr r e).2), cells_kept h.bg hg (fun r e => (hr r e).2), S_turn h.cp hg (fun r e => (hr r e).2), ownFrom_below (Nat.le_refl _) hB s X Y row h.bl hg hr, h.ns, h.nn, h.ng⟩
theorem below_of2 {n : Nat} {w X Y : World} (h1 : Below n w X) (h2 : Below n w Y) (hs : X.heap.size ≤ Y.heap.size) : Below n X Y :=
  ⟨h2.os.trans h1.os.symm, h2.tape.trans h1.tape.symm, h2.output.trans h1.output.symm, hs, fun k hk => (h2.block k hk).trans (h1.block k hk).symm⟩
/-- Behind the three results' stores (four cells). -/
abbrev Ret4 (x : World) (s : Nat) (u1 u2 u3 u4 : Value) : World := (((x.setCell ⟨s + 1 + 1 + 1 + 1, 0, none⟩ u1).setCell ⟨s + 1 + 1 + 1 + 1 + 1, 0, none⟩ u2).setCell ⟨s + 1 + 1 + 1 + 1 + 1, 1, none⟩ u3).setCell ⟨s + 1 + 1 + 1 + 1 + 1 + 1, 0, none⟩ u4
theorem ret4_below {w x : World} {s : Nat} {u1 u2 u3 u4 : Value} (h : Below s w x) : Below s w (Ret4 x s u1 u2 u3 u4) := by
  have h1 := h.setCell (p := ⟨s + 1 + 1 + 1 + 1, 0, none⟩) (by show s ≤ s + 1 + 1 + 1 + 1; omega) u1
  have h2 := h1.setCell (p := ⟨s + 1 + 1 + 1 + 1 + 1, 0, none⟩) (by show s ≤ s + 1 + 1 + 1 + 1 + 1; omega) u2
  have h3 := h2.setCell (p := ⟨s + 1 + 1 + 1 + 1 + 1, 1, none⟩) (by show s ≤ s + 1 + 1 + 1 + 1 + 1; omega) u3
  exact h3.setCell (p := ⟨s + 1 + 1 + 1 + 1 + 1 + 1, 0, none⟩) (by show s ≤ s + 1 + 1 + 1 + 1 + 1 + 1; omega) u4
theorem ret4_far {x : World} {s : Nat} {u1 u2 u3 u4 : Value} {q : Nat} {ob : Obj} (hq : s + 7 ≤ q) (h : x.heap[q]? = some ob) : (Ret4 x s u1 u2 u3 u4).heap[q]? = some ob :=
  (Below.heap_setCell _ ⟨s + 1 + 1 + 1 + 1 + 1 + 1, 0, none⟩ _ q (by show q ≠ s + 1 + 1 + 1 + 1 + 1 + 1; omega)).trans ((Below.heap_setCell _ ⟨s + 1 + 1 + 1 + 1 + 1, 1, none⟩ _ q (by show q ≠ s + 1 + 1 + 1 + 1 + 1; omega)).trans
    ((Below.heap_setCell _ ⟨s + 1 + 1 + 1 + 1 + 1, 0, none⟩ _ q (by show q ≠ s + 1 + 1 + 1 + 1 + 1; omega)).trans ((Below.heap_setCell _ ⟨s + 1 + 1 + 1 + 1, 0, none⟩ _ q (by show q ≠ s + 1 + 1 + 1 + 1; omega)).trans h)))
theorem ret4_S {x : World} {s bs : Nat} {u1 u2 u3 u4 v : Value} {l : List S59} (hq : s + 7 ≤ bs) (h : Kd.S k59 59 x bs (fun k => bs ≤ k) v l) : Kd.S k59 59 (Ret4 x s u1 u2 u3 u4) bs (fun k => bs ≤ k) v l := by
  have hfar : ∀ t : Nat, t < s + 7 → ∀ q : Nat, bs ≤ q → q ≠ t := fun t h2 q hq => by omega
  exact Kd.S_far (Kd.S_far (Kd.S_far (Kd.S_far h (hfar _ (by show s + 1 + 1 + 1 + 1 < s + 7; omega)) _) (hfar _ (by show s + 1 + 1 + 1 + 1 + 1 < s + 7; omega)) _) (hfar _ (by show s + 1 + 1 + 1 + 1 + 1 < s + 7; omega)) _) (hfar _ (by show s + 1 + 1 + 1 + 1 + 1 + 1 < s + 7; omega)) _
theorem ret4_keeps {X x : World} {s : Nat} {u1 u2 u3 u4 : Value} (h : KeepsOthers X x) : KeepsOthers X (Ret4 x s u1 u2 u3 u4) := (((h.trans (KeepsOthers.setCell _ _ _)).trans (KeepsOthers.setCell _ _ _)).trans (KeepsOthers.setCell _ _ _)).trans (KeepsOthers.setCell _ _ _)
theorem ret4_size {x : World} {s : Nat} {u1 u2 u3 u4 : Value} : (Ret4 x s u1 u2 u3 u4).heap.size = x.heap.size := by simp
theorem own_ne {X : World} {v : Value} {B t : Nat} {c : Array Value} (h : ∀ k, v.ownBlock = some k → ∃ cells, X.heap[k]? = some (.cells cells 37 (0, 0))) (hb : X.heap[B]? = some (.cells c t (0, 0))) (ht : t ≠ 37) : v.ownBlock ≠ some B := fun e => by
  obtain ⟨cells, hc⟩ := h B e
  rw [hb] at hc
  injection hc with hc
  injection hc with _ hc
  exact ht hc
theorem AlcMid.below {W X Y : World} {Bn Bg bs : Nat} {v : Value} {g : Int} {l : List S59} (h : AlcMid W X Bn Bg bs v g l) (hb : Below X.heap.size X Y) : AlcMid W Y Bn Bg bs v g l :=
  ⟨blk_below h.bn hb, blk_below h.bg hb, Kd.S_below h.cp hb, below_then h.bl h.bl.size hb, h.ns, h.nn, h.ng⟩
theorem def_own {β : Type} {D B : Nat} {o : Obj} (hB : D < B) : OwnFrom B (fun (_ : β) X => X.heap[D]? = some o) := fun s X Y row h hg hr =>
  (hg.block D (blk_lt h) (fun e => by have := (hr D e.symm).1; omega)).trans h

theorem exit_own {α : Type} {w : World} {n0 B bs : Nat} {a0 a1 a2 a3 a4 a5 code wd ge gc : Int} {er : Int} {P1 : List α → List α → α → Prop} {f : α → Int} {g : α → Int} {L : α → List S59} {s : Nat} (h0 : n0 ≤ w.heap.size) (h1 : n0 ≤ B) :
    OwnFrom B (fun (pre : List α) X => ∃ (p0 : List α) (y : α) (v' : Value), P1 pre p0 y ∧ Fr X s a0 a1 a2 a3 a4 a5 code wd ge gc v' (f y) (g y) er ∧ Below n0 w X ∧ Kd.S k59 59 X bs (fun k => bs ≤ k) v' (L y)) := fun pre X Y row h hg hr => by
  obtain ⟨p0, y, v', h2, h3, h4, h5⟩ := h
  exact ⟨p0, y, v', h2, Own.from (fr_own (β := Unit) _ _ _ _ _ _ _ _ _ _ _ _ _ _ _) B () X Y row h3 hg hr, ownFrom_below h0 h1 pre X Y row h4 hg hr, S_turn h5 hg (fun r e => (hr r e).2)⟩

section
variable {W : World} {base g gb n cap j : Nat} {ok oki : Nat → Prop} {v : Value} {l : List S59} {x : S59}
/-- Row j of a list of the call's own, for a walk that puts a used stripe in. -/
theorem put_setup (hS : Kd.S k59 59 W base ok v l) (hn : n = l.length) (hx : l[j]? = some x) :
    ∃ (gb cap : Nat) (Au : Option Addr) (cu : Nat) (oki : Nat → Prop), v = .slice (some ⟨gb, 0, none⟩) n cap ∧ (∀ k, oki k → ok k ∧ k ≠ gb) ∧ k37.R 37 W base oki (.slice Au x.f2.length cu) x.f2 ∧ W.cell? ⟨gb, j * 3 + 2, none⟩ = some (.slice Au x.f2.length cu) ∧ W.frozen? ⟨gb, j * 3 + 2, none⟩ = false ∧
      gb < W.heap.size ∧ base ≤ gb ∧ Kd.H k59 59 W base ok (.slice (some ⟨gb, 0, none⟩) n cap) l (j : Int) oki [.int .i64 x.f0, .int .i64 x.f1, .slice Au x.f2.length cu] ∧ ∃ cells, W.heap[gb]? = some (.cells cells 59 (0, 0)) := by
  have hjl : j < l.length := (List.getElem?_eq_some_iff.1 hx).1
  obtain ⟨g, cap, rfl, hbg, hgl, hcells⟩ := Kd.S_form hS (by omega)
  obtain ⟨oki, v2, hR, hc0, hc1, hc2, hfr, hok, hH⟩ := lent hS hx rfl
  obtain ⟨A2, cu, rfl⟩ := Kd.R_slice hR
  subst hn
  exact ⟨g, cap, A2, cu, oki, rfl, hok, hR, hc2, hfr 2, hgl, hbg, hH, hcells⟩
/-- Behind Insert and the store. -/
theorem put_mem {X2 : World} {bs cu i : Nat} {Au A' : Option Addr} {c' : Nat} {u : S37} {o : Obj} (hn : n = l.length) (hil : j < n) (hgl : gb < W.heap.size) (hbs : bs ≤ W.heap.size)
    (hH : Kd.H k59 59 W bs (fun k => bs ≤ k) (.slice (some ⟨gb, 0, none⟩) n cap) l (j : Int) oki [.int .i64 x.f0, .int .i64 x.f1, .slice Au x.f2.length cu]) (hoki : ∀ k, oki k → bs ≤ k ∧ k ≠ gb)
    (hRU : k37.R 37 W bs oki (.slice Au x.f2.length cu) x.f2) (hR : k37.R 37 X2 bs (fun k => some k = (Value.slice A' (x.f2.length + 1) c').ownBlock) (.slice A' (x.f2.length + 1) c') (insAt x.f2 i u))
    (hg : (W.alloc o).grownBy X2 (Value.slice Au x.f2.length cu).ownBlock) (hob : (Value.slice A' (x.f2.length + 1) c').ownBlock = (Value.slice Au x.f2.length cu).ownBlock ∨ ∃ b, (Value.slice A' (x.f2.length + 1) c').ownBlock = some b ∧ (W.alloc o).heap.size ≤ b) :
    Kd.S k59 59 (X2.setCell ⟨gb, j * 3 + 2, none⟩ (.slice A' (x.f2.length + 1) c')) bs (fun k => bs ≤ k) (.slice (some ⟨gb, 0, none⟩) n cap) (l.set j ⟨x.f0, x.f1, insAt x.f2 i u⟩) := by
  have hsz : (W.alloc o).heap.size = W.heap.size + 1 := by simp
  have h1 := Kd.H_grown (Kd.H_widen (Kd.H_alloc hH o)) hg (fun k hk => .inl (hRU.1 k (by simpa using hk)))
  have hown : ∀ k, some k = (Value.slice A' (x.f2.length + 1) c').ownBlock → (oki k ∨ bs ≤ k ∧ (W.alloc o).heap.size ≤ k) ∧ k ≠ gb := by
    intro k hk
    rcases hob with e | ⟨b, e, hb⟩
    · rw [e] at hk
      have := hRU.1 k hk.symm
      exact ⟨.inl this, (hoki k this).2⟩
    · rw [e] at hk
      injection hk with hk
      subst hk
      exact ⟨.inr ⟨by omega, hb⟩, by omega⟩
  obtain ⟨h2, h3⟩ := Kd.H_seg h1 (by omega) (by omega) (seg := [.slice A' (x.f2.length + 1) c']) (j := 2) (by show 2 + 1 ≤ 3; omega) (by intro q hq; simp at hq; rw [hq]; rfl)
  rw [Int.toNat_natCast] at h2 h3
  have hM : k59.M (X2.setCells gb (j * 3 + 2) [.slice A' (x.f2.length + 1) c']) bs (fun k => oki k ∨ bs ≤ k ∧ (W.alloc o).heap.size ≤ k) ⟨x.f0, x.f1, insAt x.f2 i u⟩ ([.int .i64 x.f0, .int .i64 x.f1, .slice A' (x.f2.length + 1) c']) := by
    have hl2 : (insAt x.f2 i u).length = x.f2.length + 1 := (Kd.R_reads' hR).1.symm
    exact k59_mkM _ _ _ ⟨x.f0, x.f1, insAt x.f2 i u⟩ (Kd.R_mono (Kd.R_grown hR h3 (fun k hk e => (hown k hk).2 (by injection e))) (fun k hk => (hown k hk).1))
  have h4 := Kd.H_back h2 hM (fun k hk => hk)
  rw [Int.toNat_natCast] at h4
  exact h4
end

/-- All that the walk keeps, behind Insert and the store. -/
theorem mid_put {W0 W X2 w : World} {Bn Bg bs s D1 gb n cap j cu i c' : Nat} {Au A' : Option Addr} {a0 a1 a2 a3 a4 a5 code wd ge gc g : Int} {l : List S59} {x : S59} {u : S37} {o : Obj} {oki : Nat → Prop} {vv : Value}
    (hF : Fr W s a0 a1 a2 a3 a4 a5 code wd ge gc (.slice none 0 0) 0 0 0) (hB : Below s w W) (hK : W.heap[D1]? = some (.deferred (some []))) (hM : AlcMid W0 W Bn Bg bs vv g l) (hW0 : s + 7 ≤ W0.heap.size) (hs : s ≤ w.heap.size)
    (hn : n = l.length) (hx : l[j]? = some x) (hvv : vv = .slice (some ⟨gb, 0, none⟩) n cap) (hgl : gb < W.heap.size) (hbg : bs ≤ gb) (hcells : ∃ cells, W.heap[gb]? = some (.cells cells 59 (0, 0))) (hbs : bs ≤ W.heap.size)
    (hH : Kd.H k59 59 W bs (fun k => bs ≤ k) (.slice (some ⟨gb, 0, none⟩) n cap) l (j : Int) oki [.int .i64 x.f0, .int .i64 x.f1, .slice Au x.f2.length cu]) (hoki : ∀ k, oki k → bs ≤ k ∧ k ≠ gb)
    (hRU : k37.R 37 W bs oki (.slice Au x.f2.length cu) x.f2) (hR : k37.R 37 X2 bs (fun k => some k = (Value.slice A' (x.f2.length + 1) c').ownBlock) (.slice A' (x.f2.length + 1) c') (insAt x.f2 i u))
    (hg : (W.alloc o).grownBy X2 (Value.slice Au x.f2.length cu).ownBlock) (hob : (Value.slice A' (x.f2.length + 1) c').ownBlock = (Value.slice Au x.f2.length cu).ownBlock ∨ ∃ b, (Value.slice A' (x.f2.length + 1) c').ownBlock = some b ∧ (W.alloc o).heap.size ≤ b) :
    (∀ (k : Nat) (ob : Obj), W.heap[k]? = some ob → (∀ cells, ob ≠ .cells cells 37 (0, 0)) → (∀ cells, ob ≠ .cells cells 59 (0, 0)) → (X2.setCell ⟨gb, j * 3 + 2, none⟩ (.slice A' (x.f2.length + 1) c')).heap[k]? = some ob) ∧ W.heap.size ≤ (X2.setCell ⟨gb, j * 3 + 2, none⟩ (.slice A' (x.f2.length + 1) c')).heap.size ∧
    Fr (X2.setCell ⟨gb, j * 3 + 2, none⟩ (.slice A' (x.f2.length + 1) c')) s a0 a1 a2 a3 a4 a5 code wd ge gc (.slice none 0 0) 0 0 0 ∧ Below s w (X2.setCell ⟨gb, j * 3 + 2, none⟩ (.slice A' (x.f2.length + 1) c')) ∧
      (X2.setCell ⟨gb, j * 3 + 2, none⟩ (.slice A' (x.f2.length + 1) c')).heap[D1]? = some (.deferred (some [])) ∧ Boxed (X2.setCell ⟨gb, j * 3 + 2, none⟩ (.slice A' (x.f2.length + 1) c')) Bn 25 (.slice (some ⟨gb, 0, none⟩) n cap) ∧
      Kd.S k59 59 (X2.setCell ⟨gb, j * 3 + 2, none⟩ (.slice A' (x.f2.length + 1) c')) bs (fun k => bs ≤ k) (.slice (some ⟨gb, 0, none⟩) n cap) (l.set j ⟨x.f0, x.f1, insAt x.f2 i u⟩) := by
  obtain ⟨cb, hcb⟩ := hcells
  have hjl : j < l.length := (List.getElem?_eq_some_iff.1 hx).1
  have hns := hM.ns
  have htyped := Kd.R_typed hRU
  have hown : ∀ k, (Value.slice Au x.f2.length cu).ownBlock = some k → bs ≤ k := fun k hk => (hoki k (hRU.1 k hk)).1
  have keep : ∀ (k : Nat) (ob : Obj), W.heap[k]? = some ob → (∀ cells, ob ≠ .cells cells 37 (0, 0)) → (∀ cells, ob ≠ .cells cells 59 (0, 0)) → (X2.setCell ⟨gb, j * 3 + 2, none⟩ (.slice A' (x.f2.length + 1) c')).heap[k]? = some ob := by
    intro k ob hk h37 h59
    have hlt := blk_lt hk
    refine (Below.heap_setCell X2 ⟨gb, j * 3 + 2, none⟩ _ k (fun e => ?_)).trans ((hg.block k (by simp; omega) (fun e => ?_)).trans ((heap_alloc_old W o hlt).trans hk))
    · have e2 : k = gb := e
      rw [e2, hcb] at hk
      injection hk with hk
      exact h59 _ hk.symm
    · obtain ⟨cells, hc⟩ := htyped k e.symm
      rw [hk] at hc
      injection hc with hc
      exact h37 _ hc
  refine ⟨keep, by rw [World.size_setCell]; have := hg.size; simp at this; omega, ?_, ?_, keep D1 _ hK (fun _ => by simp) (fun _ => by simp), ?_, put_mem hn (by omega) hgl hbs hH hoki hRU hR hg hob⟩
  · exact ⟨keep _ _ hF.b0 (by simp) (by simp), keep _ _ hF.b1 (by simp) (by simp), keep _ _ hF.b2 (by simp) (by simp), keep _ _ hF.b3 (by simp) (by simp), keep _ _ hF.b4 (by simp) (by simp), keep _ _ hF.b5 (by simp) (by simp), keep _ _ hF.b6 (by simp) (by simp)⟩
  · have b1 : Below s w (W.alloc o) := hB.alloc (by have := hB.size; omega) o
    have b2 : Below s w X2 := b1.grown hg (by have := b1.size; omega) (fun q hq => by have := hown q hq; omega)
    exact b2.setCell (p := ⟨gb, j * 3 + 2, none⟩) (by show s ≤ gb; omega) _
  · have h := hM.bn
    rw [hvv] at h
    exact keep _ _ h (by simp) (by simp)

/-- Allocate's frame goes: the marks of the loops, then the results. -/
theorem alc_leaves {w : World} {p : List S59 × Int × Int × Int} {n bs : Nat} {v : Value} {tmps : Array Value} {a0 a1 a2 a3 a4 a5 code wd ge gc : Int}
    (h10 : tmps.getD 10 undef = .pointer (some ⟨w.heap.size + 1 + 1 + 1 + 1, 0, none⟩)) (h11 : tmps.getD 11 undef = .pointer (some ⟨w.heap.size + 1 + 1 + 1 + 1 + 1, 0, none⟩)) (h12 : tmps.getD 12 undef = .pointer (some ⟨w.heap.size + 1 + 1 + 1 + 1 + 1 + 1, 0, none⟩)) (hbs : w.heap.size ≤ bs) :
    ∀ (Ds : List Nat) (X : World), Fr X w.heap.size a0 a1 a2 a3 a4 a5 code wd ge gc v p.2.1 p.2.2.1 p.2.2.2 → Below w.heap.size w X → Kd.S k59 59 X bs (fun k => bs ≤ k) v p.1 → (∀ D ∈ Ds, w.heap.size + 7 ≤ D ∧ X.heap[D]? = some (.deferred (some []))) → Ds.Nodup →
      LeavesInM Fence.wide n Try.prog Try.f9 tmps (AlcPost w p) (Ds.map fun D => { target := .collected D, args := #[] }) .returning X
  | [], X, hF, hB, hS, _, _ => by
    refine ⟨_, alc_results hF ?_ tmps h10 h11 h12, v, rfl, Kd.S_mono (Kd.S_lower hS hbs) (fun k hk => Nat.le_trans hbs hk), hB⟩
    obtain ⟨A, c, e⟩ := Kd.S_slice hS
    exact ⟨A, _, c, e⟩
  | D :: Ds, X, hF, hB, hS, hD, hnd => by
    obtain ⟨hlo, hK⟩ := hD D (List.mem_cons_self ..)
    refine ⟨by simp, .inl ⟨D, _, rfl, run_takeDeferred hK, ?_⟩⟩
    refine alc_leaves h10 h11 h12 hbs Ds _ (hF.put hlo hK rfl) (hB.trans (belowK_b (w := w) (Nat.le_refl _) X D _ _ (by omega) hK rfl rfl)) (S_put hS hK rfl) (fun E hE => ?_) (List.nodup_cons.1 hnd).2
    have hne : E ≠ D := fun e => (List.nodup_cons.1 hnd).1 (e ▸ hE)
    obtain ⟨h1, h2⟩ := hD E (List.mem_cons_of_mem _ hE)
    exact ⟨h1, (World.putObj_heap_other hne).trans h2⟩

section
variable {code wd g : Int} {R : List RowA} {l : List S59} {len : Nat}
theorem ofJ_rows (hm : R.map RowA.x = l) (hl : len = l.length) : ofJ code R len = rowsOf code l := by
  rw [ofJ_eq hm, hl]; rfl
theorem ofJ_prefix {k : Nat} (hk : k ≤ len) : ∃ rest, ofJ code R len = ofJ code R k ++ rest := by
  induction len with
  | zero => obtain rfl : k = 0 := by omega
            exact ⟨[], by simp⟩
  | succ m ih =>
    by_cases h : k = m + 1
    · subst h; exact ⟨[], by simp⟩
    · obtain ⟨rest, e⟩ := ih (by omega)
      refine ⟨rest ++ (if (rA R m).x.f0 = code then [m] else []), ?_⟩
      rw [ofJ, e, List.append_assoc]
theorem widths_all (hm : R.map RowA.x = l) (hl : len = l.length) {ys : List (Jx code R len)} (hy : ys.map Subtype.val = ofJ code R len) (h : ∀ y ∈ ys, (rA R y.1).x.f1 = wd) : widthsOk l code wd = true := by
  unfold widthsOk
  rw [← ofJ_rows hm hl, ← hy, List.all_eq_true]
  intro j hj
  obtain ⟨y, hy, rfl⟩ := List.mem_map.1 hj
  rw [← rA_x hm, h y hy]
  simp
theorem room_none (hm : R.map RowA.x = l) (hl : len = l.length) {ys : List (Jx code R len)} (hy : ys.map Subtype.val = ofJ code R len) (h : ∀ y ∈ ys, ((rA R y.1).x.f2.length : Int) = g) : roomAt l code g = none := by
  unfold roomAt
  rw [← ofJ_rows hm hl, ← hy, List.find?_eq_none]
  intro j hj
  obtain ⟨y, hy, rfl⟩ := List.mem_map.1 hj
  rw [← rA_x hm, h y hy]
  simp
theorem room_some (hm : R.map RowA.x = l) (hl : len = l.length) {pre : List (Jx code R len)} {y : Jx code R len} {k : Nat} (hk : k ≤ len) (hy : (pre ++ [y]).map Subtype.val = ofJ code R k) (h : ∀ y ∈ pre, ((rA R y.1).x.f2.length : Int) = g) (hn : ¬ ((rA R y.1).x.f2.length : Int) = g) : roomAt l code g = some y.1 := by
  unfold roomAt
  obtain ⟨rest, e⟩ := ofJ_prefix (code := code) (R := R) hk
  rw [← ofJ_rows hm hl, e, ← hy, List.map_append, List.append_assoc, List.find?_append]
  rw [(List.find?_eq_none.2 ?_ : (pre.map Subtype.val).find? _ = none)]
  · rw [rA_x hm] at hn
    simp [hn]
  · intro j hj
    obtain ⟨y, hy, rfl⟩ := List.mem_map.1 hj
    rw [← rA_x hm, h y hy]
    simp
theorem free_none (hm : R.map RowA.x = l) (hl : len = l.length) {ys : List (Jx (-1) R len)} (hy : ys.map Subtype.val = ofJ (-1) R len) (h : ys = []) : freeAt l = none := by
  unfold freeAt
  rw [← ofJ_rows hm hl, ← hy, h]
  rfl
theorem free_some (hm : R.map RowA.x = l) (hl : len = l.length) {y : Jx (-1) R len} {k : Nat} (hk : k ≤ len) (hy : ([y] : List (Jx (-1) R len)).map Subtype.val = ofJ (-1) R k) : freeAt l = some y.1 := by
  unfold freeAt
  obtain ⟨rest, e⟩ := ofJ_prefix (code := -1) (R := R) hk
  rw [← ofJ_rows hm hl, e, ← hy]
  rfl
theorem allocG_put {ge gc : Int} {j : Nat} (h1 : widthsOk l code wd = true) (h2 : roomAt l code g = some j) : allocG l code wd g ge gc = (putRow l j ge gc, (j : Int), (gap0 (rd_T59 l (j : Int)).f2 : Int), 0) := by
  unfold allocG
  rw [if_neg (by rw [h1]; simp), h2]
theorem allocG_new {ge gc : Int} {j : Nat} (h1 : widthsOk l code wd = true) (h2 : roomAt l code g = none) (h3 : freeAt l = some j) : allocG l code wd g ge gc = (l.set j ⟨code, wd, [⟨0, ⟨ge, gc⟩⟩]⟩, (j : Int), 0, 0) := by
  unfold allocG
  rw [if_neg (by rw [h1]; simp), h2, h3]
theorem allocG_full {ge gc : Int} (h1 : widthsOk l code wd = true) (h2 : roomAt l code g = none) (h3 : freeAt l = none) : allocG l code wd g ge gc = ([], 0, 0, 16) := by
  unfold allocG
  rw [if_neg (by rw [h1]; simp), h2, h3]
end
end Go.Proofs.Ytlodlblkmnhaeaa

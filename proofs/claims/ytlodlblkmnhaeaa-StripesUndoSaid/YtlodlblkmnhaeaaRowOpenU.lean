/- An argument that is a Config, or a slice of operations, opened. -/
import Derived.Test.YtlodlblkmnhaeaaPx0
import Derived.Deep.Slices
import Derived.ChangeArms
import Derived.ChangeSame
namespace Go.Proofs.Ytlodlblkmnhaeaa
open Go.Deep Go.ChangeShapes Go.WideShapes Go.RowKit Go.Proofs.Ytlodlblkmnhaeaa.P Go.Proofs.YtlodlblkmnhaeaaW.PrintWords Go.Proofs.YtlodlblkmnhaeaaW.PrintLast
section
variable {H : Type} {enc : TypeId × Value → H} {P : Program} {w : World} {base : Nat} {spare : Nat → Bool} {held : Bool}
theorem C_of_trod {α : Type} [Inhabited α] (d : Kd α) {t e : TypeId} {fuel : Nat} {cs : List Value} {x : DataW H × List MemPlace} (ht : P.underlying t = some (.slice e)) (hC : P.cellsOf e = d.sz)
    (hel : ∀ n cs x, DataW.trod enc P w base spare held n e cs = some x → ∃ y : α, d.K w y cs) (h : DataW.trod enc P w base spare held fuel t cs = some x) :
    ∃ (A : Option Addr) (cap : Nat) (l : List α), cs = [.slice A l.length cap] ∧ l.length ≤ cap ∧ d.C w A l.length l := by
  rcases open_slice ht h with ⟨rfl, _⟩ | ⟨a, len, cap, m, n, D, Pl, rfl, hb, hl, hm, hmm, _, hx⟩
  · exact ⟨none, 0, [], rfl, Nat.le_refl _, Kd.C_nil d w⟩
  · have hlm : len ≤ m := by rw [hmm]; split <;> omega
    obtain ⟨Y, hY⟩ := choose_lt (α := α × List Value) (n := len) (p := fun i y => w.cells? base (a.add (i * P.cellsOf e)) (P.cellsOf e) = some y.2 ∧ d.K w y.1 y.2) (fun i hi => by
      obtain ⟨cs', h1, h2⟩ := hx i (by omega)
      obtain ⟨y, hy⟩ := hel _ _ _ h2
      exact ⟨(y, cs'), h1, hy⟩)
    refine ⟨some a, cap, (List.range len).map (fun i => (Y i).1), by simp, by simpa using hl, by simp, by simp; unfold maxLen at hm; omega, fun _ => ⟨a, rfl, fun j p hp => ?_⟩⟩
    have hj : j < len := by have := (List.getElem?_eq_some_iff.1 hp).1; simpa using this
    obtain ⟨h1, h2⟩ := hY j hj
    have hpe : p = (Y j).1 := by
      rw [List.getElem?_map, List.getElem?_range hj] at hp
      exact (Option.some.inj hp).symm
    subst hpe
    refine ⟨(Y j).2, d.K_len h2, h2, fun i u hu => ?_⟩
    obtain ⟨_, hlen, hat⟩ := World.cells?_some h1
    have hi : i < P.cellsOf e := by rw [← hlen]; exact (List.getElem?_eq_some_iff.1 hu).1
    have := hat i hi
    rw [Go.Deep.add_add, hu, hC] at this
    exact this

end
section
variable {H : Type} {enc : TypeId × Value → H} {w : World} {base : Nat} {spare : Nat → Bool} {held : Bool}
/-- a Config argument. -/
theorem open_cfg {r : Reach} {b0 : Nat} {v : Value} {D : DataW H} {p : List MemPlace} (hv : Value.okWide Try.prog w r b0 23 v) (h : DataW.Trod enc Try.prog w base spare held 23 v D p) :
    ∃ a0 a1 a2 a3 a4 a5 : Int, v = .agg #[.int .i64 a0, .int .i64 a1, .int .i64 a2, .int .i64 a3, .int .i64 a4, .int .i64 a5] := by
  obtain ⟨cs, rfl, _⟩ := okWide_struct Try.underlying23 hv
  obtain ⟨fuel, hf⟩ := h
  obtain ⟨xs, m, _, _, hl, hlen, hf⟩ := DataW.trod_struct Try.underlying23 hf
  have c23 : Try.prog.cellsOf 23 = 6 := by kernel_rfl
  have c3 : Try.prog.cellsOf 3 = 1 := by kernel_rfl
  rw [c23] at hl
  simp only [Value.cells] at hl hf
  obtain ⟨l, hcs⟩ : ∃ l, cs.toList = l := ⟨_, rfl⟩
  rw [hcs] at hl hf
  match l, hl with
  | [a0, a1, a2, a3, a4, a5], _ =>
    match xs, hlen with
    | [x0, x1, x2, x3, x4, x5], _ =>
      have h0 := hf 0 _ rfl
      have h1 := hf 1 _ rfl
      have h2 := hf 2 _ rfl
      have h3 := hf 3 _ rfl
      have h4 := hf 4 _ rfl
      have h5 := hf 5 _ rfl
      simp only [List.getElem_toArray, List.getElem_cons_zero, List.getElem_cons_succ, c3, List.drop_zero, List.drop_succ_cons, List.take_succ_cons, List.take_zero, List.getElem?_cons_zero, List.getElem?_cons_succ] at h0 h1 h2 h3 h4 h5
      obtain ⟨z0, e0, _⟩ := DataW.trod_int Try.underlying3 h0
      obtain ⟨z1, e1, _⟩ := DataW.trod_int Try.underlying3 h1
      obtain ⟨z2, e2, _⟩ := DataW.trod_int Try.underlying3 h2
      obtain ⟨z3, e3, _⟩ := DataW.trod_int Try.underlying3 h3
      obtain ⟨z4, e4, _⟩ := DataW.trod_int Try.underlying3 h4
      obtain ⟨z5, e5, _⟩ := DataW.trod_int Try.underlying3 h5
      simp only [List.cons.injEq, and_true] at e0 e1 e2 e3 e4 e5
      subst e0 e1 e2 e3 e4 e5
      exact ⟨z0, z1, z2, z3, z4, z5, by rw [← Array.toArray_toList (xs := cs), hcs]⟩
end
end Go.Proofs.Ytlodlblkmnhaeaa
namespace Go.Proofs.Ytlodlblkmnhaeaa
open Go.Deep Go.ChangeShapes Go.WideShapes Go.RowKit Go.Proofs.Ytlodlblkmnhaeaa.P Go.Proofs.YtlodlblkmnhaeaaW.PrintWords Go.Proofs.YtlodlblkmnhaeaaW.PrintLast
section
variable {H : Type} {enc : TypeId × Value → H} {w : World} {base : Nat} {spare : Nat → Bool} {held : Bool}
theorem two_ints {t : TypeId} {fs : Array Field} (ht : Try.prog.underlying t = some (.struct fs)) (hc : Try.prog.cellsOf t = 2) (h3 : Try.prog.cellsOf 3 = 1) (hs : fs.size = 2) {f0 f1 : Field} (hf0 : fs[0]? = some f0) (hf1 : fs[1]? = some f1) (t0 : f0.type = 3) (t1 : f1.type = 3) (o0 : f0.offset = 0) (o1 : f1.offset = 1)
    (n : Nat) (cs : List Value) (x : DataW H × List MemPlace) (h : DataW.trod enc Try.prog w base spare held n t cs = some x) : ∃ u0 u1 : Int, cs = [.int .i64 u0, .int .i64 u1] := by
  obtain ⟨ys, m', _, _, hl', hlen', hf'⟩ := DataW.trod_struct ht h
  rw [hc] at hl'
  match cs, hl' with
  | [a0, a1], _ =>
    match ys, hlen'.trans hs with
    | [y0, y1], _ =>
      have g0 := hf' 0 _ hf0
      have g1 := hf' 1 _ hf1
      simp only [t0, t1, o0, o1, h3, List.drop_zero, List.drop_succ_cons, List.take_succ_cons, List.take_zero, List.getElem?_cons_zero, List.getElem?_cons_succ] at g0 g1
      obtain ⟨u0, e4, _⟩ := DataW.trod_int Try.underlying3 g0
      obtain ⟨u1, e5, _⟩ := DataW.trod_int Try.underlying3 g1
      simp only [List.cons.injEq, and_true] at e4 e5
      subst e4 e5
      exact ⟨u0, u1, rfl⟩
theorem two27 (n : Nat) (cs : List Value) (x : DataW H × List MemPlace) (h : DataW.trod enc Try.prog w base spare held n 27 cs = some x) : ∃ u0 u1 : Int, cs = [.int .i64 u0, .int .i64 u1] :=
  two_ints Try.underlying27 (by kernel_rfl) (by kernel_rfl) rfl rfl rfl rfl rfl rfl rfl n cs x h
theorem two29 (n : Nat) (cs : List Value) (x : DataW H × List MemPlace) (h : DataW.trod enc Try.prog w base spare held n 29 cs = some x) : ∃ u0 u1 : Int, cs = [.int .i64 u0, .int .i64 u1] :=
  two_ints Try.underlying29 (by kernel_rfl) (by kernel_rfl) rfl rfl rfl rfl rfl rfl rfl n cs x h
theorem K_used (n : Nat) (cs : List Value) (x : DataW H × List MemPlace) (h : DataW.trod enc Try.prog w base spare held n 37 cs = some x) : ∃ y : S37, k37.K w y cs := by
  obtain ⟨xs, m, _, _, hl, hlen, hf⟩ := DataW.trod_struct Try.underlying37 h
  have c37 : Try.prog.cellsOf 37 = 3 := by kernel_rfl
  have c27 : Try.prog.cellsOf 27 = 2 := by kernel_rfl
  have c3 : Try.prog.cellsOf 3 = 1 := by kernel_rfl
  rw [c37] at hl
  match cs, hl with
  | [a0, a1, a2], _ =>
    match xs, hlen with
    | [x0, x1], _ =>
      have h0 := hf 0 _ rfl
      have h1 := hf 1 _ rfl
      simp only [List.getElem_toArray, List.getElem_cons_zero, List.getElem_cons_succ, c3, c27, List.drop_zero, List.drop_succ_cons, List.take_succ_cons, List.take_zero, List.getElem?_cons_zero, List.getElem?_cons_succ] at h0 h1
      obtain ⟨z0, e0, _⟩ := DataW.trod_int Try.underlying3 h0
      obtain ⟨u0, u1, e1⟩ := two27 _ _ _ h1
      simp only [List.cons.injEq, and_true] at e0 e1
      obtain ⟨e1, e2⟩ := e1
      subst e0 e1 e2
      exact ⟨⟨z0, ⟨u0, u1⟩⟩, k37_mk w _⟩
instance : Inhabited S37 := ⟨z37⟩
theorem K_row (n : Nat) (cs : List Value) (x : DataW H × List MemPlace) (h : DataW.trod enc Try.prog w base spare held n 59 cs = some x) : ∃ y : S59, k59.K w y cs := by
  obtain ⟨xs, m, _, _, hl, hlen, hf⟩ := DataW.trod_struct Try.underlying59 h
  have c59 : Try.prog.cellsOf 59 = 3 := by kernel_rfl
  have c57 : Try.prog.cellsOf 57 = 1 := by kernel_rfl
  have c3 : Try.prog.cellsOf 3 = 1 := by kernel_rfl
  rw [c59] at hl
  match cs, hl with
  | [a0, a1, a2], _ =>
    match xs, hlen with
    | [x0, x1, x2], _ =>
      have h0 := hf 0 _ rfl
      have h1 := hf 1 _ rfl
      have h2 := hf 2 _ rfl
      simp only [List.getElem_toArray, List.getElem_cons_zero, List.getElem_cons_succ, c3, c57, List.drop_zero, List.drop_succ_cons, List.take_succ_cons, List.take_zero, List.getElem?_cons_zero, List.getElem?_cons_succ] at h0 h1 h2
      obtain ⟨z0, e0, _⟩ := DataW.trod_int Try.underlying3 h0
      obtain ⟨z1, e1, _⟩ := DataW.trod_int Try.underlying3 h1
      obtain ⟨A', cap', l, e2, h3, h4⟩ := C_of_trod k37 Try.underlying57 (by kernel_rfl) K_used h2
      simp only [List.cons.injEq, and_true] at e0 e1 e2
      subst e0 e1 e2
      exact ⟨⟨z0, z1, l⟩, k59_mk w ⟨z0, z1, l⟩ h3 h4⟩
instance : Inhabited S59 := ⟨z59⟩
/-- a Rows argument. -/
theorem open_rows {D : DataW H} {p : List MemPlace} {A : Option Addr} {len cap : Nat} (h : DataW.Trod enc Try.prog w base spare held 25 (.slice A len cap) D p) : ∃ l : List S59, l.length = len ∧ len ≤ cap ∧ Kd.C k59 w A l.length l := by
  obtain ⟨fuel, hf⟩ := h
  obtain ⟨A', cap', l, h1, h2, h3⟩ := C_of_trod k59 Try.underlying25 (by kernel_rfl) K_row hf
  simp only [Value.cells] at h1
  injection h1 with h1
  injection h1 with e1 e2 e3
  subst e1 e3
  exact ⟨l, e2.symm, by omega, h3⟩
theorem open_gen {r : Reach} {b0 : Nat} {v : Value} {D : DataW H} {p : List MemPlace} (hv : Value.okWide Try.prog w r b0 27 v) (h : DataW.Trod enc Try.prog w base spare held 27 v D p) : ∃ a0 a1 : Int, v = .agg #[.int .i64 a0, .int .i64 a1] := by
  obtain ⟨cs, rfl, _⟩ := okWide_struct Try.underlying27 hv
  obtain ⟨fuel, hf⟩ := h
  obtain ⟨u0, u1, e⟩ := two27 _ _ _ hf
  simp only [Value.cells] at e
  exact ⟨u0, u1, by rw [← Array.toArray_toList (xs := cs), e]⟩
theorem open_stripe {r : Reach} {b0 : Nat} {v : Value} {D : DataW H} {p : List MemPlace} (hv : Value.okWide Try.prog w r b0 29 v) (h : DataW.Trod enc Try.prog w base spare held 29 v D p) : ∃ a0 a1 : Int, v = .agg #[.int .i64 a0, .int .i64 a1] := by
  obtain ⟨cs, rfl, _⟩ := okWide_struct Try.underlying29 hv
  obtain ⟨fuel, hf⟩ := h
  obtain ⟨u0, u1, e⟩ := two29 _ _ _ hf
  simp only [Value.cells] at e
  exact ⟨u0, u1, by rw [← Array.toArray_toList (xs := cs), e]⟩
end
end Go.Proofs.Ytlodlblkmnhaeaa

/- An argument that is a slice (of whole numbers, of tasks, of slices of tasks) opened as the list that it holds. -/
import Derived.Test.YtmpeekkbmfbjeaaPx0
import Derived.Deep.Slices
import Derived.ChangeArms
import Derived.ChangeSame
namespace Go.Proofs.Ytmpeekkbmfbjeaa
open Go.Deep Go.ChangeShapes Go.WideShapes Go.RowKit Go.Proofs.Ytmpeekkbmfbjeaa.P Go.Proofs.YtmpeekkbmfbjeaaW.PrintWords Go.Proofs.YtmpeekkbmfbjeaaW.PrintLast
theorem u8_in {a : Int} (h : (Lit.int .u8 a).wf = true) : 0 ≤ a ∧ a < 256 := by
  simp [Lit.wf] at h
  have h1 : IntKind.u8.min = 0 := by decide +kernel
  have h2 : IntKind.u8.max = 255 := by decide +kernel
  omega
section
variable {H : Type} {enc : TypeId × Value → H} {P : Program} {w : World} {base : Nat} {spare : Nat → Bool} {held : Bool}

theorem C_of_trod {α : Type} [Inhabited α] (d : Kd α) {t e : TypeId} {fuel : Nat} {cs : List Value} {x : DataW H × List MemPlace} (ht : P.underlying t = some (.slice e)) (hC : P.cellsOf e = d.sz)
    (hel : ∀ n cs x, DataW.trod enc P w base spare held n e cs = some x → ∃ y : α, d.K w y cs) (h : DataW.trod enc P w base spare held fuel t cs = some x) :
    ∃ (A : Option Addr) (cap : Nat) (l : List α), cs = [.slice A l.length cap] ∧ l.length ≤ cap ∧ d.C w A l.length l := by
  rcases open_slice ht h with ⟨rfl, _⟩ | ⟨a, len, cap, m, n, D, Pl, rfl, hb, hl, hm, hmm, _, hx⟩
  · exact ⟨none, 0, [], rfl, Nat.le_refl _, Kd.C_nil d w⟩
  · have hlm : len ≤ m := by rw [hmm]; split <;> omega
    obtain ⟨Y, hY⟩ := choose_lt (α := α × List Value) (n := len) (p := fun i y => w.cells? base (a.add (i * P.cellsOf e)) (P.cellsOf e) = some y.2 ∧ d.K w y.1 y.2) (fun i hi => by
      obtain ⟨cs', h1, h2⟩ := hx i (by omega)
      obtain ⟨y, hy⟩ := hel _ _ _ h2
      exact ⟨(y, cs'), h1, hy⟩)
    refine ⟨some a, cap, (List.range len).map (fun i => (Y i).1), by simp, by simpa using hl, by simp, by simp; unfold maxLen at hm; omega, fun _ => ⟨a, rfl, fun j p hp => ?_⟩⟩
    have hj : j < len := by have := (List.getElem?_eq_some_iff.1 hp).1; simpa using this
    obtain ⟨h1, h2⟩ := hY j hj
    have hpe : p = (Y j).1 := by
      rw [List.getElem?_map, List.getElem?_range hj] at hp
      exact (Option.some.inj hp).symm
    subst hpe
    refine ⟨(Y j).2, d.K_len h2, h2, fun i u hu => ?_⟩
    obtain ⟨_, hlen, hat⟩ := World.cells?_some h1
    have hi : i < P.cellsOf e := by rw [← hlen]; exact (List.getElem?_eq_some_iff.1 hu).1
    have := hat i hi
    rw [Go.Deep.add_add, hu, hC] at this
    exact this

theorem K_int {k : IntKind} {e : TypeId} (he : P.underlying e = some (.int k)) (n : Nat) (cs : List Value) (x : DataW H × List MemPlace) (h : DataW.trod enc P w base spare held n e cs = some x) : ∃ y : Int, (Kd.int k).K w y cs := by
  obtain ⟨z, rfl, _⟩ := DataW.trod_int he h
  exact ⟨z, rfl⟩

theorem K_slice {α : Type} [Inhabited α] (d : Kd α) {t e : TypeId} (ht : P.underlying t = some (.slice e)) (hC : P.cellsOf e = d.sz) (hel : ∀ n cs x, DataW.trod enc P w base spare held n e cs = some x → ∃ y : α, d.K w y cs)
    (n : Nat) (cs : List Value) (x : DataW H × List MemPlace) (h : DataW.trod enc P w base spare held n t cs = some x) : ∃ y : List α, (Kd.slice e d).K w y cs := by
  obtain ⟨A, cap, l, h1, h2, h3⟩ := C_of_trod d ht hC hel h
  exact ⟨l, A, cap, h1, h2, h3⟩
end
section
variable {H : Type} {enc : TypeId × Value → H} {w : World} {base : Nat} {spare : Nat → Bool} {held : Bool}
theorem K_task (n : Nat) (cs : List Value) (x : DataW H × List MemPlace) (h : DataW.trod enc Try.prog w base spare held n 52 cs = some x) : ∃ y : S52, k52.K w y cs := by
  obtain ⟨xs, m, _, _, hl, hlen, hf⟩ := DataW.trod_struct Try.underlying52 h
  have c52 : Try.prog.cellsOf 52 = 5 := by kernel_rfl
  have c50 : Try.prog.cellsOf 50 = 2 := by kernel_rfl
  have c3 : Try.prog.cellsOf 3 = 1 := by kernel_rfl
  rw [c52] at hl
  match cs, hl with
  | [a0, a1, a2, a3, a4], _ =>
    match xs, hlen with
    | [x0, x1, x2, x3], _ =>
      have h0 := hf 0 _ rfl
      have h1 := hf 1 _ rfl
      have h2 := hf 2 _ rfl
      have h3 := hf 3 _ rfl
      simp only [List.getElem_toArray, List.getElem_cons_zero, List.getElem_cons_succ, c3, c50, List.drop_zero, List.drop_succ_cons, List.take_succ_cons, List.take_zero, List.getElem?_cons_zero, List.getElem?_cons_succ] at h0 h1 h2 h3
      obtain ⟨z0, e0, _⟩ := DataW.trod_int Try.underlying3 h0
      obtain ⟨z2, e2, _⟩ := DataW.trod_int Try.underlying3 h2
      obtain ⟨z3, e3, _⟩ := DataW.trod_int Try.underlying3 h3
      obtain ⟨ys, m', _, _, hl', hlen', hf'⟩ := DataW.trod_struct Try.underlying50 h1
      match ys, hlen' with
      | [y0, y1], _ =>
        have g0 := hf' 0 _ rfl
        have g1 := hf' 1 _ rfl
        simp only [List.getElem_toArray, List.getElem_cons_zero, List.getElem_cons_succ, c3, List.drop_zero, List.drop_succ_cons, List.take_succ_cons, List.take_zero, List.getElem?_cons_zero, List.getElem?_cons_succ] at g0 g1
        obtain ⟨u0, e4, _⟩ := DataW.trod_int Try.underlying3 g0
        obtain ⟨u1, e5, _⟩ := DataW.trod_int Try.underlying3 g1
        simp only [List.cons.injEq, and_true] at e0 e2 e3 e4 e5
        subst e0 e2 e3 e4 e5
        exact ⟨⟨z0, ⟨u0, u1⟩, z2, z3⟩, k52_mk w _⟩
instance : Inhabited S52 := ⟨z52⟩
/-- a []Task argument. -/
theorem open_tasks {D : DataW H} {p : List MemPlace} {A : Option Addr} {len cap : Nat} (h : DataW.Trod enc Try.prog w base spare held 28 (.slice A len cap) D p) : ∃ l : List S52, l.length = len ∧ len ≤ cap ∧ Kd.C k52 w A l.length l := by
  obtain ⟨fuel, hf⟩ := h
  obtain ⟨A', cap', l, h1, h2, h3⟩ := C_of_trod k52 Try.underlying28 (by kernel_rfl) K_task hf
  simp only [Value.cells] at h1
  injection h1 with h1
  injection h1 with e1 e2 e3
  subst e1 e3
  exact ⟨l, e2.symm, by omega, h3⟩
theorem open_creds {D : DataW H} {p : List MemPlace} {A : Option Addr} {len cap : Nat} (h : DataW.Trod enc Try.prog w base spare held 24 (.slice A len cap) D p) : ∃ l : List Int, l.length = len ∧ len ≤ cap ∧ Kd.C (Kd.int .i64) w A l.length l := by
  obtain ⟨fuel, hf⟩ := h
  obtain ⟨A', cap', l, h1, h2, h3⟩ := C_of_trod (Kd.int .i64) Try.underlying24 (by kernel_rfl) (K_int Try.underlying3) hf
  simp only [Value.cells] at h1
  injection h1 with h1
  injection h1 with e1 e2 e3
  subst e1 e3
  exact ⟨l, e2.symm, by omega, h3⟩
theorem open_lists {D : DataW H} {p : List MemPlace} {A : Option Addr} {len cap : Nat} (h : DataW.Trod enc Try.prog w base spare held 22 (.slice A len cap) D p) : ∃ l : List (List S52), l.length = len ∧ len ≤ cap ∧ Kd.C (Kd.slice 52 k52) w A l.length l := by
  obtain ⟨fuel, hf⟩ := h
  obtain ⟨A', cap', l, h1, h2, h3⟩ := C_of_trod (Kd.slice 52 k52) Try.underlying22 (by kernel_rfl) (K_slice k52 Try.underlying28 (by kernel_rfl) K_task) hf
  simp only [Value.cells] at h1
  injection h1 with h1
  injection h1 with e1 e2 e3
  subst e1 e3
  exact ⟨l, e2.symm, by omega, h3⟩
end
end Go.Proofs.Ytmpeekkbmfbjeaa

/- stripes.Allocate, at every input. -/
import Derived.Test.YtlodlblkmnhaeaaAlcWalk
namespace Go.Proofs.Ytlodlblkmnhaeaa
open Go.RowKit Go.Lib Go.Proofs.Ytlodlblkmnhaeaa.P Go.Proofs.YtlodlblkmnhaeaaW.PrintWords

theorem alloc_any (a0 a1 a2 a3 a4 a5 : Int) (A : Option Addr) (c : Nat) (l : List S59) (code wd ge gc : Int) (w : World) (hl : Kd.C k59 w A l.length l) (hc : l.length ≤ c) (hb : bnd l = true) :
    Calls Try.prog 9 #[.agg #[.int .i64 a0, .int .i64 a1, .int .i64 a2, .int .i64 a3, .int .i64 a4, .int .i64 a5], .slice A l.length c, .int .i64 code, .int .i64 wd, .agg #[.int .i64 ge, .int .i64 gc]] w (AlcPost w (allocO a0 a1 a2 a3 a4 a5 l code wd ge gc)) := by
  by_cases h : badO a0 a1 a2 a3 a4 a5 code wd = true
  · have e : allocO a0 a1 a2 a3 a4 a5 l code wd ge gc = ([], 0, 0, 1) := by unfold allocO; rw [if_pos h]
    rw [e]
    exact alc_bad a0 a1 a2 a3 a4 a5 A l.length c code wd ge gc w h
  · have e : allocO a0 a1 a2 a3 a4 a5 l code wd ge gc = allocG l code wd (grpO a0 a1 a2 a3 a4 a5 wd) ge gc := by unfold allocO allocG; rw [if_neg h]; generalize roomAt l code (grpO a0 a1 a2 a3 a4 a5 wd) = rm; generalize freeAt l = fr; cases rm <;> cases fr <;> rfl
    rw [e]
    obtain ⟨R, hm, hR, hRL⟩ := rowsAt_of hl (by have := bnd_len hb; omega)
    have hb2 := h
    unfold badO at hb2
    simp only [Bool.or_eq_true, decide_eq_true_eq, not_or] at hb2
    obtain ⟨⟨⟨⟨h0, h1⟩, h2⟩, h3⟩, h5⟩ := hb2
    obtain ⟨hg0, hg1⟩ := grp_bounds a0 a1 a2 a3 a4 a5 wd
    exact callsIn_wide.1 (alc_in a0 a1 a2 a3 a4 a5 A l.length c code wd ge gc R l (grpO a0 a1 a2 a3 a4 a5 wd) w hR hm rfl hb hl hc (fun j hj => (hRL j hj).2) h0 h1 h2 h3 (by simpa using h5) hg0 hg1 (fun W => groups_any a0 a1 a2 a3 a4 a5 wd W))
end Go.Proofs.Ytlodlblkmnhaeaa
namespace Go.Proofs.Ytlodlblkmnhaeaa.P
open Go.RowKit Go.Proofs.YtlodlblkmnhaeaaW.PrintWords

def stripes_Allocate.f (a0_0 a0_1 a0_2 a0_3 a0_4 a0_5 : Int) (l1 : List S59) (a2 a3 a4_0 a4_1 : Int) : Option (List S59 × Int × Int × Int) := if bnd l1 = true then some (allocO a0_0 a0_1 a0_2 a0_3 a0_4 a0_5 l1 a2 a3 a4_0 a4_1) else none
theorem stripes_Allocate.calls (a0_0 a0_1 a0_2 a0_3 a0_4 a0_5 : Int) (A1 : Option Addr) (c1 : Nat) (l1 : List S59) (a2 a3 a4_0 a4_1 : Int) (r1 : List S59) (r2 r3 r4 : Int) (w : World) (hr1 : Kd.C k59 w A1 l1.length l1) (hc1 : l1.length ≤ c1) (h : stripes_Allocate.f a0_0 a0_1 a0_2 a0_3 a0_4 a0_5 l1 a2 a3 a4_0 a4_1 = some (r1, r2, r3, r4)) :
    Calls Try.prog 9 #[.agg #[.int .i64 a0_0, .int .i64 a0_1, .int .i64 a0_2, .int .i64 a0_3, .int .i64 a0_4, .int .i64 a0_5], .slice A1 l1.length c1, .int .i64 a2, .int .i64 a3, .agg #[.int .i64 a4_0, .int .i64 a4_1]] w fun e w' => ∃ v0_ : Value, e = .returned (.tuple #[v0_, .agg #[.int .i64 r2, .int .i64 r3], .int .i64 r4]) ∧ Kd.S k59 59 w' w.heap.size (fun k_ => (w.heap.size ≤ k_)) v0_ r1 ∧ Below w.heap.size w w' := by
  unfold stripes_Allocate.f at h
  by_cases hb : bnd l1 = true
  · rw [if_pos hb] at h
    have h2 := Option.some.inj h
    refine (alloc_any a0_0 a0_1 a0_2 a0_3 a0_4 a0_5 A1 c1 l1 a2 a3 a4_0 a4_1 w hr1 hc1 hb).mono ?_
    rintro e w' ⟨v, rfl, hS, hB⟩
    rw [h2] at hS ⊢
    exact ⟨v, rfl, hS, hB⟩
  · rw [if_neg hb] at h
    cases h
end Go.Proofs.Ytlodlblkmnhaeaa.P

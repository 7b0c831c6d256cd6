/- The walks of slices.Repeat at one free row, and of stripes.New. -/
import Derived.Test.YtlodlblkmnhaeaaInsert
import Derived.Test.YtlodlblkmnhaeaaChkWalk
import Derived.Laws.CopyOwn
namespace Go.Proofs.Ytlodlblkmnhaeaa
set_option linter.unusedVariables false
open Go.RowKit Go.Lib Go.Deep Go.Proofs.Ytlodlblkmnhaeaa.P Go.Proofs.YtlodlblkmnhaeaaW.PrintWords Go.Proofs.YtlodlblkmnhaeaaW.PrintLast Go.Proofs.YtlodlblkmnhaeaaW.PrintMore

theorem and_mask_u64 (n : Nat) (h : n < 4294967296) : bits .and .u64 (n : Int) 4294967295 = (n : Int) := by
  show IntKind.u64.wrap ((BitVec.ofInt 64 (n : Int) &&& BitVec.ofInt 64 (4294967295 : Int)).toNat : Int) = _
  have e : BitVec.ofInt 64 (n : Int) = BitVec.ofNat 64 n := by rw [BitVec.ofInt_natCast]
  have e2 : BitVec.ofInt 64 (4294967295 : Int) = BitVec.ofNat 64 4294967295 := rfl
  rw [e, e2, BitVec.toNat_and, BitVec.toNat_ofNat, BitVec.toNat_ofNat]
  have h1 : n % 2 ^ 64 = n := Nat.mod_eq_of_lt (by omega)
  have h2 : (4294967295 : Nat) % 2 ^ 64 = 2 ^ 32 - 1 := by decide
  rw [h1, h2, Nat.and_two_pow_sub_one_eq_mod, Nat.mod_eq_of_lt (by omega : n < 2 ^ 32)]
  unfold IntKind.wrap
  simp [IntKind.bits, IntKind.signed]
  omega

set_option maxHeartbeats 1000000 in
theorem mul_one_any (n : Nat) (h : n ≤ 65536) (w : World) : Calls Try.prog 42 #[.int .u64 1, .int .u64 n] w fun e w' => e = .returned (.tuple #[.int .u64 0, .int .u64 n]) ∧ w' = w := by
  have hb := and_mask_u64 n (by omega)
  have hb1 : bits .and .u64 1 4294967295 = 1 := and_mask_u64 1 (by omega)
  have hq : (n : Int) / 4294967296 = 0 := by omega
  go_enter Try.func42, Try.ntmps42
  go_wp2
  go_ret2
  exact ⟨rfl, rfl⟩

/-- m times the cells v. -/
def rp (v : List Value) : Nat → List Value
  | 0 => []
  | m + 1 => v ++ rp v m
theorem rp_len {v : List Value} (hv : v.length = 3) : ∀ m, (rp v m).length = m * 3
  | 0 => rfl
  | m + 1 => by rw [rp, List.length_append, rp_len hv m, hv]; omega
theorem rp_add {v : List Value} : ∀ m k, rp v (m + k) = rp v m ++ rp v k
  | 0, k => by simp [rp]
  | m + 1, k => by rw [Nat.succ_add, rp, rp, rp_add m k, List.append_assoc]
theorem rp_take {v : List Value} (hv : v.length = 3) {m N : Nat} (h : m ≤ N) : (rp v N).take (m * 3) = rp v m := by
  obtain ⟨k, rfl⟩ : ∃ k, N = m + k := ⟨N - m, by omega⟩
  rw [rp_add, List.take_left' (rp_len hv m)]
theorem rp_drop {v : List Value} (hv : v.length = 3) {m N : Nat} (h : m ≤ N) : (rp v N).drop (m * 3) = rp v (N - m) := by
  obtain ⟨k, rfl⟩ : ∃ k, N = m + k := ⟨N - m, by omega⟩
  rw [rp_add, List.drop_left' (rp_len hv m)]
  congr 1
  omega
theorem rp_get {v : List Value} (hv : v.length = 3) : ∀ (N t : Nat), t < N * 3 → (rp v N)[t]? = v[t % 3]?
  | 0, t, h => by omega
  | N + 1, t, h => by
    rw [rp]
    by_cases ht : t < 3
    · rw [List.getElem?_append_left (by omega), Nat.mod_eq_of_lt ht]
    · rw [List.getElem?_append_right (by omega), hv, rp_get hv N (t - 3) (by omega)]
      congr 1
      omega
theorem rp_ones {v : List Value} (hv : ∀ u ∈ v, u.oneCell' = true) : ∀ m, ∀ u ∈ rp v m, u.oneCell' = true
  | 0, u, h => by simp [rp] at h
  | m + 1, u, h => by
    rw [rp] at h
    rcases List.mem_append.1 h with h | h
    · exact hv u h
    · exact rp_ones hv m u h

/-- The cells of a free row, and of the zero row. -/
def rc3 : List Value := [.int .i64 (-1), .int .i64 0, .slice none 0 0]
def zc3 : List Value := [.int .i64 0, .int .i64 0, .slice none 0 0]
theorem rc3_ones : ∀ u ∈ rc3, u.oneCell' = true := by intro u hu; simp [rc3] at hu; rcases hu with rfl | rfl | rfl <;> rfl
/-- What the copies have made so far. -/
def repC (N m : Nat) : List Value := rp rc3 m ++ rp zc3 (N - m)
theorem repC_len {N m : Nat} (h : m ≤ N) : (repC N m).length = N * 3 := by
  unfold repC
  rw [List.length_append, rp_len rfl, rp_len rfl]; omega
theorem repC_step {N m k : Nat} (h : m + k ≤ N) : (repC N m).take (m * 3) ++ rp rc3 k ++ (repC N m).drop (m * 3 + (rp rc3 k).length) = repC N (m + k) := by
  unfold repC
  rw [List.take_left' (rp_len rfl m), rp_len rfl, ← Nat.add_mul, List.drop_append, rp_len rfl, List.drop_eq_nil_of_le (by rw [rp_len rfl]; omega), List.nil_append, show (m + k) * 3 - m * 3 = k * 3 by omega, rp_drop rfl (by omega), rp_add]
  congr 2
  omega
theorem made3 (N : Nat) : (madeCells (Value.agg #[.int .i64 0, .int .i64 0, .slice none 0 0]).cells (N * 3)).toList = repC N 0 := by
  have e : repC N 0 = rp zc3 N := by simp [repC, rp]
  rw [e]
  apply List.ext_getElem?
  intro t
  by_cases ht : t < N * 3
  · rw [rp_get rfl N t ht]
    unfold madeCells
    have h3 : t % 3 < 3 := Nat.mod_lt _ (by omega)
    obtain h | h | h : t % 3 = 0 ∨ t % 3 = 1 ∨ t % 3 = 2 := by omega
    all_goals simp [Value.cells, h, zc3, ht]
  · rw [List.getElem?_eq_none (by simp [madeCells]; omega), List.getElem?_eq_none (by rw [rp_len rfl]; omega)]

theorem copyR (w : World) (ty : TypeId) (g o dLen dCap : Nat) (a : Addr) (sLen sCap m : Nat) (cur : Array Value) (t : TypeId) (cs : List Value) (hm : Nat.min sLen dLen = m)
    (hg : w.heap[g]? = some (.cells cur t (0, 0))) (hn : cs.length = m * 3)
    (hsrc : ∀ j v, cs[j]? = some v → w.cell? (a.add j) = some v) (hfit : o + cs.length ≤ cur.size) (h1 : ∀ v ∈ cs, v.oneCell' = true) :
    (Builtin.copy_ #[25, 25] ty #[.slice (some ⟨g, o, none⟩) dLen dCap, .slice (some a) sLen sCap]).run Try.prog w =
      .ok (goInt m) (w.setRow g (cur.toList.take o ++ cs ++ cur.toList.drop (o + cs.length)).toArray) := by
  have hl := run_loadCells_list (P := Try.prog) w a cs hsrc
  have hst := run_storeCells_at Try.prog g o t cs 0 cur w hg (by simpa using hfit) h1
  obtain ⟨i0, hi0, hz0, hz1, hz2⟩ := info_parts info59
  have hmn : m * i0.size = cs.length := by rw [hz1, hn]
  simp [Builtin.copy_, run_underlying under25, Builtin.lenOf, Builtin.firstCells, sizeOf, typeInfo, hi0, hm, hmn, hl, hst]


/-- Behind m elements. -/
def RepAt (w wr : World) (g N m : Nat) : Prop := ∃ cur : Array Value, wr.heap[g]? = some (.cells cur 59 (0, 0)) ∧ cur.toList = repC N m ∧ Below w.heap.size w wr

theorem rep_step {w wr w2 : World} {g N m k : Nat} (h : RepAt w wr g N m) (hg : w.heap.size ≤ g) (hk : m + k ≤ N) (cur : Array Value) (hc : wr.heap[g]? = some (.cells cur 59 (0, 0)))
    (hw : w2 = wr.drew.setRow g (cur.toList.take (m * 3) ++ rp rc3 k ++ cur.toList.drop (m * 3 + (rp rc3 k).length)).toArray) : RepAt w w2 g N (m + k) := by
  obtain ⟨cur', h1, h2, h3⟩ := h
  rw [h1] at hc
  injection hc with hc
  injection hc with hc _ _
  subst hc
  refine ⟨(cur'.toList.take (m * 3) ++ rp rc3 k ++ cur'.toList.drop (m * 3 + (rp rc3 k).length)).toArray, by rw [hw]; exact setRow_heap wr.drew g cur' _ 59 _ h1, by rw [List.toList_toArray, h2]; exact repC_step hk, ?_⟩
  rw [hw]
  have hgr := grown_row wr.drew g (cur'.toList.take (m * 3) ++ rp rc3 k ++ cur'.toList.drop (m * 3 + (rp rc3 k).length)).toArray
  exact (pw_below_drewN h3 1).grown hgr h3.size (fun q hq => by cases hq; exact hg)

theorem rep_copy {w wr : World} {g N m : Nat} (h : RepAt w wr g N m) (hm : m < N) (hm1 : 1 ≤ m) : ∃ cur w2, wr.heap[g]? = some (.cells cur 59 (0, 0)) ∧ w2 = wr.drew.setRow g (cur.toList.take (m * 3) ++ rp rc3 (Nat.min m (N - m)) ++ cur.toList.drop (m * 3 + (rp rc3 (Nat.min m (N - m))).length)).toArray ∧
    ∀ ty dc sc, (Builtin.copy_ #[25, 25] ty #[.slice (some ⟨g, m * 3, none⟩) (N - m) dc, .slice (some ⟨g, 0, none⟩) m sc]).run Try.prog wr.drew = .ok (goInt ((Nat.min m (N - m) : Nat) : Int)) w2 := by
  obtain ⟨cur, h1, h2, h3⟩ := h
  refine ⟨cur, _, h1, rfl, fun ty dc sc => ?_⟩
  have hcs : cur.size = N * 3 := by rw [← Array.length_toList, h2, repC_len (by omega)]
  have hmin : Nat.min m (N - m) ≤ m := Nat.min_le_left _ _
  have hmin2 : Nat.min m (N - m) ≤ N - m := Nat.min_le_right _ _
  refine copyR wr.drew ty g (m * 3) (N - m) dc ⟨g, 0, none⟩ m sc (Nat.min m (N - m)) cur 59 (rp rc3 (Nat.min m (N - m))) rfl h1 (rp_len rfl _) (fun j v hj => ?_) (by rw [rp_len rfl, hcs]; omega) (rp_ones rc3_ones _)
  have hjl := (List.getElem?_eq_some_iff.1 hj).1
  rw [rp_len rfl] at hjl
  rw [add_plain]
  show wr.cell? _ = _
  rw [blk_cell h1, ← Array.getElem?_toList, h2]
  unfold repC
  rw [List.getElem?_append_left (by rw [rp_len rfl]; omega), rp_get rfl _ _ (by omega), ← hj, rp_get rfl _ _ hjl]

set_option maxHeartbeats 4000000 in
theorem repeat_any (N b c : Nat) (w : World) (hN : 1 ≤ N) (hN2 : N ≤ 65536) (hb : w.heap[b]? = some (.cells rc3.toArray 59 (0, 0))) :
    Calls Try.prog 29 #[.slice (some ⟨b, 0, none⟩) 1 c, .int .i64 N] w fun e w' => e = .returned (.slice (some ⟨w.heap.size, 0, none⟩) N N) ∧ RepAt w w' w.heap.size N N := by
  have hn0 : ¬ (N : Int) < 0 := by omega
  have hbig : ¬ (9223372036854775807 : Int) < (N : Int) := by omega
  obtain ⟨i0, hi0, hz0, hz1, hz2⟩ := info_parts info59
  have hmk : ∀ W : World, (Instr.makeSlice 25 (.int .i64 (N : Int)) (.int .i64 (N : Int))).run Try.prog W = .ok (.slice (some ⟨W.heap.size, 0, none⟩) N N) (W.alloc (.cells (madeCells (Value.agg #[.int .i64 0, .int .i64 0, .slice none 0 0]).cells (N * 3)) 59)) := fun W => by
    have hr := run_make (P := Try.prog) W 25 59 i0 _ under25 hi0 hz0 .i64 .i64 (N : Int) (N : Int) (by omega) (by omega)
      (by
        have h3 : ((i0.bytes * N : Nat) : Int) ≤ 281474976710656 := by rw [hz2, Nat.mul_comm]; omega
        rwa [Int.natCast_mul] at h3) (by omega)
    simp only [Int.toNat_natCast] at hr
    rw [hz1] at hr
    exact hr
  obtain ⟨g, hg⟩ : ∃ g, g = w.heap.size := ⟨_, rfl⟩
  obtain ⟨w1, hw1⟩ : ∃ w1, w1 = w.alloc (.cells (madeCells (Value.agg #[.int .i64 0, .int .i64 0, .slice none 0 0]).cells (N * 3)) 59) := ⟨_, rfl⟩
  have hh1 : w1.heap[g]? = some (.cells (madeCells (Value.agg #[.int .i64 0, .int .i64 0, .slice none 0 0]).cells (N * 3)) 59 (0, 0)) := by rw [hw1, hg]; exact heap_alloc_new w _
  have hb1 : w1.heap[b]? = some (.cells rc3.toArray 59 (0, 0)) := by rw [hw1]; exact blk_alloc hb _
  have hs1 : (madeCells (Value.agg #[.int .i64 0, .int .i64 0, .slice none 0 0]).cells (N * 3)).size = N * 3 := by rw [← Array.length_toList, made3, repC_len (by omega)]
  obtain ⟨w2, hw2⟩ : ∃ w2, w2 = w1.setRow g ((madeCells (Value.agg #[.int .i64 0, .int .i64 0, .slice none 0 0]).cells (N * 3)).toList.take 0 ++ rc3 ++ (madeCells (Value.agg #[.int .i64 0, .int .i64 0, .slice none 0 0]).cells (N * 3)).toList.drop (0 + rc3.length)).toArray := ⟨_, rfl⟩
  have hcp1 : ∀ ty dc, (Builtin.copy_ #[25, 25] ty #[.slice (some ⟨g, 0, none⟩) N dc, .slice (some ⟨b, 0, none⟩) 1 c]).run Try.prog w1 = .ok (goInt ((1 : Nat) : Int)) w2 := fun ty dc => by
    rw [hw2]
    exact copyR w1 ty g 0 N dc ⟨b, 0, none⟩ 1 c 1 _ 59 rc3 (by simp only [Nat.min_def]; split <;> omega) hh1 rfl (fun j v hj => by rw [add_plain, blk_cell hb1]; simpa using hj) (by rw [hs1]; show 0 + 3 ≤ N * 3; omega) rc3_ones
  have hat : RepAt w w2 g N 1 := by
    refine ⟨_, by rw [hw2]; exact setRow_heap _ g _ _ 59 _ hh1, ?_, ?_⟩
    · rw [List.toList_toArray, made3]
      have := repC_step (N := N) (m := 0) (k := 1) (by omega)
      simpa [rp] using this
    · rw [hw2]
      refine Below.grown (w := w1) ?_ (grown_row w1 g _) (by rw [hw1]; simp) (fun q hq => by cases hq; omega)
      rw [hw1]
      exact below_alloc (Below.refl _ _) _
  have HAT : Aside _ := hat
  have HG := Lib.hid hg
  have hmk1 : (Instr.makeSlice 25 (.int .i64 (N : Int)) (.int .i64 (N : Int))).run Try.prog w = .ok (.slice (some ⟨g, 0, none⟩) N N) w1 := by rw [hmk w, hw1, hg]
  obtain ⟨Q, hQ⟩ : ∃ Q : Ending → World → Prop, Q = fun e w' => e = .returned (.slice (some ⟨w.heap.size, 0, none⟩) N N) ∧ RepAt w w' w.heap.size N N := ⟨_, rfl⟩
  rw [← hQ]
  have HQ := Lib.hid hQ
  clear hmk hi0 hz0 hz1 hz2 hat hw2 hs1 hb1 hh1 hw1 hb hg hQ
  go_enter Try.func29, Try.ntmps29
  go_wp2_with (first | (go_at_call 42; refine (mul_one_any N hN2 _).mono ?_; rintro e w' ⟨rfl, hw⟩; rw [hw]; clear hw) | (at_builtin; refine wpList_copy_runI _ rfl _ _ 25 25 rfl _ _ rfl rfl (hcp1 _ _) ?_))
  have bN : (N : Int) ≤ 65536 := by omega
  have hgw : w.heap.size ≤ g := by have := HG.out; omega
  go_loopg [8] N (fun g1 vm wr => ∃ m : Nat, vm = .int .i64 m ∧ 1 ≤ m ∧ m ≤ N ∧ N - m ≤ g1 ∧ Aside (RepAt w wr g N m))
  case atStart => exact ⟨1, rfl, by omega, by omega, by omega, HAT⟩
  case round =>
    clear HAT
    obtain ⟨m, rfl, hm1, hmN, hg1, HR⟩ := hrel
    by_cases hlt : m < N
    · have hltz : (m : Int) < (N : Int) := by omega
      have hm0 : (0 : Int) ≤ (m : Int) := by omega
      have hmle : (m : Int) ≤ (N : Int) := by omega
      have hne : ¬ N = m := by omega
      have mixed : Try.prog.follows .mixedOrders = true := by kernel_rfl
      obtain ⟨cur, w3, hc, hw3, hcp⟩ := rep_copy HR.out hlt hm1
      obtain ⟨k, hk⟩ : ∃ k, k = Nat.min m (N - m) := ⟨_, rfl⟩
      rw [← hk] at hw3 hcp
      have hk0 : k ≤ N - m := by rw [hk]; exact Nat.min_le_right _ _
      have hk2 : m + k ≤ N := by omega
      have hk1 : 1 ≤ k := by rw [hk]; exact Nat.le_min.2 ⟨hm1, by omega⟩
      have hst : RepAt w w3 g N (m + k) := rep_step HR.out hgw hk2 cur hc hw3
      have HST : Aside _ := hst
      obtain ⟨i0, hi0, hz0, hz1, hz2⟩ := info_parts info59
      have hcut1 : ∀ W : World, (Instr.slice 25 (.slice (some ⟨g, 0, none⟩) N N) (some (.int .i64 (m : Int))) none none).run Try.prog W = .ok (.slice (some ⟨g, m * 3, none⟩) (N - m) (N - m)) W := fun W => by
        rw [cut_from 25 59 .i64 under25 hi0 3 hz1 (some ⟨g, 0, none⟩) N N m (by omega) (by omega) W, Int.toNat_natCast, if_neg (by omega), Option.map_some, add_plain]
      have hcut2 : ∀ W : World, (Instr.slice 25 (.slice (some ⟨g, 0, none⟩) N N) none (some (.int .i64 (m : Int))) none).run Try.prog W = .ok (.slice (some ⟨g, 0, none⟩) m N) W := fun W => by
        rw [cut_to 25 59 .i64 under25 hi0 (some ⟨g, 0, none⟩) N N m (by omega) (by omega) (by omega) W, Int.toNat_natCast]
      clear hk hw3 hc hst hi0 hz0 hz1 hz2 HR
      go_wp2_with fail
      have hwk : IntKind.i64.wrap ((m : Int) + (k : Int)) = (m : Int) + (k : Int) := by rw [IntKind.wrap_i64]; omega
      go_region_law_o (refine step_copy_runI rfl _ _ 25 25 rfl (.slice (some ⟨g, m * 3, none⟩) (N - m) (N - m)) (.slice (some ⟨g, 0, none⟩) m N) (by simp [Act.eval, Act.put]) (by simp [Act.eval, Act.put]) (hcp _ _ _) ?_)
      go_wp2_with fail
      go_roundg (N - (m + k))
      case measure => omega
      case rel => exact ⟨m + k, by congr 1, by omega, by omega, by omega, HST⟩
    · obtain rfl : m = N := by omega
      have hltz : ¬ (m : Int) < (m : Int) := by omega
      go_wp2_with fail
      rw [HQ.out]
      have e := HG.out
      subst e
      exact ⟨rfl, HR.out⟩


/-- A free row. -/
def freeRow : S59 := ⟨-1, 0, []⟩
theorem rep_S {w w' : World} {g N : Nat} (h : RepAt w w' g N N) (hg : w.heap.size ≤ g) (hN : N ≤ 65536) : Kd.S k59 59 w' w.heap.size (fun k => w.heap.size ≤ k) (.slice (some ⟨g, 0, none⟩) N N) (List.replicate N freeRow) := by
  obtain ⟨cur, h1, h2, h3⟩ := h
  have e : repC N N = rp rc3 N := by simp [repC, rp]
  rw [e] at h2
  have hl : cur.toList.length = N * 3 := by rw [h2, rp_len rfl]
  refine Kd.S_bare ⟨fun k hk => ?_, cur.toList, ⟨by rw [List.length_replicate]; exact hl, .inr ⟨g, N, cur, by rw [List.length_replicate], hg, h1, by rw [List.length_replicate]; exact Nat.le_refl _, by unfold maxLen; omega, by rw [← Array.length_toList]; exact hl, by rw [List.length_replicate]; exact List.take_of_length_le (by rw [hl]; exact Nat.le_refl _)⟩⟩, by rw [List.length_replicate]; exact hl, fun j x hj => ?_⟩
  · have : k = g := by simpa [Value.ownBlock] using hk.symm
    omega
  · have hjl := (List.getElem?_eq_some_iff.1 hj).1
    rw [List.length_replicate] at hjl
    have hx : x = freeRow := by
      have := List.mem_of_getElem? hj
      exact (List.mem_replicate.1 this).2
    subst hx
    have e3 : (cur.toList.drop (j * 3)).take 3 = rc3 := by
      rw [h2, rp_drop rfl (by omega), show N - j = (N - j - 1) + 1 by omega, rp, List.take_left' (show rc3.length = 3 from rfl)]
    show k59.M _ _ _ freeRow ((cur.toList.drop (j * 3)).take 3)
    rw [e3]
    exact k59_mkM _ _ _ freeRow (Kd.R_nil _ _ _ _ _)

/-- What New returns. -/
def newO (a0 a1 a2 a3 a4 a5 : Int) : List S59 × Int := if chk a0 a1 a2 a3 a4 a5 = 0 then (List.replicate a2.toNat freeRow, 0) else ([], 1)

theorem chk_rows {a0 a1 a2 a3 a4 a5 : Int} (h : chk a0 a1 a2 a3 a4 a5 = 0) : 1 ≤ a2 ∧ a2 ≤ 4096 := by
  unfold chk at h
  split at h
  · next h2 => exact wi_bounds h2.2.2.1
  · cases h

set_option maxHeartbeats 4000000 in
theorem new_bad (a0 a1 a2 a3 a4 a5 : Int) (w : World) (h : ¬ chk a0 a1 a2 a3 a4 a5 = 0) :
    Calls Try.prog 13 #[.agg #[.int .i64 a0, .int .i64 a1, .int .i64 a2, .int .i64 a3, .int .i64 a4, .int .i64 a5]] w fun e w' => e = .returned (.tuple #[.slice none 0 0, .int .i64 1]) ∧ Below w.heap.size w w' := by
  have hc1 : chk a0 a1 a2 a3 a4 a5 = 1 := by
    unfold chk at h ⊢
    split
    · next h2 => rw [if_pos h2] at h; exact absurd rfl h
    · rfl
  have CK : Aside (∀ W, Calls Try.prog 28 #[.agg #[.int .i64 a0, .int .i64 a1, .int .i64 a2, .int .i64 a3, .int .i64 a4, .int .i64 a5]] W fun e w' => e = .returned (.int .i64 1) ∧ Below W.heap.size W w') := fun W => by
    have := check_any a0 a1 a2 a3 a4 a5 W
    rwa [hc1] at this
  have hu := Try.underlying23
  clear h hc1
  go_enter Try.func13, Try.ntmps13
  go_wp2_with (go_at_call 28; refine (CK.out _).mono ?_; rintro e w1 ⟨rfl, hb⟩; have HB : Aside _ := hb; clear hb)
  go_ret2
  exact ⟨rfl, below_then (below_alloc (Below.refl _ _) _) (by simp) HB.out⟩

theorem repeat_new (N : Nat) (w1 : World) (hN : 1 ≤ N) (hN2 : N ≤ 65536) : Calls Try.prog 29 #[.slice (some ⟨w1.heap.size, 0, none⟩) 1 1, .int .i64 N] (w1.alloc (.cells #[.int .i64 (-1), .int .i64 0, .slice none 0 0] 59)) fun e w' => e = .returned (.slice (some ⟨w1.heap.size + 1, 0, none⟩) N N) ∧ RepAt (w1.alloc (.cells #[.int .i64 (-1), .int .i64 0, .slice none 0 0] 59)) w' (w1.heap.size + 1) N N := by
  have h := repeat_any N w1.heap.size 1 (w1.alloc (.cells #[.int .i64 (-1), .int .i64 0, .slice none 0 0] 59)) hN hN2 (heap_alloc_new w1 _)
  rw [World.size_alloc] at h
  exact h

set_option maxHeartbeats 4000000 in
theorem new_ok (a0 a1 : Int) (N : Nat) (a3 a4 a5 : Int) (w : World) (h : chk a0 a1 (N : Int) a3 a4 a5 = 0) :
    Calls Try.prog 13 #[.agg #[.int .i64 a0, .int .i64 a1, .int .i64 (N : Int), .int .i64 a3, .int .i64 a4, .int .i64 a5]] w fun e w' => ∃ v, e = .returned (.tuple #[v, .int .i64 0]) ∧ Kd.S k59 59 w' w.heap.size (fun k => w.heap.size ≤ k) v (List.replicate N freeRow) ∧ Below w.heap.size w w' := by
  obtain ⟨hN1, hN2⟩ := chk_rows h
  have CK : Aside (∀ W, Calls Try.prog 28 #[.agg #[.int .i64 a0, .int .i64 a1, .int .i64 (N : Int), .int .i64 a3, .int .i64 a4, .int .i64 a5]] W fun e w' => e = .returned (.int .i64 0) ∧ Below W.heap.size W w') := fun W => by
    have := check_any a0 a1 (N : Int) a3 a4 a5 W
    rwa [h] at this
  have hu := Try.underlying23
  have hu59 := Try.underlying59
  have hNa : 1 ≤ N := by omega
  have hNb : N ≤ 65536 := by omega
  clear h hN1 hN2
  go_enter Try.func13, Try.ntmps13
  go_wp2_with (first
    | (go_at_call 28; refine (CK.out _).mono ?_; rintro e w1 ⟨rfl, hb⟩; have HB : Aside _ := hb; have hst : w1.cell? ⟨w.heap.size, 2, none⟩ = some (.int .i64 (N : Int)) := pw_cell_below hb (by rw [World.cell?_alloc_at (w := w) _ _ w.heap.size 2 rfl]; rfl); have hst2 : (w1.alloc (.cells #[.int .i64 (-1), .int .i64 0, .slice none 0 0] 59)).cell? ⟨w.heap.size, 2, none⟩ = some (.int .i64 (N : Int)) := Lib.cell?_alloc_some _ hst; clear hb)
    | (go_at_call 29; refine (repeat_new N w1 hNa hNb).mono ?_; rintro e w2 ⟨rfl, hr⟩; have HR : Aside (RepAt (w1.alloc (.cells #[.int .i64 (-1), .int .i64 0, .slice none 0 0] 59)) w2 (w1.heap.size + 1) N N) := hr; clear hr))
  go_ret2
  have h1 := rep_S HR.out (by simp) hNb
  have hb1 : Below w.heap.size w w1 := below_then (below_alloc (Below.refl _ _) _) (by simp) HB.out
  have hsz : w.heap.size ≤ (w1.alloc (.cells #[.int .i64 (-1), .int .i64 0, .slice none 0 0] 59)).heap.size := by have := hb1.size; simp; omega
  obtain ⟨_, _, _, hb2⟩ := HR.out
  exact ⟨.slice (some ⟨w1.heap.size + 1, 0, none⟩) N N, rfl, Kd.S_mono (Kd.S_lower h1 hsz) (fun q hq => Nat.le_trans hsz hq), below_then (below_alloc hb1 _) hsz hb2⟩

end Go.Proofs.Ytlodlblkmnhaeaa
namespace Go.Proofs.Ytlodlblkmnhaeaa.P
open Go.RowKit Go.Proofs.YtlodlblkmnhaeaaW.PrintWords

def stripes_New.f (a0 a1 a2 a3 a4 a5 : Int) : Option (List S59 × Int) := some (newO a0 a1 a2 a3 a4 a5)
theorem stripes_New.calls (a0 a1 a2 a3 a4 a5 : Int) (r1 : List S59) (r2 : Int) (w : World) (h : stripes_New.f a0 a1 a2 a3 a4 a5 = some (r1, r2)) :
    Calls Try.prog 13 #[.agg #[.int .i64 a0, .int .i64 a1, .int .i64 a2, .int .i64 a3, .int .i64 a4, .int .i64 a5]] w fun e w' => ∃ v0_ : Value, e = .returned (.tuple #[v0_, .int .i64 r2]) ∧ Kd.S k59 59 w' w.heap.size (fun k_ => (w.heap.size ≤ k_)) v0_ r1 ∧ Below w.heap.size w w' := by
  have h2 := Option.some.inj h
  unfold newO at h2
  by_cases hc : chk a0 a1 a2 a3 a4 a5 = 0
  · rw [if_pos hc] at h2
    injection h2 with h3 h4
    subst h3 h4
    obtain ⟨N, rfl⟩ : ∃ N : Nat, a2 = (N : Int) := ⟨a2.toNat, by have := (chk_rows hc).1; omega⟩
    rw [Int.toNat_natCast]
    exact new_ok a0 a1 N a3 a4 a5 w hc
  · rw [if_neg hc] at h2
    injection h2 with h3 h4
    subst h3 h4
    refine (new_bad a0 a1 a2 a3 a4 a5 w hc).mono ?_
    rintro e w' ⟨rfl, hb⟩
    exact ⟨_, rfl, Kd.S_nil _ _ _ _ _, hb⟩
end Go.Proofs.Ytlodlblkmnhaeaa.P

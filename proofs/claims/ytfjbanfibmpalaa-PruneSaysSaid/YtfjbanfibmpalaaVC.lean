/- VC -/
import Derived.Test.YtfjbanfibmpalaaVB
import Derived.Test.YtfjbanfibmpalaaVA
import Derived.Deep.RegionHeld3

/- Contracts: the machine's step. -/
set_option linter.unusedVariables false
set_option linter.unusedSimpArgs false
namespace Go.Proofs.Ytfjbanfibmpalaa
open Go.RowKit Go.Shelf

/-- The rows of a step. -/
structure StepRows (N : Nat) (y : Insn) (d : Dt) (pc q : Int) (r s : Rg) (W : World) : Prop where
  x : W.heap[N]? = some (.cells #[.int .u16 y.code, .int .u8 y.jt, .int .u8 y.jf, .int .u32 y.k] 36 (0, 0))
  d : W.heap[N + 1]? = some (.cells #[.int .u32 d.nr, .int .u32 d.arch, .int .u64 d.ip, .int .u64 d.a0, .int .u64 d.a1, .int .u64 d.a2, .int .u64 d.a3, .int .u64 d.a4, .int .u64 d.a5] 47 (0, 0))
  m : W.heap[N + 2]? = some (.cells (vmA pc r) 50 (0, 0))
  o : W.heap[N + 3]? = some (.cells #[.int .i64 0, .int .u32 0, .int .u32 0, .int .u32 0, .int .u32 0, .int .u32 0, .int .u32 0, .int .u32 0, .int .u32 0, .int .u32 0, .int .u32 0, .int .u32 0, .int .u32 0, .int .u32 0, .int .u32 0, .int .u32 0, .int .u32 0, .int .u32 0, .int .u32 0] 50 (0, 0))
  n : W.heap[N + 4]? = some (.cells (vmA q s) 50 (0, 0))
  sz : N + 5 ≤ W.heap.size

theorem StepRows.below {N : Nat} {y : Insn} {d : Dt} {pc q : Int} {r s : Rg} {W W' : World} (h : StepRows N y d pc q r s W) (hb : Below W.heap.size W W') : StepRows N y d pc q r s W' :=
  have hs := h.sz
  ⟨(hb.block _ (by omega)).trans h.x, (hb.block _ (by omega)).trans h.d, (hb.block _ (by omega)).trans h.m, (hb.block _ (by omega)).trans h.o, (hb.block _ (by omega)).trans h.n, Nat.le_trans hs hb.size⟩
theorem StepRows.set {N : Nat} {y : Insn} {d : Dt} {pc q : Int} {r s : Rg} {W : World} (h : StepRows N y d pc q r s W) (j : Nat) (v : Value) {q' : Int} {s' : Rg} (hv : (vmA q s).setIfInBounds j v = vmA q' s') : StepRows N y d pc q' r s' (W.setCell ⟨N + 4, j, none⟩ v) := by
  refine ⟨(Below.heap_setCell _ _ _ _ (by show N ≠ N + 4; omega)).trans h.x, (Below.heap_setCell _ _ _ _ (by show N + 1 ≠ N + 4; omega)).trans h.d, (Below.heap_setCell _ _ _ _ (by show N + 2 ≠ N + 4; omega)).trans h.m, (Below.heap_setCell _ _ _ _ (by show N + 3 ≠ N + 4; omega)).trans h.o, ?_, by simpa using h.sz⟩
  rw [← hv]
  exact heap_setCell_same W (N + 4) j _ _ _ h.n

theorem StepRows.facts {N : Nat} {y : Insn} {d : Dt} {pc q : Int} {r s : Rg} {W : World} (h : StepRows N y d pc q r s W) :
    W.cell? ⟨N, 0, none⟩ = some (.int .u16 y.code) ∧ W.cell? ⟨N, 1, none⟩ = some (.int .u8 y.jt) ∧ W.cell? ⟨N, 2, none⟩ = some (.int .u8 y.jf) ∧ W.cell? ⟨N, 3, none⟩ = some (.int .u32 y.k) ∧
    W.cell? ⟨N + 4, 0, none⟩ = some (.int .i64 q) ∧ W.cell? ⟨N + 2, 0, none⟩ = some (.int .i64 pc) ∧ W.cell? ⟨N + 2, 1, none⟩ = some (.int .u32 r.a) ∧ W.cell? ⟨N + 2, 2, none⟩ = some (.int .u32 r.x) ∧ (∀ j, W.frozen? ⟨N + 4, j, none⟩ = false) ∧ N + 4 < W.heap.size := by
  obtain ⟨h1, h2, h3, h4, h5, h6⟩ := h
  refine ⟨cell_of_row _ _ _ _ _ _ h1, cell_of_row _ _ _ _ _ _ h1, cell_of_row _ _ _ _ _ _ h1, cell_of_row _ _ _ _ _ _ h1, (cell_of_row _ _ _ _ _ _ h5).trans (vmA_0 _ _), (cell_of_row _ _ _ _ _ _ h3).trans (vmA_0 _ _), (cell_of_row _ _ _ _ _ _ h3).trans (vmA_1 _ _), (cell_of_row _ _ _ _ _ _ h3).trans (vmA_2 _ _), fun j => by simp [World.frozen?, h5], h6⟩
theorem heap4 (w : World) (o0 o1 o2 o3 : Obj) : ((((w.alloc o0).alloc o1).alloc o2).alloc o3).heap[w.heap.size + 2]? = some o2 ∧ ((((w.alloc o0).alloc o1).alloc o2).alloc o3).heap[w.heap.size + 3]? = some o3 := by
  have h3 := heap_alloc_new (((w.alloc o0).alloc o1).alloc o2) o3
  have h2 := heap_alloc_new ((w.alloc o0).alloc o1) o2
  simp only [World.size_alloc] at h2 h3
  exact ⟨(Below.heap_alloc _ _ _ (by simp)).trans h2, h3⟩
theorem heap5 (w : World) (o0 o1 o2 o3 o4 : Obj) : (((((w.alloc o0).alloc o1).alloc o2).alloc o3).alloc o4).heap[w.heap.size]? = some o0 ∧ (((((w.alloc o0).alloc o1).alloc o2).alloc o3).alloc o4).heap[w.heap.size + 1]? = some o1 ∧
    (((((w.alloc o0).alloc o1).alloc o2).alloc o3).alloc o4).heap[w.heap.size + 2]? = some o2 ∧ (((((w.alloc o0).alloc o1).alloc o2).alloc o3).alloc o4).heap[w.heap.size + 3]? = some o3 ∧ (((((w.alloc o0).alloc o1).alloc o2).alloc o3).alloc o4).heap[w.heap.size + 4]? = some o4 := by
  have h4 := heap_alloc_new ((((w.alloc o0).alloc o1).alloc o2).alloc o3) o4
  have h1 := heap_alloc_new (w.alloc o0) o1
  simp only [World.size_alloc] at h1 h4
  have h := heap4 w o0 o1 o2 o3
  refine ⟨?_, ?_, (Below.heap_alloc _ _ _ (by simp)).trans h.1, (Below.heap_alloc _ _ _ (by simp)).trans h.2, h4⟩
  · exact (Below.heap_alloc _ _ _ (by simp <;> omega)).trans ((Below.heap_alloc _ _ _ (by simp <;> omega)).trans ((Below.heap_alloc _ _ _ (by simp <;> omega)).trans ((Below.heap_alloc _ _ _ (by simp)).trans (heap_alloc_new w o0))))
  · exact (Below.heap_alloc _ _ _ (by simp <;> omega)).trans ((Below.heap_alloc _ _ _ (by simp <;> omega)).trans ((Below.heap_alloc _ _ _ (by simp)).trans h1))
theorem row5 (w : World) (o0 o1 o2 o3 : Obj) (c c' : Array Value) (t : TypeId) : (((((w.alloc o0).alloc o1).alloc o2).alloc o3).alloc (.cells c t)).setRow (w.heap.size + 4) c' = ((((w.alloc o0).alloc o1).alloc o2).alloc o3).alloc (.cells c' t) := by
  have h : ((((w.alloc o0).alloc o1).alloc o2).alloc o3).heap.size = w.heap.size + 4 := by simp
  rw [← h]
  exact World.setRow_alloc_new _ _ _ _

theorem rows5 (w : World) (y : Insn) (d : Dt) (pc : Int) (r : Rg) : StepRows w.heap.size y d pc pc r r (((((w.alloc (.cells #[.int .u16 y.code, .int .u8 y.jt, .int .u8 y.jf, .int .u32 y.k] 36)).alloc (.cells #[.int .u32 d.nr, .int .u32 d.arch, .int .u64 d.ip, .int .u64 d.a0, .int .u64 d.a1, .int .u64 d.a2, .int .u64 d.a3, .int .u64 d.a4, .int .u64 d.a5] 47)).alloc (.cells (vmA pc r) 50)).alloc (.cells #[.int .i64 0, .int .u32 0, .int .u32 0, .int .u32 0, .int .u32 0, .int .u32 0, .int .u32 0, .int .u32 0, .int .u32 0, .int .u32 0, .int .u32 0, .int .u32 0, .int .u32 0, .int .u32 0, .int .u32 0, .int .u32 0, .int .u32 0, .int .u32 0, .int .u32 0] 50)).alloc (.cells (vmA pc r) 50)) :=
  have h := heap5 w (.cells #[.int .u16 y.code, .int .u8 y.jt, .int .u8 y.jf, .int .u32 y.k] 36) (.cells #[.int .u32 d.nr, .int .u32 d.arch, .int .u64 d.ip, .int .u64 d.a0, .int .u64 d.a1, .int .u64 d.a2, .int .u64 d.a3, .int .u64 d.a4, .int .u64 d.a5] 47) (.cells (vmA pc r) 50) (.cells #[.int .i64 0, .int .u32 0, .int .u32 0, .int .u32 0, .int .u32 0, .int .u32 0, .int .u32 0, .int .u32 0, .int .u32 0, .int .u32 0, .int .u32 0, .int .u32 0, .int .u32 0, .int .u32 0, .int .u32 0, .int .u32 0, .int .u32 0, .int .u32 0, .int .u32 0] 50) (.cells (vmA pc r) 50)
  ⟨h.1, h.2.1, h.2.2.1, h.2.2.2.1, h.2.2.2.2, by simp⟩

set_option maxRecDepth 100000 in
set_option maxHeartbeats 1000000 in
theorem step_6k (y : Insn) (hy : y.Ok) (d : Dt) (hd : d.Ok) (pc : Int) (hp1 : 0 ≤ pc) (hp2 : pc ≤ 1000000) (r : Rg) (hr : r.Ok) (hc : y.code % 8 = 6) (hb : y.code / 16 % 2 = 0) (w : World) :
    Calls Try.prog 68 #[(Value.agg #[.int .u16 y.code, .int .u8 y.jt, .int .u8 y.jf, .int .u32 y.k]), (Value.agg #[.int .u32 d.nr, .int .u32 d.arch, .int .u64 d.ip, .int .u64 d.a0, .int .u64 d.a1, .int .u64 d.a2, .int .u64 d.a3, .int .u64 d.a4, .int .u64 d.a5]), .agg (vmA pc r)] w fun e w' => e = .returned (stepV y (datL d) pc r) ∧ Below w.heap.size w w' := by
  have HR := Lib.hid hr
  have HI := Lib.hid (fun q (s : Rg) (h : s.Ok) => info_vm q s h)
  have HY := Lib.hid hy
  have HDt := Lib.hid hd
  have m8 := u16_8 y.code hy.code
  have m7 := u16_7 y.code hy.code
  have c7 : bits .and .u16 (y.code : Int) 7 = 6 := by rw [m7, hc]; rfl
  have c16 : bits .and .u16 (y.code : Int) 16 = 0 := by rw [u16_16 y.code hy.code, hb]; rfl
  have HV := Lib.hid (show stepV y (datL d) pc r = .tuple #[.agg (vmA pc r), .int .u32 y.k, .bool true] by
    unfold stepV endsL; rw [hc, hb]; rfl)
  clear m7 hc hb
  have hp3 : -9223372036854775808 ≤ pc + 1 := by omega
  have hp4 : pc + 1 ≤ 9223372036854775807 := by omega
  have HL := Lib.hid (show ((((w.alloc (.cells #[.int .u16 y.code, .int .u8 y.jt, .int .u8 y.jf, .int .u32 y.k] 36)).alloc (.cells #[.int .u32 d.nr, .int .u32 d.arch, .int .u64 d.ip, .int .u64 d.a0, .int .u64 d.a1, .int .u64 d.a2, .int .u64 d.a3, .int .u64 d.a4, .int .u64 d.a5] 47)).alloc (.cells (vmA pc r) 50)).alloc (.cells #[.int .i64 0, .int .u32 0, .int .u32 0, .int .u32 0, .int .u32 0, .int .u32 0, .int .u32 0, .int .u32 0, .int .u32 0, .int .u32 0, .int .u32 0, .int .u32 0, .int .u32 0, .int .u32 0, .int .u32 0, .int .u32 0, .int .u32 0, .int .u32 0, .int .u32 0] 50)).heap[w.heap.size + 2]? = some (.cells (vmA pc r) 50 (0, 0)) from (heap4 w _ _ _ _).1)
  have HZ := Lib.hid (show (((((w.alloc (.cells #[.int .u16 y.code, .int .u8 y.jt, .int .u8 y.jf, .int .u32 y.k] 36)).alloc (.cells #[.int .u32 d.nr, .int .u32 d.arch, .int .u64 d.ip, .int .u64 d.a0, .int .u64 d.a1, .int .u64 d.a2, .int .u64 d.a3, .int .u64 d.a4, .int .u64 d.a5] 47)).alloc (.cells (vmA pc r) 50)).alloc (.cells #[.int .i64 0, .int .u32 0, .int .u32 0, .int .u32 0, .int .u32 0, .int .u32 0, .int .u32 0, .int .u32 0, .int .u32 0, .int .u32 0, .int .u32 0, .int .u32 0, .int .u32 0, .int .u32 0, .int .u32 0, .int .u32 0, .int .u32 0, .int .u32 0, .int .u32 0] 50)).alloc (.cells #[.int .i64 0, .int .u32 0, .int .u32 0, .int .u32 0, .int .u32 0, .int .u32 0, .int .u32 0, .int .u32 0, .int .u32 0, .int .u32 0, .int .u32 0, .int .u32 0, .int .u32 0, .int .u32 0, .int .u32 0, .int .u32 0, .int .u32 0, .int .u32 0, .int .u32 0] 50)).heap[w.heap.size + 4]? = some (.cells #[.int .i64 0, .int .u32 0, .int .u32 0, .int .u32 0, .int .u32 0, .int .u32 0, .int .u32 0, .int .u32 0, .int .u32 0, .int .u32 0, .int .u32 0, .int .u32 0, .int .u32 0, .int .u32 0, .int .u32 0, .int .u32 0, .int .u32 0, .int .u32 0, .int .u32 0] 50 (0, 0)) from (heap5 w _ _ _ _ _).2.2.2.2)
  have HSZ := Lib.hid (show (#[.int .i64 0, .int .u32 0, .int .u32 0, .int .u32 0, .int .u32 0, .int .u32 0, .int .u32 0, .int .u32 0, .int .u32 0, .int .u32 0, .int .u32 0, .int .u32 0, .int .u32 0, .int .u32 0, .int .u32 0, .int .u32 0, .int .u32 0, .int .u32 0, .int .u32 0] : Array Value).size = (vmA pc r).size by rw [vmA_size pc r hr]; rfl)
  have HRW := Lib.hid (rows5 w y d pc r)
  have HB5 := Lib.hid (show Below w.heap.size w (((((w.alloc (.cells #[.int .u16 y.code, .int .u8 y.jt, .int .u8 y.jf, .int .u32 y.k] 36)).alloc (.cells #[.int .u32 d.nr, .int .u32 d.arch, .int .u64 d.ip, .int .u64 d.a0, .int .u64 d.a1, .int .u64 d.a2, .int .u64 d.a3, .int .u64 d.a4, .int .u64 d.a5] 47)).alloc (.cells (vmA pc r) 50)).alloc (.cells #[.int .i64 0, .int .u32 0, .int .u32 0, .int .u32 0, .int .u32 0, .int .u32 0, .int .u32 0, .int .u32 0, .int .u32 0, .int .u32 0, .int .u32 0, .int .u32 0, .int .u32 0, .int .u32 0, .int .u32 0, .int .u32 0, .int .u32 0, .int .u32 0, .int .u32 0] 50)).alloc (.cells (vmA pc r) 50)) by (repeat (first | with_reducible exact Below.refl _ _ | with_reducible assumption | ((with_reducible refine Below.setCell ?_ ?hp _); case hp => (first | omega | (simp only [World.size_alloc, World.size_setCell, World.size_drew]; omega) | (simp; done) | (simp; omega))) | ((with_reducible refine Below.alloc ?_ ?hp _); case hp => (first | omega | (simp only [World.size_alloc, World.size_setCell, World.size_drew]; omega) | (simp; done) | (simp; omega))) | with_reducible refine Below.drew ?_ | with_reducible refine below_drewN ?_ _)))
  clear hy hd hr
  go_enter Try.func68, Try.ntmps68
  go_wp2_with (first
    | (refine wpList_load_row rfl 50 (.tmp 5) rfl (w.heap.size + 2) rfl 50 (vmA pc r) (0, 0) _ HL.out Try.underlying50 rfl (HI.out _ _ HR.out) ?_; go_simp)
    | (refine wpList_store_row rfl 50 (.tmp 9) (.tmp 13) rfl (w.heap.size + 4) (vmA pc r) rfl rfl 50 #[.int .i64 0, .int .u32 0, .int .u32 0, .int .u32 0, .int .u32 0, .int .u32 0, .int .u32 0, .int .u32 0, .int .u32 0, .int .u32 0, .int .u32 0, .int .u32 0, .int .u32 0, .int .u32 0, .int .u32 0, .int .u32 0, .int .u32 0, .int .u32 0, .int .u32 0] HZ.out (HI.out _ _ HR.out) HSZ.out (vmA_one pc r) ?_; rw [row5]; generalize (((((w.alloc (.cells #[.int .u16 y.code, .int .u8 y.jt, .int .u8 y.jf, .int .u32 y.k] 36)).alloc (.cells #[.int .u32 d.nr, .int .u32 d.arch, .int .u64 d.ip, .int .u64 d.a0, .int .u64 d.a1, .int .u64 d.a2, .int .u64 d.a3, .int .u64 d.a4, .int .u64 d.a5] 47)).alloc (.cells (vmA pc r) 50)).alloc (.cells #[.int .i64 0, .int .u32 0, .int .u32 0, .int .u32 0, .int .u32 0, .int .u32 0, .int .u32 0, .int .u32 0, .int .u32 0, .int .u32 0, .int .u32 0, .int .u32 0, .int .u32 0, .int .u32 0, .int .u32 0, .int .u32 0, .int .u32 0, .int .u32 0, .int .u32 0] 50)).alloc (.cells (vmA pc r) 50)) = W5 at HRW HB5 ⊢; clear HL HZ; have HRW6 := Lib.hid (HRW.out.set 0 (.int .i64 (pc + 1)) (vmA_pc pc (pc + 1) r)); have HB6 := Lib.hid (HB5.out.setCell (p := ⟨w.heap.size + 4, 0, none⟩) (by show w.heap.size ≤ w.heap.size + 4; omega) (.int .i64 (pc + 1))); obtain ⟨x0, x1, x2, x3, n0, a0, a1, a2, fz, zz⟩ := HRW.out.facts; go_simp))
  all_goals
    generalize W5.setCell ⟨w.heap.size + 4, 0, none⟩ (Value.int .i64 (pc + 1)) = W6 at HRW6 HB6 ⊢
    clear x0 x1 x2 x3 n0 a0 a1 a2 fz zz
    have hS := (HRW6.out.facts).2.2.2.1
    have HS := Lib.hid (show W6.drew.cell? ⟨w.heap.size, 3, none⟩ = some (.int .u32 y.k) by simpa using hS)
    have HRW7 := Lib.hid (HRW6.out.below (W' := W6.drew) (by (repeat (first | with_reducible exact Below.refl _ _ | with_reducible assumption | ((with_reducible refine Below.setCell ?_ ?hp _); case hp => (first | omega | (simp only [World.size_alloc, World.size_setCell, World.size_drew]; omega) | (simp; done) | (simp; omega))) | ((with_reducible refine Below.alloc ?_ ?hp _); case hp => (first | omega | (simp only [World.size_alloc, World.size_setCell, World.size_drew]; omega) | (simp; done) | (simp; omega))) | with_reducible refine Below.drew ?_ | with_reducible refine below_drewN ?_ _))))
    have hwf : ∀ k, Fence.wide.fn k := fun _ => trivial
    have hwd : Fence.wide.depth = none := rfl
    have zz := HRW6.out.sz
    refine wp_region_noPanic ?_
    refine (wpIn_wide (n := 0)).1 ?_
    (refine region_at 4 (fun W => W.cell? ⟨w.heap.size, 3, none⟩ = some (.int .u32 y.k)) (fun _ => trivial) (by kernel_rfl) (by kernel_rfl) (by kernel_rfl) (by kernel_rfl) (by kernel_rfl) (by kernel_rfl) (fun _ _ _ _ h => h) ?_)
    (refine At.take 1 (v := .pointer (some ⟨w.heap.size, 3, none⟩)) rfl (by decide) (by kernel_rfl) (by kernel_rfl) HS.out (Or.inl ⟨by rfl, fun w hw => (by go_simp; try (simp (disch := omega) only [IntWalk.i64_in, IntWalk.u8_in, IntWalk.u16_in, IntWalk.u32_in, IntWalk.u64_in]); try omega)⟩) ?_; simp only [Act.put, List.setIfInBounds_toArray, List.set_cons_zero, List.set_cons_succ])
    (refine At.take 2 (v := .int .u32 y.k) rfl (by decide) (by kernel_rfl) (by kernel_rfl) HS.out (Or.inl ⟨by rfl, fun w hw => (by go_simp; try (simp (disch := omega) only [IntWalk.i64_in, IntWalk.u8_in, IntWalk.u16_in, IntWalk.u32_in, IntWalk.u64_in]); try omega)⟩) ?_; simp only [Act.put, List.setIfInBounds_toArray, List.set_cons_zero, List.set_cons_succ])
    (refine At.force 0 rfl (by decide) (by kernel_rfl) ?_)
    simp only [Act.put, List.getElem_toArray, List.getElem_cons_zero, List.getElem_cons_succ, List.setIfInBounds_toArray, List.set_cons_zero, List.set_cons_succ]
    refine wpListIn_load_row rfl 50 (.tmp 5) rfl (w.heap.size + 2) rfl 50 (vmA pc r) (0, 0) _ HRW7.out.m Try.underlying50 rfl (HI.out _ _ HR.out) ?_
    simp only [Act.put, List.getElem_toArray, List.getElem_cons_zero, List.getElem_cons_succ, List.setIfInBounds_toArray, List.set_cons_zero, List.set_cons_succ]
    gi_wp2
    refine thenS_normal HS.out (fun _ => ?_)
    (refine At.force 3 rfl (by decide) (by kernel_rfl) ?_)
    (try simp only [Act.put, List.getElem_toArray, List.getElem_cons_zero, List.getElem_cons_succ, List.setIfInBounds_toArray, List.set_cons_zero, List.set_cons_succ])
    refine wpListIn_store_row rfl 50 (.tmp 6) (.tmp 119) rfl (w.heap.size + 3) (vmA pc r) rfl rfl 50 _ HRW7.out.o (HI.out _ _ HR.out) HSZ.out (vmA_one pc r) ?_
    simp only [Act.put, List.getElem_toArray, List.getElem_cons_zero, List.getElem_cons_succ, List.setIfInBounds_toArray, List.set_cons_zero, List.set_cons_succ]
    gi_wp2
    refine thenS_normal ((cell_setRow_other _ _ _ _ (by show w.heap.size ≠ w.heap.size + 3; omega)).trans HS.out) (fun _ => ?_)
    refine At.tail (by kernel_rfl) ?_
    simp only [List.drop_succ_cons, List.drop_zero]
    gi_wp2
    refine NoPanic.normal ?_
    go_wp2
    exact bodyPost_ret (results_cell3 rfl _ _ (w.heap.size + 3) 50 (vmA pc r) (0, 0) _ rfl (setRow_heap _ _ _ _ _ _ HRW7.out.o) Try.underlying50 rfl (HI.out _ _ HR.out)) rfl ⟨by rw [HV.out]; rfl, below_row (HB6.out.drew) (by omega) _⟩

set_option maxRecDepth 100000 in
set_option maxHeartbeats 1000000 in
theorem step_6a (y : Insn) (hy : y.Ok) (d : Dt) (hd : d.Ok) (pc : Int) (hp1 : 0 ≤ pc) (hp2 : pc ≤ 1000000) (r : Rg) (hr : r.Ok) (hc : y.code % 8 = 6) (hb : y.code / 16 % 2 = 1) (w : World) :
    Calls Try.prog 68 #[(Value.agg #[.int .u16 y.code, .int .u8 y.jt, .int .u8 y.jf, .int .u32 y.k]), (Value.agg #[.int .u32 d.nr, .int .u32 d.arch, .int .u64 d.ip, .int .u64 d.a0, .int .u64 d.a1, .int .u64 d.a2, .int .u64 d.a3, .int .u64 d.a4, .int .u64 d.a5]), .agg (vmA pc r)] w fun e w' => e = .returned (stepV y (datL d) pc r) ∧ Below w.heap.size w w' := by
  have HR := Lib.hid hr
  have HI := Lib.hid (fun q (s : Rg) (h : s.Ok) => info_vm q s h)
  have HY := Lib.hid hy
  have HDt := Lib.hid hd
  have m8 := u16_8 y.code hy.code
  have m7 := u16_7 y.code hy.code
  have c7 : bits .and .u16 (y.code : Int) 7 = 6 := by rw [m7, hc]; rfl
  have c16 : bits .and .u16 (y.code : Int) 16 = 16 := by rw [u16_16 y.code hy.code, hb]; rfl
  have HV := Lib.hid (show stepV y (datL d) pc r = .tuple #[.agg (vmA pc r), .int .u32 r.a, .bool true] by
    unfold stepV endsL; rw [hc, hb]; rfl)
  clear m7 hc hb
  have hp3 : -9223372036854775808 ≤ pc + 1 := by omega
  have hp4 : pc + 1 ≤ 9223372036854775807 := by omega
  have HL := Lib.hid (show ((((w.alloc (.cells #[.int .u16 y.code, .int .u8 y.jt, .int .u8 y.jf, .int .u32 y.k] 36)).alloc (.cells #[.int .u32 d.nr, .int .u32 d.arch, .int .u64 d.ip, .int .u64 d.a0, .int .u64 d.a1, .int .u64 d.a2, .int .u64 d.a3, .int .u64 d.a4, .int .u64 d.a5] 47)).alloc (.cells (vmA pc r) 50)).alloc (.cells #[.int .i64 0, .int .u32 0, .int .u32 0, .int .u32 0, .int .u32 0, .int .u32 0, .int .u32 0, .int .u32 0, .int .u32 0, .int .u32 0, .int .u32 0, .int .u32 0, .int .u32 0, .int .u32 0, .int .u32 0, .int .u32 0, .int .u32 0, .int .u32 0, .int .u32 0] 50)).heap[w.heap.size + 2]? = some (.cells (vmA pc r) 50 (0, 0)) from (heap4 w _ _ _ _).1)
  have HZ := Lib.hid (show (((((w.alloc (.cells #[.int .u16 y.code, .int .u8 y.jt, .int .u8 y.jf, .int .u32 y.k] 36)).alloc (.cells #[.int .u32 d.nr, .int .u32 d.arch, .int .u64 d.ip, .int .u64 d.a0, .int .u64 d.a1, .int .u64 d.a2, .int .u64 d.a3, .int .u64 d.a4, .int .u64 d.a5] 47)).alloc (.cells (vmA pc r) 50)).alloc (.cells #[.int .i64 0, .int .u32 0, .int .u32 0, .int .u32 0, .int .u32 0, .int .u32 0, .int .u32 0, .int .u32 0, .int .u32 0, .int .u32 0, .int .u32 0, .int .u32 0, .int .u32 0, .int .u32 0, .int .u32 0, .int .u32 0, .int .u32 0, .int .u32 0, .int .u32 0] 50)).alloc (.cells #[.int .i64 0, .int .u32 0, .int .u32 0, .int .u32 0, .int .u32 0, .int .u32 0, .int .u32 0, .int .u32 0, .int .u32 0, .int .u32 0, .int .u32 0, .int .u32 0, .int .u32 0, .int .u32 0, .int .u32 0, .int .u32 0, .int .u32 0, .int .u32 0, .int .u32 0] 50)).heap[w.heap.size + 4]? = some (.cells #[.int .i64 0, .int .u32 0, .int .u32 0, .int .u32 0, .int .u32 0, .int .u32 0, .int .u32 0, .int .u32 0, .int .u32 0, .int .u32 0, .int .u32 0, .int .u32 0, .int .u32 0, .int .u32 0, .int .u32 0, .int .u32 0, .int .u32 0, .int .u32 0, .int .u32 0] 50 (0, 0)) from (heap5 w _ _ _ _ _).2.2.2.2)
  have HSZ := Lib.hid (show (#[.int .i64 0, .int .u32 0, .int .u32 0, .int .u32 0, .int .u32 0, .int .u32 0, .int .u32 0, .int .u32 0, .int .u32 0, .int .u32 0, .int .u32 0, .int .u32 0, .int .u32 0, .int .u32 0, .int .u32 0, .int .u32 0, .int .u32 0, .int .u32 0, .int .u32 0] : Array Value).size = (vmA pc r).size by rw [vmA_size pc r hr]; rfl)
  have HRW := Lib.hid (rows5 w y d pc r)
  have HB5 := Lib.hid (show Below w.heap.size w (((((w.alloc (.cells #[.int .u16 y.code, .int .u8 y.jt, .int .u8 y.jf, .int .u32 y.k] 36)).alloc (.cells #[.int .u32 d.nr, .int .u32 d.arch, .int .u64 d.ip, .int .u64 d.a0, .int .u64 d.a1, .int .u64 d.a2, .int .u64 d.a3, .int .u64 d.a4, .int .u64 d.a5] 47)).alloc (.cells (vmA pc r) 50)).alloc (.cells #[.int .i64 0, .int .u32 0, .int .u32 0, .int .u32 0, .int .u32 0, .int .u32 0, .int .u32 0, .int .u32 0, .int .u32 0, .int .u32 0, .int .u32 0, .int .u32 0, .int .u32 0, .int .u32 0, .int .u32 0, .int .u32 0, .int .u32 0, .int .u32 0, .int .u32 0] 50)).alloc (.cells (vmA pc r) 50)) by (repeat (first | with_reducible exact Below.refl _ _ | with_reducible assumption | ((with_reducible refine Below.setCell ?_ ?hp _); case hp => (first | omega | (simp only [World.size_alloc, World.size_setCell, World.size_drew]; omega) | (simp; done) | (simp; omega))) | ((with_reducible refine Below.alloc ?_ ?hp _); case hp => (first | omega | (simp only [World.size_alloc, World.size_setCell, World.size_drew]; omega) | (simp; done) | (simp; omega))) | with_reducible refine Below.drew ?_ | with_reducible refine below_drewN ?_ _)))
  clear hy hd hr
  go_enter Try.func68, Try.ntmps68
  go_wp2_with (first
    | (refine wpList_load_row rfl 50 (.tmp 5) rfl (w.heap.size + 2) rfl 50 (vmA pc r) (0, 0) _ HL.out Try.underlying50 rfl (HI.out _ _ HR.out) ?_; go_simp)
    | (refine wpList_store_row rfl 50 (.tmp 9) (.tmp 13) rfl (w.heap.size + 4) (vmA pc r) rfl rfl 50 #[.int .i64 0, .int .u32 0, .int .u32 0, .int .u32 0, .int .u32 0, .int .u32 0, .int .u32 0, .int .u32 0, .int .u32 0, .int .u32 0, .int .u32 0, .int .u32 0, .int .u32 0, .int .u32 0, .int .u32 0, .int .u32 0, .int .u32 0, .int .u32 0, .int .u32 0] HZ.out (HI.out _ _ HR.out) HSZ.out (vmA_one pc r) ?_; rw [row5]; generalize (((((w.alloc (.cells #[.int .u16 y.code, .int .u8 y.jt, .int .u8 y.jf, .int .u32 y.k] 36)).alloc (.cells #[.int .u32 d.nr, .int .u32 d.arch, .int .u64 d.ip, .int .u64 d.a0, .int .u64 d.a1, .int .u64 d.a2, .int .u64 d.a3, .int .u64 d.a4, .int .u64 d.a5] 47)).alloc (.cells (vmA pc r) 50)).alloc (.cells #[.int .i64 0, .int .u32 0, .int .u32 0, .int .u32 0, .int .u32 0, .int .u32 0, .int .u32 0, .int .u32 0, .int .u32 0, .int .u32 0, .int .u32 0, .int .u32 0, .int .u32 0, .int .u32 0, .int .u32 0, .int .u32 0, .int .u32 0, .int .u32 0, .int .u32 0] 50)).alloc (.cells (vmA pc r) 50)) = W5 at HRW HB5 ⊢; clear HL HZ; have HRW6 := Lib.hid (HRW.out.set 0 (.int .i64 (pc + 1)) (vmA_pc pc (pc + 1) r)); have HB6 := Lib.hid (HB5.out.setCell (p := ⟨w.heap.size + 4, 0, none⟩) (by show w.heap.size ≤ w.heap.size + 4; omega) (.int .i64 (pc + 1))); obtain ⟨x0, x1, x2, x3, n0, a0, a1, a2, fz, zz⟩ := HRW.out.facts; go_simp))
  all_goals
    generalize W5.setCell ⟨w.heap.size + 4, 0, none⟩ (Value.int .i64 (pc + 1)) = W6 at HRW6 HB6 ⊢
    clear x0 x1 x2 x3 n0 a0 a1 a2 fz zz
    have hS := (HRW6.out.facts).2.2.2.2.2.2.1
    have HS := Lib.hid (show W6.drew.cell? ⟨w.heap.size + 2, 1, none⟩ = some (.int .u32 r.a) by simpa using hS)
    have HRW7 := Lib.hid (HRW6.out.below (W' := W6.drew) (by (repeat (first | with_reducible exact Below.refl _ _ | with_reducible assumption | ((with_reducible refine Below.setCell ?_ ?hp _); case hp => (first | omega | (simp only [World.size_alloc, World.size_setCell, World.size_drew]; omega) | (simp; done) | (simp; omega))) | ((with_reducible refine Below.alloc ?_ ?hp _); case hp => (first | omega | (simp only [World.size_alloc, World.size_setCell, World.size_drew]; omega) | (simp; done) | (simp; omega))) | with_reducible refine Below.drew ?_ | with_reducible refine below_drewN ?_ _))))
    have hwf : ∀ k, Fence.wide.fn k := fun _ => trivial
    have hwd : Fence.wide.depth = none := rfl
    have zz := HRW6.out.sz
    refine wp_region_noPanic ?_
    refine (wpIn_wide (n := 0)).1 ?_
    (refine region_at 4 (fun W => W.cell? ⟨w.heap.size + 2, 1, none⟩ = some (.int .u32 r.a)) (fun _ => trivial) (by kernel_rfl) (by kernel_rfl) (by kernel_rfl) (by kernel_rfl) (by kernel_rfl) (by kernel_rfl) (fun _ _ _ _ h => h) ?_)
    (refine At.take 1 (v := .pointer (some ⟨w.heap.size + 2, 1, none⟩)) rfl (by decide) (by kernel_rfl) (by kernel_rfl) HS.out (Or.inl ⟨by rfl, fun w hw => (by go_simp; try (simp (disch := omega) only [IntWalk.i64_in, IntWalk.u8_in, IntWalk.u16_in, IntWalk.u32_in, IntWalk.u64_in]); try omega)⟩) ?_; simp only [Act.put, List.setIfInBounds_toArray, List.set_cons_zero, List.set_cons_succ])
    (refine At.take 2 (v := .int .u32 r.a) rfl (by decide) (by kernel_rfl) (by kernel_rfl) HS.out (Or.inl ⟨by rfl, fun w hw => (by go_simp; try (simp (disch := omega) only [IntWalk.i64_in, IntWalk.u8_in, IntWalk.u16_in, IntWalk.u32_in, IntWalk.u64_in]); try omega)⟩) ?_; simp only [Act.put, List.setIfInBounds_toArray, List.set_cons_zero, List.set_cons_succ])
    (refine At.force 0 rfl (by decide) (by kernel_rfl) ?_)
    simp only [Act.put, List.getElem_toArray, List.getElem_cons_zero, List.getElem_cons_succ, List.setIfInBounds_toArray, List.set_cons_zero, List.set_cons_succ]
    refine wpListIn_load_row rfl 50 (.tmp 5) rfl (w.heap.size + 2) rfl 50 (vmA pc r) (0, 0) _ HRW7.out.m Try.underlying50 rfl (HI.out _ _ HR.out) ?_
    simp only [Act.put, List.getElem_toArray, List.getElem_cons_zero, List.getElem_cons_succ, List.setIfInBounds_toArray, List.set_cons_zero, List.set_cons_succ]
    gi_wp2
    refine thenS_normal HS.out (fun _ => ?_)
    (refine At.force 3 rfl (by decide) (by kernel_rfl) ?_)
    (try simp only [Act.put, List.getElem_toArray, List.getElem_cons_zero, List.getElem_cons_succ, List.setIfInBounds_toArray, List.set_cons_zero, List.set_cons_succ])
    refine wpListIn_store_row rfl 50 (.tmp 6) (.tmp 116) rfl (w.heap.size + 3) (vmA pc r) rfl rfl 50 _ HRW7.out.o (HI.out _ _ HR.out) HSZ.out (vmA_one pc r) ?_
    simp only [Act.put, List.getElem_toArray, List.getElem_cons_zero, List.getElem_cons_succ, List.setIfInBounds_toArray, List.set_cons_zero, List.set_cons_succ]
    gi_wp2
    refine thenS_normal ((cell_setRow_other _ _ _ _ (by show w.heap.size + 2 ≠ w.heap.size + 3; omega)).trans HS.out) (fun _ => ?_)
    refine At.tail (by kernel_rfl) ?_
    simp only [List.drop_succ_cons, List.drop_zero]
    gi_wp2
    refine NoPanic.normal ?_
    go_wp2
    exact bodyPost_ret (results_cell3 rfl _ _ (w.heap.size + 3) 50 (vmA pc r) (0, 0) _ rfl (setRow_heap _ _ _ _ _ _ HRW7.out.o) Try.underlying50 rfl (HI.out _ _ HR.out)) rfl ⟨by rw [HV.out]; rfl, below_row (HB6.out.drew) (by omega) _⟩

end Go.Proofs.Ytfjbanfibmpalaa

/- Contracts: the machine's step, by classes. -/
set_option linter.unusedVariables false
set_option linter.unusedSimpArgs false
namespace Go.Proofs.Ytfjbanfibmpalaa
open Go.RowKit Go.Shelf

theorem Rg.Ok.setA {r : Rg} (h : r.Ok) {v : Nat} (hv : v < 4294967296) : Rg.Ok { r with a := v } := ⟨hv, h.x, h.len, h.mem⟩
theorem Rg.Ok.setX {r : Rg} (h : r.Ok) {v : Nat} (hv : v < 4294967296) : Rg.Ok { r with x := v } := ⟨h.a, hv, h.len, h.mem⟩
theorem Rg.Ok.setM {r : Rg} (h : r.Ok) (k : Nat) {v : Nat} (hv : v < 4294967296) : Rg.Ok { r with mem := r.mem.set k v } :=
  ⟨h.a, h.x, by simpa using h.len, fun m hm => by rcases List.mem_or_eq_of_mem_set hm with q | q; exact h.mem m q; omega⟩

set_option maxRecDepth 100000 in
set_option maxHeartbeats 1000000 in
theorem step_2 (y : Insn) (hy : y.Ok) (d : Dt) (hd : d.Ok) (pc : Int) (hp1 : 0 ≤ pc) (hp2 : pc ≤ 1000000) (r : Rg) (hr : r.Ok) (hc : y.code % 8 = 2) (hk : y.k < 16) (w : World) :
    Calls Try.prog 68 #[(Value.agg #[.int .u16 y.code, .int .u8 y.jt, .int .u8 y.jf, .int .u32 y.k]), (Value.agg #[.int .u32 d.nr, .int .u32 d.arch, .int .u64 d.ip, .int .u64 d.a0, .int .u64 d.a1, .int .u64 d.a2, .int .u64 d.a3, .int .u64 d.a4, .int .u64 d.a5]), .agg (vmA pc r)] w fun e w' => e = .returned (stepV y (datL d) pc r) ∧ Below w.heap.size w w' := by
  have HR := Lib.hid hr
  have HI := Lib.hid (fun q (s : Rg) (h : s.Ok) => info_vm q s h)
  have HY := Lib.hid hy
  have HDt := Lib.hid hd
  have m8 := u16_8 y.code hy.code
  have m7 := u16_7 y.code hy.code
  have c7 : bits .and .u16 (y.code : Int) 7 = 2 := by rw [m7, hc]; rfl
  have k1 : ((y.k : Nat) : Int) < 16 := by omega
  have k2 : (0 : Int) ≤ ((y.k : Nat) : Int) := by omega
  have HS := Lib.hid (show Rg.Ok { r with mem := r.mem.set y.k r.a } from hr.setM y.k hr.a)
  have HV := Lib.hid (show stepV y (datL d) pc r = .tuple #[.agg (vmA (pc + 1) { r with mem := r.mem.set y.k r.a }), .int .u32 0, .bool false] by
    unfold stepV endsL effL offL; rw [hc]; simp)
  have HM := Lib.hid (vmA_m pc r hr y.k hk)
  clear m7 hc
  have HSZ2 := Lib.hid (show (#[.int .i64 0, .int .u32 0, .int .u32 0, .int .u32 0, .int .u32 0, .int .u32 0, .int .u32 0, .int .u32 0, .int .u32 0, .int .u32 0, .int .u32 0, .int .u32 0, .int .u32 0, .int .u32 0, .int .u32 0, .int .u32 0, .int .u32 0, .int .u32 0, .int .u32 0] : Array Value).size = (vmA (pc + 1) { r with mem := r.mem.set y.k r.a }).size by rw [vmA_size _ _ HS.out]; rfl)
  have hp3 : -9223372036854775808 ≤ pc + 1 := by omega
  have hp4 : pc + 1 ≤ 9223372036854775807 := by omega
  have HL := Lib.hid (show ((((w.alloc (.cells #[.int .u16 y.code, .int .u8 y.jt, .int .u8 y.jf, .int .u32 y.k] 36)).alloc (.cells #[.int .u32 d.nr, .int .u32 d.arch, .int .u64 d.ip, .int .u64 d.a0, .int .u64 d.a1, .int .u64 d.a2, .int .u64 d.a3, .int .u64 d.a4, .int .u64 d.a5] 47)).alloc (.cells (vmA pc r) 50)).alloc (.cells #[.int .i64 0, .int .u32 0, .int .u32 0, .int .u32 0, .int .u32 0, .int .u32 0, .int .u32 0, .int .u32 0, .int .u32 0, .int .u32 0, .int .u32 0, .int .u32 0, .int .u32 0, .int .u32 0, .int .u32 0, .int .u32 0, .int .u32 0, .int .u32 0, .int .u32 0] 50)).heap[w.heap.size + 2]? = some (.cells (vmA pc r) 50 (0, 0)) from (heap4 w _ _ _ _).1)
  have HZ := Lib.hid (show (((((w.alloc (.cells #[.int .u16 y.code, .int .u8 y.jt, .int .u8 y.jf, .int .u32 y.k] 36)).alloc (.cells #[.int .u32 d.nr, .int .u32 d.arch, .int .u64 d.ip, .int .u64 d.a0, .int .u64 d.a1, .int .u64 d.a2, .int .u64 d.a3, .int .u64 d.a4, .int .u64 d.a5] 47)).alloc (.cells (vmA pc r) 50)).alloc (.cells #[.int .i64 0, .int .u32 0, .int .u32 0, .int .u32 0, .int .u32 0, .int .u32 0, .int .u32 0, .int .u32 0, .int .u32 0, .int .u32 0, .int .u32 0, .int .u32 0, .int .u32 0, .int .u32 0, .int .u32 0, .int .u32 0, .int .u32 0, .int .u32 0, .int .u32 0] 50)).alloc (.cells #[.int .i64 0, .int .u32 0, .int .u32 0, .int .u32 0, .int .u32 0, .int .u32 0, .int .u32 0, .int .u32 0, .int .u32 0, .int .u32 0, .int .u32 0, .int .u32 0, .int .u32 0, .int .u32 0, .int .u32 0, .int .u32 0, .int .u32 0, .int .u32 0, .int .u32 0] 50)).heap[w.heap.size + 4]? = some (.cells #[.int .i64 0, .int .u32 0, .int .u32 0, .int .u32 0, .int .u32 0, .int .u32 0, .int .u32 0, .int .u32 0, .int .u32 0, .int .u32 0, .int .u32 0, .int .u32 0, .int .u32 0, .int .u32 0, .int .u32 0, .int .u32 0, .int .u32 0, .int .u32 0, .int .u32 0] 50 (0, 0)) from (heap5 w _ _ _ _ _).2.2.2.2)
  have HSZ := Lib.hid (show (#[.int .i64 0, .int .u32 0, .int .u32 0, .int .u32 0, .int .u32 0, .int .u32 0, .int .u32 0, .int .u32 0, .int .u32 0, .int .u32 0, .int .u32 0, .int .u32 0, .int .u32 0, .int .u32 0, .int .u32 0, .int .u32 0, .int .u32 0, .int .u32 0, .int .u32 0] : Array Value).size = (vmA pc r).size by rw [vmA_size pc r hr]; rfl)
  have HRW := Lib.hid (rows5 w y d pc r)
  have HB5 := Lib.hid (show Below w.heap.size w (((((w.alloc (.cells #[.int .u16 y.code, .int .u8 y.jt, .int .u8 y.jf, .int .u32 y.k] 36)).alloc (.cells #[.int .u32 d.nr, .int .u32 d.arch, .int .u64 d.ip, .int .u64 d.a0, .int .u64 d.a1, .int .u64 d.a2, .int .u64 d.a3, .int .u64 d.a4, .int .u64 d.a5] 47)).alloc (.cells (vmA pc r) 50)).alloc (.cells #[.int .i64 0, .int .u32 0, .int .u32 0, .int .u32 0, .int .u32 0, .int .u32 0, .int .u32 0, .int .u32 0, .int .u32 0, .int .u32 0, .int .u32 0, .int .u32 0, .int .u32 0, .int .u32 0, .int .u32 0, .int .u32 0, .int .u32 0, .int .u32 0, .int .u32 0] 50)).alloc (.cells (vmA pc r) 50)) by (repeat (first | with_reducible exact Below.refl _ _ | with_reducible assumption | ((with_reducible refine Below.setCell ?_ ?hp _); case hp => (first | omega | (simp only [World.size_alloc, World.size_setCell, World.size_drew]; omega) | (simp; done) | (simp; omega))) | ((with_reducible refine Below.alloc ?_ ?hp _); case hp => (first | omega | (simp only [World.size_alloc, World.size_setCell, World.size_drew]; omega) | (simp; done) | (simp; omega))) | with_reducible refine Below.drew ?_ | with_reducible refine below_drewN ?_ _)))
  clear hy hd hr
  go_enter Try.func68, Try.ntmps68
  go_wp2_with (first
    | (refine wpList_load_row rfl 50 (.tmp 5) rfl (w.heap.size + 2) rfl 50 (vmA pc r) (0, 0) _ HL.out Try.underlying50 rfl (HI.out _ _ HR.out) ?_; go_simp)
    | (refine wpList_store_row rfl 50 (.tmp 9) (.tmp 13) rfl (w.heap.size + 4) (vmA pc r) rfl rfl 50 #[.int .i64 0, .int .u32 0, .int .u32 0, .int .u32 0, .int .u32 0, .int .u32 0, .int .u32 0, .int .u32 0, .int .u32 0, .int .u32 0, .int .u32 0, .int .u32 0, .int .u32 0, .int .u32 0, .int .u32 0, .int .u32 0, .int .u32 0, .int .u32 0, .int .u32 0] HZ.out (HI.out _ _ HR.out) HSZ.out (vmA_one pc r) ?_; rw [row5]; generalize (((((w.alloc (.cells #[.int .u16 y.code, .int .u8 y.jt, .int .u8 y.jf, .int .u32 y.k] 36)).alloc (.cells #[.int .u32 d.nr, .int .u32 d.arch, .int .u64 d.ip, .int .u64 d.a0, .int .u64 d.a1, .int .u64 d.a2, .int .u64 d.a3, .int .u64 d.a4, .int .u64 d.a5] 47)).alloc (.cells (vmA pc r) 50)).alloc (.cells #[.int .i64 0, .int .u32 0, .int .u32 0, .int .u32 0, .int .u32 0, .int .u32 0, .int .u32 0, .int .u32 0, .int .u32 0, .int .u32 0, .int .u32 0, .int .u32 0, .int .u32 0, .int .u32 0, .int .u32 0, .int .u32 0, .int .u32 0, .int .u32 0, .int .u32 0] 50)).alloc (.cells (vmA pc r) 50)) = W5 at HRW HB5 ⊢; clear HL HZ; have HRW6 := Lib.hid (HRW.out.set 0 (.int .i64 (pc + 1)) (vmA_pc pc (pc + 1) r)); have HB6 := Lib.hid (HB5.out.setCell (p := ⟨w.heap.size + 4, 0, none⟩) (by show w.heap.size ≤ w.heap.size + 4; omega) (.int .i64 (pc + 1))); have HF := Lib.hid (HRW6.out.set (3 + y.k) (.int .u32 r.a) (vmA_mem (pc + 1) r y.k r.a)); have HFB := Lib.hid (HB6.out.setCell (p := ⟨w.heap.size + 4, (3 + y.k), none⟩) (by show w.heap.size ≤ w.heap.size + 4; omega) (.int .u32 r.a)); have nm : W5.cell? ⟨w.heap.size + 4, 3 + y.k, none⟩ = some (.int .u32 ((r.mem.getD y.k 0 : Nat) : Int)) := (cell_of_row _ _ _ _ _ _ HRW.out.n).trans HM.out; obtain ⟨x0, x1, x2, x3, n0, a0, a1, a2, fz, zz⟩ := HRW.out.facts; go_simp)
    | (refine wpList_load_row rfl 50 (.tmp 9) rfl (w.heap.size + 4) rfl 50 (vmA (pc + 1) { r with mem := r.mem.set y.k r.a }) (0, 0) _ HF.out.n Try.underlying50 rfl (HI.out _ _ HS.out) ?_; go_simp)
    | (refine wpList_store_row rfl 50 (.tmp 6) (.tmp 134) rfl (w.heap.size + 3) (vmA (pc + 1) { r with mem := r.mem.set y.k r.a }) rfl rfl 50 _ HF.out.o (HI.out _ _ HS.out) HSZ2.out (vmA_one _ _) ?_; go_simp))
  all_goals exact bodyPost_ret (results_cell3 rfl _ _ (w.heap.size + 3) 50 (vmA (pc + 1) { r with mem := r.mem.set y.k r.a }) (0, 0) _ rfl (setRow_heap _ _ _ _ _ _ HF.out.o) Try.underlying50 rfl (HI.out _ _ HS.out)) rfl ⟨by rw [HV.out]; rfl, below_row HFB.out (by omega) _⟩

set_option maxRecDepth 100000 in
set_option maxHeartbeats 1000000 in
theorem step_3 (y : Insn) (hy : y.Ok) (d : Dt) (hd : d.Ok) (pc : Int) (hp1 : 0 ≤ pc) (hp2 : pc ≤ 1000000) (r : Rg) (hr : r.Ok) (hc : y.code % 8 = 3) (hk : y.k < 16) (w : World) :
    Calls Try.prog 68 #[(Value.agg #[.int .u16 y.code, .int .u8 y.jt, .int .u8 y.jf, .int .u32 y.k]), (Value.agg #[.int .u32 d.nr, .int .u32 d.arch, .int .u64 d.ip, .int .u64 d.a0, .int .u64 d.a1, .int .u64 d.a2, .int .u64 d.a3, .int .u64 d.a4, .int .u64 d.a5]), .agg (vmA pc r)] w fun e w' => e = .returned (stepV y (datL d) pc r) ∧ Below w.heap.size w w' := by
  have HR := Lib.hid hr
  have HI := Lib.hid (fun q (s : Rg) (h : s.Ok) => info_vm q s h)
  have HY := Lib.hid hy
  have HDt := Lib.hid hd
  have m8 := u16_8 y.code hy.code
  have m7 := u16_7 y.code hy.code
  have c7 : bits .and .u16 (y.code : Int) 7 = 3 := by rw [m7, hc]; rfl
  have k1 : ((y.k : Nat) : Int) < 16 := by omega
  have k2 : (0 : Int) ≤ ((y.k : Nat) : Int) := by omega
  have HS := Lib.hid (show Rg.Ok { r with mem := r.mem.set y.k r.x } from hr.setM y.k hr.x)
  have HV := Lib.hid (show stepV y (datL d) pc r = .tuple #[.agg (vmA (pc + 1) { r with mem := r.mem.set y.k r.x }), .int .u32 0, .bool false] by
    unfold stepV endsL effL offL; rw [hc]; simp)
  have HM := Lib.hid (vmA_m pc r hr y.k hk)
  clear m7 hc
  have HSZ2 := Lib.hid (show (#[.int .i64 0, .int .u32 0, .int .u32 0, .int .u32 0, .int .u32 0, .int .u32 0, .int .u32 0, .int .u32 0, .int .u32 0, .int .u32 0, .int .u32 0, .int .u32 0, .int .u32 0, .int .u32 0, .int .u32 0, .int .u32 0, .int .u32 0, .int .u32 0, .int .u32 0] : Array Value).size = (vmA (pc + 1) { r with mem := r.mem.set y.k r.x }).size by rw [vmA_size _ _ HS.out]; rfl)
  have hp3 : -9223372036854775808 ≤ pc + 1 := by omega
  have hp4 : pc + 1 ≤ 9223372036854775807 := by omega
  have HL := Lib.hid (show ((((w.alloc (.cells #[.int .u16 y.code, .int .u8 y.jt, .int .u8 y.jf, .int .u32 y.k] 36)).alloc (.cells #[.int .u32 d.nr, .int .u32 d.arch, .int .u64 d.ip, .int .u64 d.a0, .int .u64 d.a1, .int .u64 d.a2, .int .u64 d.a3, .int .u64 d.a4, .int .u64 d.a5] 47)).alloc (.cells (vmA pc r) 50)).alloc (.cells #[.int .i64 0, .int .u32 0, .int .u32 0, .int .u32 0, .int .u32 0, .int .u32 0, .int .u32 0, .int .u32 0, .int .u32 0, .int .u32 0, .int .u32 0, .int .u32 0, .int .u32 0, .int .u32 0, .int .u32 0, .int .u32 0, .int .u32 0, .int .u32 0, .int .u32 0] 50)).heap[w.heap.size + 2]? = some (.cells (vmA pc r) 50 (0, 0)) from (heap4 w _ _ _ _).1)
  have HZ := Lib.hid (show (((((w.alloc (.cells #[.int .u16 y.code, .int .u8 y.jt, .int .u8 y.jf, .int .u32 y.k] 36)).alloc (.cells #[.int .u32 d.nr, .int .u32 d.arch, .int .u64 d.ip, .int .u64 d.a0, .int .u64 d.a1, .int .u64 d.a2, .int .u64 d.a3, .int .u64 d.a4, .int .u64 d.a5] 47)).alloc (.cells (vmA pc r) 50)).alloc (.cells #[.int .i64 0, .int .u32 0, .int .u32 0, .int .u32 0, .int .u32 0, .int .u32 0, .int .u32 0, .int .u32 0, .int .u32 0, .int .u32 0, .int .u32 0, .int .u32 0, .int .u32 0, .int .u32 0, .int .u32 0, .int .u32 0, .int .u32 0, .int .u32 0, .int .u32 0] 50)).alloc (.cells #[.int .i64 0, .int .u32 0, .int .u32 0, .int .u32 0, .int .u32 0, .int .u32 0, .int .u32 0, .int .u32 0, .int .u32 0, .int .u32 0, .int .u32 0, .int .u32 0, .int .u32 0, .int .u32 0, .int .u32 0, .int .u32 0, .int .u32 0, .int .u32 0, .int .u32 0] 50)).heap[w.heap.size + 4]? = some (.cells #[.int .i64 0, .int .u32 0, .int .u32 0, .int .u32 0, .int .u32 0, .int .u32 0, .int .u32 0, .int .u32 0, .int .u32 0, .int .u32 0, .int .u32 0, .int .u32 0, .int .u32 0, .int .u32 0, .int .u32 0, .int .u32 0, .int .u32 0, .int .u32 0, .int .u32 0] 50 (0, 0)) from (heap5 w _ _ _ _ _).2.2.2.2)
  have HSZ := Lib.hid (show (#[.int .i64 0, .int .u32 0, .int .u32 0, .int .u32 0, .int .u32 0, .int .u32 0, .int .u32 0, .int .u32 0, .int .u32 0, .int .u32 0, .int .u32 0, .int .u32 0, .int .u32 0, .int .u32 0, .int .u32 0, .int .u32 0, .int .u32 0, .int .u32 0, .int .u32 0] : Array Value).size = (vmA pc r).size by rw [vmA_size pc r hr]; rfl)
  have HRW := Lib.hid (rows5 w y d pc r)
  have HB5 := Lib.hid (show Below w.heap.size w (((((w.alloc (.cells #[.int .u16 y.code, .int .u8 y.jt, .int .u8 y.jf, .int .u32 y.k] 36)).alloc (.cells #[.int .u32 d.nr, .int .u32 d.arch, .int .u64 d.ip, .int .u64 d.a0, .int .u64 d.a1, .int .u64 d.a2, .int .u64 d.a3, .int .u64 d.a4, .int .u64 d.a5] 47)).alloc (.cells (vmA pc r) 50)).alloc (.cells #[.int .i64 0, .int .u32 0, .int .u32 0, .int .u32 0, .int .u32 0, .int .u32 0, .int .u32 0, .int .u32 0, .int .u32 0, .int .u32 0, .int .u32 0, .int .u32 0, .int .u32 0, .int .u32 0, .int .u32 0, .int .u32 0, .int .u32 0, .int .u32 0, .int .u32 0] 50)).alloc (.cells (vmA pc r) 50)) by (repeat (first | with_reducible exact Below.refl _ _ | with_reducible assumption | ((with_reducible refine Below.setCell ?_ ?hp _); case hp => (first | omega | (simp only [World.size_alloc, World.size_setCell, World.size_drew]; omega) | (simp; done) | (simp; omega))) | ((with_reducible refine Below.alloc ?_ ?hp _); case hp => (first | omega | (simp only [World.size_alloc, World.size_setCell, World.size_drew]; omega) | (simp; done) | (simp; omega))) | with_reducible refine Below.drew ?_ | with_reducible refine below_drewN ?_ _)))
  clear hy hd hr
  go_enter Try.func68, Try.ntmps68
  go_wp2_with (first
    | (refine wpList_load_row rfl 50 (.tmp 5) rfl (w.heap.size + 2) rfl 50 (vmA pc r) (0, 0) _ HL.out Try.underlying50 rfl (HI.out _ _ HR.out) ?_; go_simp)
    | (refine wpList_store_row rfl 50 (.tmp 9) (.tmp 13) rfl (w.heap.size + 4) (vmA pc r) rfl rfl 50 #[.int .i64 0, .int .u32 0, .int .u32 0, .int .u32 0, .int .u32 0, .int .u32 0, .int .u32 0, .int .u32 0, .int .u32 0, .int .u32 0, .int .u32 0, .int .u32 0, .int .u32 0, .int .u32 0, .int .u32 0, .int .u32 0, .int .u32 0, .int .u32 0, .int .u32 0] HZ.out (HI.out _ _ HR.out) HSZ.out (vmA_one pc r) ?_; rw [row5]; generalize (((((w.alloc (.cells #[.int .u16 y.code, .int .u8 y.jt, .int .u8 y.jf, .int .u32 y.k] 36)).alloc (.cells #[.int .u32 d.nr, .int .u32 d.arch, .int .u64 d.ip, .int .u64 d.a0, .int .u64 d.a1, .int .u64 d.a2, .int .u64 d.a3, .int .u64 d.a4, .int .u64 d.a5] 47)).alloc (.cells (vmA pc r) 50)).alloc (.cells #[.int .i64 0, .int .u32 0, .int .u32 0, .int .u32 0, .int .u32 0, .int .u32 0, .int .u32 0, .int .u32 0, .int .u32 0, .int .u32 0, .int .u32 0, .int .u32 0, .int .u32 0, .int .u32 0, .int .u32 0, .int .u32 0, .int .u32 0, .int .u32 0, .int .u32 0] 50)).alloc (.cells (vmA pc r) 50)) = W5 at HRW HB5 ⊢; clear HL HZ; have HRW6 := Lib.hid (HRW.out.set 0 (.int .i64 (pc + 1)) (vmA_pc pc (pc + 1) r)); have HB6 := Lib.hid (HB5.out.setCell (p := ⟨w.heap.size + 4, 0, none⟩) (by show w.heap.size ≤ w.heap.size + 4; omega) (.int .i64 (pc + 1))); have HF := Lib.hid (HRW6.out.set (3 + y.k) (.int .u32 r.x) (vmA_mem (pc + 1) r y.k r.x)); have HFB := Lib.hid (HB6.out.setCell (p := ⟨w.heap.size + 4, (3 + y.k), none⟩) (by show w.heap.size ≤ w.heap.size + 4; omega) (.int .u32 r.x)); have nm : W5.cell? ⟨w.heap.size + 4, 3 + y.k, none⟩ = some (.int .u32 ((r.mem.getD y.k 0 : Nat) : Int)) := (cell_of_row _ _ _ _ _ _ HRW.out.n).trans HM.out; obtain ⟨x0, x1, x2, x3, n0, a0, a1, a2, fz, zz⟩ := HRW.out.facts; go_simp)
    | (refine wpList_load_row rfl 50 (.tmp 9) rfl (w.heap.size + 4) rfl 50 (vmA (pc + 1) { r with mem := r.mem.set y.k r.x }) (0, 0) _ HF.out.n Try.underlying50 rfl (HI.out _ _ HS.out) ?_; go_simp)
    | (refine wpList_store_row rfl 50 (.tmp 6) (.tmp 134) rfl (w.heap.size + 3) (vmA (pc + 1) { r with mem := r.mem.set y.k r.x }) rfl rfl 50 _ HF.out.o (HI.out _ _ HS.out) HSZ2.out (vmA_one _ _) ?_; go_simp))
  all_goals exact bodyPost_ret (results_cell3 rfl _ _ (w.heap.size + 3) 50 (vmA (pc + 1) { r with mem := r.mem.set y.k r.x }) (0, 0) _ rfl (setRow_heap _ _ _ _ _ _ HF.out.o) Try.underlying50 rfl (HI.out _ _ HS.out)) rfl ⟨by rw [HV.out]; rfl, below_row HFB.out (by omega) _⟩

set_option maxRecDepth 100000 in
set_option maxHeartbeats 1000000 in
theorem step_70 (y : Insn) (hy : y.Ok) (d : Dt) (hd : d.Ok) (pc : Int) (hp1 : 0 ≤ pc) (hp2 : pc ≤ 1000000) (r : Rg) (hr : r.Ok) (hc : y.code % 8 = 7) (hb : y.code / 128 % 2 = 0) (w : World) :
    Calls Try.prog 68 #[(Value.agg #[.int .u16 y.code, .int .u8 y.jt, .int .u8 y.jf, .int .u32 y.k]), (Value.agg #[.int .u32 d.nr, .int .u32 d.arch, .int .u64 d.ip, .int .u64 d.a0, .int .u64 d.a1, .int .u64 d.a2, .int .u64 d.a3, .int .u64 d.a4, .int .u64 d.a5]), .agg (vmA pc r)] w fun e w' => e = .returned (stepV y (datL d) pc r) ∧ Below w.heap.size w w' := by
  have HR := Lib.hid hr
  have HI := Lib.hid (fun q (s : Rg) (h : s.Ok) => info_vm q s h)
  have HY := Lib.hid hy
  have HDt := Lib.hid hd
  have m8 := u16_8 y.code hy.code
  have m7 := u16_7 y.code hy.code
  have c7 : bits .and .u16 (y.code : Int) 7 = 7 := by rw [m7, hc]; rfl
  have c128 : bits .and .u16 (y.code : Int) 128 = 0 := by rw [u16_128 y.code hy.code, hb]; rfl
  have HS := Lib.hid (show Rg.Ok { r with x := r.a } from hr.setX hr.a)
  have HV := Lib.hid (show stepV y (datL d) pc r = .tuple #[.agg (vmA (pc + 1) { r with x := r.a }), .int .u32 0, .bool false] by
    unfold stepV endsL effL offL; rw [hc, hb]; simp)
  clear m7 hc hb
  have HSZ2 := Lib.hid (show (#[.int .i64 0, .int .u32 0, .int .u32 0, .int .u32 0, .int .u32 0, .int .u32 0, .int .u32 0, .int .u32 0, .int .u32 0, .int .u32 0, .int .u32 0, .int .u32 0, .int .u32 0, .int .u32 0, .int .u32 0, .int .u32 0, .int .u32 0, .int .u32 0, .int .u32 0] : Array Value).size = (vmA (pc + 1) { r with x := r.a }).size by rw [vmA_size _ _ HS.out]; rfl)
  have hp3 : -9223372036854775808 ≤ pc + 1 := by omega
  have hp4 : pc + 1 ≤ 9223372036854775807 := by omega
  have HL := Lib.hid (show ((((w.alloc (.cells #[.int .u16 y.code, .int .u8 y.jt, .int .u8 y.jf, .int .u32 y.k] 36)).alloc (.cells #[.int .u32 d.nr, .int .u32 d.arch, .int .u64 d.ip, .int .u64 d.a0, .int .u64 d.a1, .int .u64 d.a2, .int .u64 d.a3, .int .u64 d.a4, .int .u64 d.a5] 47)).alloc (.cells (vmA pc r) 50)).alloc (.cells #[.int .i64 0, .int .u32 0, .int .u32 0, .int .u32 0, .int .u32 0, .int .u32 0, .int .u32 0, .int .u32 0, .int .u32 0, .int .u32 0, .int .u32 0, .int .u32 0, .int .u32 0, .int .u32 0, .int .u32 0, .int .u32 0, .int .u32 0, .int .u32 0, .int .u32 0] 50)).heap[w.heap.size + 2]? = some (.cells (vmA pc r) 50 (0, 0)) from (heap4 w _ _ _ _).1)
  have HZ := Lib.hid (show (((((w.alloc (.cells #[.int .u16 y.code, .int .u8 y.jt, .int .u8 y.jf, .int .u32 y.k] 36)).alloc (.cells #[.int .u32 d.nr, .int .u32 d.arch, .int .u64 d.ip, .int .u64 d.a0, .int .u64 d.a1, .int .u64 d.a2, .int .u64 d.a3, .int .u64 d.a4, .int .u64 d.a5] 47)).alloc (.cells (vmA pc r) 50)).alloc (.cells #[.int .i64 0, .int .u32 0, .int .u32 0, .int .u32 0, .int .u32 0, .int .u32 0, .int .u32 0, .int .u32 0, .int .u32 0, .int .u32 0, .int .u32 0, .int .u32 0, .int .u32 0, .int .u32 0, .int .u32 0, .int .u32 0, .int .u32 0, .int .u32 0, .int .u32 0] 50)).alloc (.cells #[.int .i64 0, .int .u32 0, .int .u32 0, .int .u32 0, .int .u32 0, .int .u32 0, .int .u32 0, .int .u32 0, .int .u32 0, .int .u32 0, .int .u32 0, .int .u32 0, .int .u32 0, .int .u32 0, .int .u32 0, .int .u32 0, .int .u32 0, .int .u32 0, .int .u32 0] 50)).heap[w.heap.size + 4]? = some (.cells #[.int .i64 0, .int .u32 0, .int .u32 0, .int .u32 0, .int .u32 0, .int .u32 0, .int .u32 0, .int .u32 0, .int .u32 0, .int .u32 0, .int .u32 0, .int .u32 0, .int .u32 0, .int .u32 0, .int .u32 0, .int .u32 0, .int .u32 0, .int .u32 0, .int .u32 0] 50 (0, 0)) from (heap5 w _ _ _ _ _).2.2.2.2)
  have HSZ := Lib.hid (show (#[.int .i64 0, .int .u32 0, .int .u32 0, .int .u32 0, .int .u32 0, .int .u32 0, .int .u32 0, .int .u32 0, .int .u32 0, .int .u32 0, .int .u32 0, .int .u32 0, .int .u32 0, .int .u32 0, .int .u32 0, .int .u32 0, .int .u32 0, .int .u32 0, .int .u32 0] : Array Value).size = (vmA pc r).size by rw [vmA_size pc r hr]; rfl)
  have HRW := Lib.hid (rows5 w y d pc r)
  have HB5 := Lib.hid (show Below w.heap.size w (((((w.alloc (.cells #[.int .u16 y.code, .int .u8 y.jt, .int .u8 y.jf, .int .u32 y.k] 36)).alloc (.cells #[.int .u32 d.nr, .int .u32 d.arch, .int .u64 d.ip, .int .u64 d.a0, .int .u64 d.a1, .int .u64 d.a2, .int .u64 d.a3, .int .u64 d.a4, .int .u64 d.a5] 47)).alloc (.cells (vmA pc r) 50)).alloc (.cells #[.int .i64 0, .int .u32 0, .int .u32 0, .int .u32 0, .int .u32 0, .int .u32 0, .int .u32 0, .int .u32 0, .int .u32 0, .int .u32 0, .int .u32 0, .int .u32 0, .int .u32 0, .int .u32 0, .int .u32 0, .int .u32 0, .int .u32 0, .int .u32 0, .int .u32 0] 50)).alloc (.cells (vmA pc r) 50)) by (repeat (first | with_reducible exact Below.refl _ _ | with_reducible assumption | ((with_reducible refine Below.setCell ?_ ?hp _); case hp => (first | omega | (simp only [World.size_alloc, World.size_setCell, World.size_drew]; omega) | (simp; done) | (simp; omega))) | ((with_reducible refine Below.alloc ?_ ?hp _); case hp => (first | omega | (simp only [World.size_alloc, World.size_setCell, World.size_drew]; omega) | (simp; done) | (simp; omega))) | with_reducible refine Below.drew ?_ | with_reducible refine below_drewN ?_ _)))
  clear hy hd hr
  go_enter Try.func68, Try.ntmps68
  go_wp2_with (first
    | (refine wpList_load_row rfl 50 (.tmp 5) rfl (w.heap.size + 2) rfl 50 (vmA pc r) (0, 0) _ HL.out Try.underlying50 rfl (HI.out _ _ HR.out) ?_; go_simp)
    | (refine wpList_store_row rfl 50 (.tmp 9) (.tmp 13) rfl (w.heap.size + 4) (vmA pc r) rfl rfl 50 #[.int .i64 0, .int .u32 0, .int .u32 0, .int .u32 0, .int .u32 0, .int .u32 0, .int .u32 0, .int .u32 0, .int .u32 0, .int .u32 0, .int .u32 0, .int .u32 0, .int .u32 0, .int .u32 0, .int .u32 0, .int .u32 0, .int .u32 0, .int .u32 0, .int .u32 0] HZ.out (HI.out _ _ HR.out) HSZ.out (vmA_one pc r) ?_; rw [row5]; generalize (((((w.alloc (.cells #[.int .u16 y.code, .int .u8 y.jt, .int .u8 y.jf, .int .u32 y.k] 36)).alloc (.cells #[.int .u32 d.nr, .int .u32 d.arch, .int .u64 d.ip, .int .u64 d.a0, .int .u64 d.a1, .int .u64 d.a2, .int .u64 d.a3, .int .u64 d.a4, .int .u64 d.a5] 47)).alloc (.cells (vmA pc r) 50)).alloc (.cells #[.int .i64 0, .int .u32 0, .int .u32 0, .int .u32 0, .int .u32 0, .int .u32 0, .int .u32 0, .int .u32 0, .int .u32 0, .int .u32 0, .int .u32 0, .int .u32 0, .int .u32 0, .int .u32 0, .int .u32 0, .int .u32 0, .int .u32 0, .int .u32 0, .int .u32 0] 50)).alloc (.cells (vmA pc r) 50)) = W5 at HRW HB5 ⊢; clear HL HZ; have HRW6 := Lib.hid (HRW.out.set 0 (.int .i64 (pc + 1)) (vmA_pc pc (pc + 1) r)); have HB6 := Lib.hid (HB5.out.setCell (p := ⟨w.heap.size + 4, 0, none⟩) (by show w.heap.size ≤ w.heap.size + 4; omega) (.int .i64 (pc + 1))); have HF := Lib.hid (HRW6.out.set 2 (.int .u32 r.a) (vmA_x (pc + 1) r r.a)); have HFB := Lib.hid (HB6.out.setCell (p := ⟨w.heap.size + 4, 2, none⟩) (by show w.heap.size ≤ w.heap.size + 4; omega) (.int .u32 r.a)); have nm : W5.cell? ⟨w.heap.size + 4, 2, none⟩ = some (.int .u32 (r.x : Nat)) := (cell_of_row _ _ _ _ _ _ HRW.out.n).trans (vmA_2 pc r); obtain ⟨x0, x1, x2, x3, n0, a0, a1, a2, fz, zz⟩ := HRW.out.facts; go_simp)
    | (refine wpList_load_row rfl 50 (.tmp 9) rfl (w.heap.size + 4) rfl 50 (vmA (pc + 1) { r with x := r.a }) (0, 0) _ HF.out.n Try.underlying50 rfl (HI.out _ _ HS.out) ?_; go_simp)
    | (refine wpList_store_row rfl 50 (.tmp 6) (.tmp 134) rfl (w.heap.size + 3) (vmA (pc + 1) { r with x := r.a }) rfl rfl 50 _ HF.out.o (HI.out _ _ HS.out) HSZ2.out (vmA_one _ _) ?_; go_simp))
  all_goals exact bodyPost_ret (results_cell3 rfl _ _ (w.heap.size + 3) 50 (vmA (pc + 1) { r with x := r.a }) (0, 0) _ rfl (setRow_heap _ _ _ _ _ _ HF.out.o) Try.underlying50 rfl (HI.out _ _ HS.out)) rfl ⟨by rw [HV.out]; rfl, below_row HFB.out (by omega) _⟩

set_option maxRecDepth 100000 in
set_option maxHeartbeats 1000000 in
theorem step_71 (y : Insn) (hy : y.Ok) (d : Dt) (hd : d.Ok) (pc : Int) (hp1 : 0 ≤ pc) (hp2 : pc ≤ 1000000) (r : Rg) (hr : r.Ok) (hc : y.code % 8 = 7) (hb : y.code / 128 % 2 = 1) (w : World) :
    Calls Try.prog 68 #[(Value.agg #[.int .u16 y.code, .int .u8 y.jt, .int .u8 y.jf, .int .u32 y.k]), (Value.agg #[.int .u32 d.nr, .int .u32 d.arch, .int .u64 d.ip, .int .u64 d.a0, .int .u64 d.a1, .int .u64 d.a2, .int .u64 d.a3, .int .u64 d.a4, .int .u64 d.a5]), .agg (vmA pc r)] w fun e w' => e = .returned (stepV y (datL d) pc r) ∧ Below w.heap.size w w' := by
  have HR := Lib.hid hr
  have HI := Lib.hid (fun q (s : Rg) (h : s.Ok) => info_vm q s h)
  have HY := Lib.hid hy
  have HDt := Lib.hid hd
  have m8 := u16_8 y.code hy.code
  have m7 := u16_7 y.code hy.code
  have c7 : bits .and .u16 (y.code : Int) 7 = 7 := by rw [m7, hc]; rfl
  have c128 : bits .and .u16 (y.code : Int) 128 = 128 := by rw [u16_128 y.code hy.code, hb]; rfl
  have HS := Lib.hid (show Rg.Ok { r with a := r.x } from hr.setA hr.x)
  have HV := Lib.hid (show stepV y (datL d) pc r = .tuple #[.agg (vmA (pc + 1) { r with a := r.x }), .int .u32 0, .bool false] by
    unfold stepV endsL effL offL; rw [hc, hb]; simp)
  clear m7 hc hb
  have HSZ2 := Lib.hid (show (#[.int .i64 0, .int .u32 0, .int .u32 0, .int .u32 0, .int .u32 0, .int .u32 0, .int .u32 0, .int .u32 0, .int .u32 0, .int .u32 0, .int .u32 0, .int .u32 0, .int .u32 0, .int .u32 0, .int .u32 0, .int .u32 0, .int .u32 0, .int .u32 0, .int .u32 0] : Array Value).size = (vmA (pc + 1) { r with a := r.x }).size by rw [vmA_size _ _ HS.out]; rfl)
  have hp3 : -9223372036854775808 ≤ pc + 1 := by omega
  have hp4 : pc + 1 ≤ 9223372036854775807 := by omega
  have HL := Lib.hid (show ((((w.alloc (.cells #[.int .u16 y.code, .int .u8 y.jt, .int .u8 y.jf, .int .u32 y.k] 36)).alloc (.cells #[.int .u32 d.nr, .int .u32 d.arch, .int .u64 d.ip, .int .u64 d.a0, .int .u64 d.a1, .int .u64 d.a2, .int .u64 d.a3, .int .u64 d.a4, .int .u64 d.a5] 47)).alloc (.cells (vmA pc r) 50)).alloc (.cells #[.int .i64 0, .int .u32 0, .int .u32 0, .int .u32 0, .int .u32 0, .int .u32 0, .int .u32 0, .int .u32 0, .int .u32 0, .int .u32 0, .int .u32 0, .int .u32 0, .int .u32 0, .int .u32 0, .int .u32 0, .int .u32 0, .int .u32 0, .int .u32 0, .int .u32 0] 50)).heap[w.heap.size + 2]? = some (.cells (vmA pc r) 50 (0, 0)) from (heap4 w _ _ _ _).1)
  have HZ := Lib.hid (show (((((w.alloc (.cells #[.int .u16 y.code, .int .u8 y.jt, .int .u8 y.jf, .int .u32 y.k] 36)).alloc (.cells #[.int .u32 d.nr, .int .u32 d.arch, .int .u64 d.ip, .int .u64 d.a0, .int .u64 d.a1, .int .u64 d.a2, .int .u64 d.a3, .int .u64 d.a4, .int .u64 d.a5] 47)).alloc (.cells (vmA pc r) 50)).alloc (.cells #[.int .i64 0, .int .u32 0, .int .u32 0, .int .u32 0, .int .u32 0, .int .u32 0, .int .u32 0, .int .u32 0, .int .u32 0, .int .u32 0, .int .u32 0, .int .u32 0, .int .u32 0, .int .u32 0, .int .u32 0, .int .u32 0, .int .u32 0, .int .u32 0, .int .u32 0] 50)).alloc (.cells #[.int .i64 0, .int .u32 0, .int .u32 0, .int .u32 0, .int .u32 0, .int .u32 0, .int .u32 0, .int .u32 0, .int .u32 0, .int .u32 0, .int .u32 0, .int .u32 0, .int .u32 0, .int .u32 0, .int .u32 0, .int .u32 0, .int .u32 0, .int .u32 0, .int .u32 0] 50)).heap[w.heap.size + 4]? = some (.cells #[.int .i64 0, .int .u32 0, .int .u32 0, .int .u32 0, .int .u32 0, .int .u32 0, .int .u32 0, .int .u32 0, .int .u32 0, .int .u32 0, .int .u32 0, .int .u32 0, .int .u32 0, .int .u32 0, .int .u32 0, .int .u32 0, .int .u32 0, .int .u32 0, .int .u32 0] 50 (0, 0)) from (heap5 w _ _ _ _ _).2.2.2.2)
  have HSZ := Lib.hid (show (#[.int .i64 0, .int .u32 0, .int .u32 0, .int .u32 0, .int .u32 0, .int .u32 0, .int .u32 0, .int .u32 0, .int .u32 0, .int .u32 0, .int .u32 0, .int .u32 0, .int .u32 0, .int .u32 0, .int .u32 0, .int .u32 0, .int .u32 0, .int .u32 0, .int .u32 0] : Array Value).size = (vmA pc r).size by rw [vmA_size pc r hr]; rfl)
  have HRW := Lib.hid (rows5 w y d pc r)
  have HB5 := Lib.hid (show Below w.heap.size w (((((w.alloc (.cells #[.int .u16 y.code, .int .u8 y.jt, .int .u8 y.jf, .int .u32 y.k] 36)).alloc (.cells #[.int .u32 d.nr, .int .u32 d.arch, .int .u64 d.ip, .int .u64 d.a0, .int .u64 d.a1, .int .u64 d.a2, .int .u64 d.a3, .int .u64 d.a4, .int .u64 d.a5] 47)).alloc (.cells (vmA pc r) 50)).alloc (.cells #[.int .i64 0, .int .u32 0, .int .u32 0, .int .u32 0, .int .u32 0, .int .u32 0, .int .u32 0, .int .u32 0, .int .u32 0, .int .u32 0, .int .u32 0, .int .u32 0, .int .u32 0, .int .u32 0, .int .u32 0, .int .u32 0, .int .u32 0, .int .u32 0, .int .u32 0] 50)).alloc (.cells (vmA pc r) 50)) by (repeat (first | with_reducible exact Below.refl _ _ | with_reducible assumption | ((with_reducible refine Below.setCell ?_ ?hp _); case hp => (first | omega | (simp only [World.size_alloc, World.size_setCell, World.size_drew]; omega) | (simp; done) | (simp; omega))) | ((with_reducible refine Below.alloc ?_ ?hp _); case hp => (first | omega | (simp only [World.size_alloc, World.size_setCell, World.size_drew]; omega) | (simp; done) | (simp; omega))) | with_reducible refine Below.drew ?_ | with_reducible refine below_drewN ?_ _)))
  clear hy hd hr
  go_enter Try.func68, Try.ntmps68
  go_wp2_with (first
    | (refine wpList_load_row rfl 50 (.tmp 5) rfl (w.heap.size + 2) rfl 50 (vmA pc r) (0, 0) _ HL.out Try.underlying50 rfl (HI.out _ _ HR.out) ?_; go_simp)
    | (refine wpList_store_row rfl 50 (.tmp 9) (.tmp 13) rfl (w.heap.size + 4) (vmA pc r) rfl rfl 50 #[.int .i64 0, .int .u32 0, .int .u32 0, .int .u32 0, .int .u32 0, .int .u32 0, .int .u32 0, .int .u32 0, .int .u32 0, .int .u32 0, .int .u32 0, .int .u32 0, .int .u32 0, .int .u32 0, .int .u32 0, .int .u32 0, .int .u32 0, .int .u32 0, .int .u32 0] HZ.out (HI.out _ _ HR.out) HSZ.out (vmA_one pc r) ?_; rw [row5]; generalize (((((w.alloc (.cells #[.int .u16 y.code, .int .u8 y.jt, .int .u8 y.jf, .int .u32 y.k] 36)).alloc (.cells #[.int .u32 d.nr, .int .u32 d.arch, .int .u64 d.ip, .int .u64 d.a0, .int .u64 d.a1, .int .u64 d.a2, .int .u64 d.a3, .int .u64 d.a4, .int .u64 d.a5] 47)).alloc (.cells (vmA pc r) 50)).alloc (.cells #[.int .i64 0, .int .u32 0, .int .u32 0, .int .u32 0, .int .u32 0, .int .u32 0, .int .u32 0, .int .u32 0, .int .u32 0, .int .u32 0, .int .u32 0, .int .u32 0, .int .u32 0, .int .u32 0, .int .u32 0, .int .u32 0, .int .u32 0, .int .u32 0, .int .u32 0] 50)).alloc (.cells (vmA pc r) 50)) = W5 at HRW HB5 ⊢; clear HL HZ; have HRW6 := Lib.hid (HRW.out.set 0 (.int .i64 (pc + 1)) (vmA_pc pc (pc + 1) r)); have HB6 := Lib.hid (HB5.out.setCell (p := ⟨w.heap.size + 4, 0, none⟩) (by show w.heap.size ≤ w.heap.size + 4; omega) (.int .i64 (pc + 1))); have HF := Lib.hid (HRW6.out.set 1 (.int .u32 r.x) (vmA_a (pc + 1) r r.x)); have HFB := Lib.hid (HB6.out.setCell (p := ⟨w.heap.size + 4, 1, none⟩) (by show w.heap.size ≤ w.heap.size + 4; omega) (.int .u32 r.x)); have nm : W5.cell? ⟨w.heap.size + 4, 1, none⟩ = some (.int .u32 (r.a : Nat)) := (cell_of_row _ _ _ _ _ _ HRW.out.n).trans (vmA_1 pc r); obtain ⟨x0, x1, x2, x3, n0, a0, a1, a2, fz, zz⟩ := HRW.out.facts; go_simp)
    | (refine wpList_load_row rfl 50 (.tmp 9) rfl (w.heap.size + 4) rfl 50 (vmA (pc + 1) { r with a := r.x }) (0, 0) _ HF.out.n Try.underlying50 rfl (HI.out _ _ HS.out) ?_; go_simp)
    | (refine wpList_store_row rfl 50 (.tmp 6) (.tmp 134) rfl (w.heap.size + 3) (vmA (pc + 1) { r with a := r.x }) rfl rfl 50 _ HF.out.o (HI.out _ _ HS.out) HSZ2.out (vmA_one _ _) ?_; go_simp))
  all_goals exact bodyPost_ret (results_cell3 rfl _ _ (w.heap.size + 3) 50 (vmA (pc + 1) { r with a := r.x }) (0, 0) _ rfl (setRow_heap _ _ _ _ _ _ HF.out.o) Try.underlying50 rfl (HI.out _ _ HS.out)) rfl ⟨by rw [HV.out]; rfl, below_row HFB.out (by omega) _⟩

end Go.Proofs.Ytfjbanfibmpalaa

/- Contracts: the machine's step, loads, numbers, jumps. -/
import Derived.Test.YtfjbanfibmpalaaVC
set_option linter.unusedVariables false
set_option linter.unusedSimpArgs false
namespace Go.Proofs.Ytfjbanfibmpalaa
open Go.RowKit Go.Shelf

theorem otherL_lt {y : Insn} (hy : y.Ok) {r : Rg} (hr : r.Ok) : otherL y r < 4294967296 := by
  unfold otherL; split
  · exact hr.x
  · exact hy.k
theorem loadL_lt {y : Insn} (hy : y.Ok) {d : Nat → Nat} (hd : ∀ k, d k < 4294967296) {r : Rg} (hr : r.Ok) : loadL y d r < 4294967296 := by
  unfold loadL; split
  · exact hy.k
  · split
    · exact hd _
    · split
      · rw [List.getD_eq_getElem?_getD]
        rcases Nat.lt_or_ge y.k r.mem.length with h | h
        · rw [List.getElem?_eq_getElem h]; exact hr.mem _ (List.getElem_mem h)
        · rw [List.getElem?_eq_none h]; decide
      · decide
theorem aluL_lt {i a b : Nat} (ha : a < 4294967296) (hb : b < 4294967296) : (aluL i a b).1 < 4294967296 := by
  unfold aluL
  repeat' split
  all_goals (first | exact Nat.mod_lt _ (by decide) | decide | exact Nat.lt_of_le_of_lt (Nat.div_le_self _ _) ha | exact Nat.or_lt_two_pow (n := 32) ha hb | exact Nat.and_lt_two_pow (n := 32) _ hb | exact Nat.xor_lt_two_pow (n := 32) ha hb)

set_option maxRecDepth 100000 in
set_option maxHeartbeats 1000000 in
theorem step_0 (y : Insn) (hy : y.Ok) (d : Dt) (hd : d.Ok) (pc : Int) (hp1 : 0 ≤ pc) (hp2 : pc ≤ 1000000) (r : Rg) (hr : r.Ok) (hc : y.code % 8 = 0) (hk : y.code / 32 % 8 = 3 → y.k < 16) (w : World) :
    Calls Try.prog 68 #[(Value.agg #[.int .u16 y.code, .int .u8 y.jt, .int .u8 y.jf, .int .u32 y.k]), (Value.agg #[.int .u32 d.nr, .int .u32 d.arch, .int .u64 d.ip, .int .u64 d.a0, .int .u64 d.a1, .int .u64 d.a2, .int .u64 d.a3, .int .u64 d.a4, .int .u64 d.a5]), .agg (vmA pc r)] w fun e w' => e = .returned (stepV y (datL d) pc r) ∧ Below w.heap.size w w' := by
  have HR := Lib.hid hr
  have HI := Lib.hid (fun q (s : Rg) (h : s.Ok) => info_vm q s h)
  have HY := Lib.hid hy
  have HDt := Lib.hid hd
  have m8 := u16_8 y.code hy.code
  have m7 := u16_7 y.code hy.code
  have c7 : bits .and .u16 (y.code : Int) 7 = 0 := by rw [m7, hc]; rfl
  have HLD := Lib.hid (fun W => loaded_any y hy d hd pc r hr hk W)
  have HS := Lib.hid (show Rg.Ok { r with a := loadL y (datL d) r } from hr.setA (loadL_lt hy (datL_lt hd) hr))
  have HV := Lib.hid (show stepV y (datL d) pc r = .tuple #[.agg (vmA (pc + 1) { r with a := loadL y (datL d) r }), .int .u32 0, .bool false] by
    unfold stepV endsL effL offL; rw [hc]; simp)
  clear m7 hc
  have HSZ2 := Lib.hid (show (#[.int .i64 0, .int .u32 0, .int .u32 0, .int .u32 0, .int .u32 0, .int .u32 0, .int .u32 0, .int .u32 0, .int .u32 0, .int .u32 0, .int .u32 0, .int .u32 0, .int .u32 0, .int .u32 0, .int .u32 0, .int .u32 0, .int .u32 0, .int .u32 0, .int .u32 0] : Array Value).size = (vmA (pc + 1) { r with a := loadL y (datL d) r }).size by rw [vmA_size _ _ HS.out]; rfl)
  have hp3 : -9223372036854775808 ≤ pc + 1 := by omega
  have hp4 : pc + 1 ≤ 9223372036854775807 := by omega
  have HL := Lib.hid (show ((((w.alloc (.cells #[.int .u16 y.code, .int .u8 y.jt, .int .u8 y.jf, .int .u32 y.k] 36)).alloc (.cells #[.int .u32 d.nr, .int .u32 d.arch, .int .u64 d.ip, .int .u64 d.a0, .int .u64 d.a1, .int .u64 d.a2, .int .u64 d.a3, .int .u64 d.a4, .int .u64 d.a5] 47)).alloc (.cells (vmA pc r) 50)).alloc (.cells #[.int .i64 0, .int .u32 0, .int .u32 0, .int .u32 0, .int .u32 0, .int .u32 0, .int .u32 0, .int .u32 0, .int .u32 0, .int .u32 0, .int .u32 0, .int .u32 0, .int .u32 0, .int .u32 0, .int .u32 0, .int .u32 0, .int .u32 0, .int .u32 0, .int .u32 0] 50)).heap[w.heap.size + 2]? = some (.cells (vmA pc r) 50 (0, 0)) from (heap4 w _ _ _ _).1)
  have HZ := Lib.hid (show (((((w.alloc (.cells #[.int .u16 y.code, .int .u8 y.jt, .int .u8 y.jf, .int .u32 y.k] 36)).alloc (.cells #[.int .u32 d.nr, .int .u32 d.arch, .int .u64 d.ip, .int .u64 d.a0, .int .u64 d.a1, .int .u64 d.a2, .int .u64 d.a3, .int .u64 d.a4, .int .u64 d.a5] 47)).alloc (.cells (vmA pc r) 50)).alloc (.cells #[.int .i64 0, .int .u32 0, .int .u32 0, .int .u32 0, .int .u32 0, .int .u32 0, .int .u32 0, .int .u32 0, .int .u32 0, .int .u32 0, .int .u32 0, .int .u32 0, .int .u32 0, .int .u32 0, .int .u32 0, .int .u32 0, .int .u32 0, .int .u32 0, .int .u32 0] 50)).alloc (.cells #[.int .i64 0, .int .u32 0, .int .u32 0, .int .u32 0, .int .u32 0, .int .u32 0, .int .u32 0, .int .u32 0, .int .u32 0, .int .u32 0, .int .u32 0, .int .u32 0, .int .u32 0, .int .u32 0, .int .u32 0, .int .u32 0, .int .u32 0, .int .u32 0, .int .u32 0] 50)).heap[w.heap.size + 4]? = some (.cells #[.int .i64 0, .int .u32 0, .int .u32 0, .int .u32 0, .int .u32 0, .int .u32 0, .int .u32 0, .int .u32 0, .int .u32 0, .int .u32 0, .int .u32 0, .int .u32 0, .int .u32 0, .int .u32 0, .int .u32 0, .int .u32 0, .int .u32 0, .int .u32 0, .int .u32 0] 50 (0, 0)) from (heap5 w _ _ _ _ _).2.2.2.2)
  have HSZ := Lib.hid (show (#[.int .i64 0, .int .u32 0, .int .u32 0, .int .u32 0, .int .u32 0, .int .u32 0, .int .u32 0, .int .u32 0, .int .u32 0, .int .u32 0, .int .u32 0, .int .u32 0, .int .u32 0, .int .u32 0, .int .u32 0, .int .u32 0, .int .u32 0, .int .u32 0, .int .u32 0] : Array Value).size = (vmA pc r).size by rw [vmA_size pc r hr]; rfl)
  have HRW := Lib.hid (rows5 w y d pc r)
  have HB5 := Lib.hid (show Below w.heap.size w (((((w.alloc (.cells #[.int .u16 y.code, .int .u8 y.jt, .int .u8 y.jf, .int .u32 y.k] 36)).alloc (.cells #[.int .u32 d.nr, .int .u32 d.arch, .int .u64 d.ip, .int .u64 d.a0, .int .u64 d.a1, .int .u64 d.a2, .int .u64 d.a3, .int .u64 d.a4, .int .u64 d.a5] 47)).alloc (.cells (vmA pc r) 50)).alloc (.cells #[.int .i64 0, .int .u32 0, .int .u32 0, .int .u32 0, .int .u32 0, .int .u32 0, .int .u32 0, .int .u32 0, .int .u32 0, .int .u32 0, .int .u32 0, .int .u32 0, .int .u32 0, .int .u32 0, .int .u32 0, .int .u32 0, .int .u32 0, .int .u32 0, .int .u32 0] 50)).alloc (.cells (vmA pc r) 50)) by (repeat (first | with_reducible exact Below.refl _ _ | with_reducible assumption | ((with_reducible refine Below.setCell ?_ ?hp _); case hp => (first | omega | (simp only [World.size_alloc, World.size_setCell, World.size_drew]; omega) | (simp; done) | (simp; omega))) | ((with_reducible refine Below.alloc ?_ ?hp _); case hp => (first | omega | (simp only [World.size_alloc, World.size_setCell, World.size_drew]; omega) | (simp; done) | (simp; omega))) | with_reducible refine Below.drew ?_ | with_reducible refine below_drewN ?_ _)))
  clear hy hd hr
  go_enter Try.func68, Try.ntmps68
  go_wp2_with (first
    | (refine wpList_load_row rfl 50 (.tmp 5) rfl (w.heap.size + 2) rfl 50 (vmA pc r) (0, 0) _ HL.out Try.underlying50 rfl (HI.out _ _ HR.out) ?_; go_simp)
    | (refine wpList_store_row rfl 50 (.tmp 9) (.tmp 13) rfl (w.heap.size + 4) (vmA pc r) rfl rfl 50 #[.int .i64 0, .int .u32 0, .int .u32 0, .int .u32 0, .int .u32 0, .int .u32 0, .int .u32 0, .int .u32 0, .int .u32 0, .int .u32 0, .int .u32 0, .int .u32 0, .int .u32 0, .int .u32 0, .int .u32 0, .int .u32 0, .int .u32 0, .int .u32 0, .int .u32 0] HZ.out (HI.out _ _ HR.out) HSZ.out (vmA_one pc r) ?_; rw [row5]; generalize (((((w.alloc (.cells #[.int .u16 y.code, .int .u8 y.jt, .int .u8 y.jf, .int .u32 y.k] 36)).alloc (.cells #[.int .u32 d.nr, .int .u32 d.arch, .int .u64 d.ip, .int .u64 d.a0, .int .u64 d.a1, .int .u64 d.a2, .int .u64 d.a3, .int .u64 d.a4, .int .u64 d.a5] 47)).alloc (.cells (vmA pc r) 50)).alloc (.cells #[.int .i64 0, .int .u32 0, .int .u32 0, .int .u32 0, .int .u32 0, .int .u32 0, .int .u32 0, .int .u32 0, .int .u32 0, .int .u32 0, .int .u32 0, .int .u32 0, .int .u32 0, .int .u32 0, .int .u32 0, .int .u32 0, .int .u32 0, .int .u32 0, .int .u32 0] 50)).alloc (.cells (vmA pc r) 50)) = W5 at HRW HB5 ⊢; clear HL HZ; have HRW6 := Lib.hid (HRW.out.set 0 (.int .i64 (pc + 1)) (vmA_pc pc (pc + 1) r)); have HB6 := Lib.hid (HB5.out.setCell (p := ⟨w.heap.size + 4, 0, none⟩) (by show w.heap.size ≤ w.heap.size + 4; omega) (.int .i64 (pc + 1))); obtain ⟨x0, x1, x2, x3, n0, a0, a1, a2, fz, zz⟩ := HRW.out.facts; go_simp)
    | (refine wpList_load_row rfl 50 (.tmp 9) rfl (w.heap.size + 4) rfl 50 (vmA (pc + 1) { r with a := loadL y (datL d) r }) (0, 0) _ HF.out.n Try.underlying50 rfl (HI.out _ _ HS.out) ?_; go_simp)
    | (refine wpList_store_row rfl 50 (.tmp 6) (.tmp 134) rfl (w.heap.size + 3) (vmA (pc + 1) { r with a := loadL y (datL d) r }) rfl rfl 50 _ HF.out.o (HI.out _ _ HS.out) HSZ2.out (vmA_one _ _) ?_; go_simp)
    | (refine wpList_load_row rfl 50 (.tmp 5) rfl (w.heap.size + 2) rfl 50 (vmA pc r) (0, 0) _ HRW6.out.m Try.underlying50 rfl (HI.out _ _ HR.out) ?_; go_simp)
    | (refine wpList_load_row rfl 47 (.tmp 4) rfl (w.heap.size + 1) rfl 47 #[.int .u32 d.nr, .int .u32 d.arch, .int .u64 d.ip, .int .u64 d.a0, .int .u64 d.a1, .int .u64 d.a2, .int .u64 d.a3, .int .u64 d.a4, .int .u64 d.a5] (0, 0) _ HRW6.out.d Try.underlying47 rfl (by kernel_rfl) ?_; go_simp)
    | (go_at_call 117; refine (HLD.out _).mono ?_; rintro e w1 ⟨rfl, hb1⟩; have HF1 := Lib.hid (HRW6.out.below hb1); have HFB1 := Lib.hid (HB6.out.trans (hb1.mono HB6.out.size)); have HF := Lib.hid (HF1.out.set 1 (.int .u32 (loadL y (datL d) r : Nat)) (vmA_a (pc + 1) r (loadL y (datL d) r))); have HFB := Lib.hid (HFB1.out.setCell (p := ⟨w.heap.size + 4, 1, none⟩) (by show w.heap.size ≤ w.heap.size + 4; omega) (.int .u32 (loadL y (datL d) r : Nat))); have nm : w1.cell? ⟨w.heap.size + 4, 1, none⟩ = some (.int .u32 (r.a : Nat)) := (cell_of_row _ _ _ _ _ _ HF1.out.n).trans (vmA_1 (pc + 1) r); have fz1 := HF1.out.facts.2.2.2.2.2.2.2.2.1; have zz1 := HF1.out.facts.2.2.2.2.2.2.2.2.2))
  all_goals exact bodyPost_ret (results_cell3 rfl _ _ (w.heap.size + 3) 50 (vmA (pc + 1) { r with a := loadL y (datL d) r }) (0, 0) _ rfl (setRow_heap _ _ _ _ _ _ HF.out.o) Try.underlying50 rfl (HI.out _ _ HS.out)) rfl ⟨by rw [HV.out]; rfl, below_row HFB.out (by omega) _⟩

set_option maxRecDepth 100000 in
set_option maxHeartbeats 1000000 in
theorem step_1 (y : Insn) (hy : y.Ok) (d : Dt) (hd : d.Ok) (pc : Int) (hp1 : 0 ≤ pc) (hp2 : pc ≤ 1000000) (r : Rg) (hr : r.Ok) (hc : y.code % 8 = 1) (hk : y.code / 32 % 8 = 3 → y.k < 16) (w : World) :
    Calls Try.prog 68 #[(Value.agg #[.int .u16 y.code, .int .u8 y.jt, .int .u8 y.jf, .int .u32 y.k]), (Value.agg #[.int .u32 d.nr, .int .u32 d.arch, .int .u64 d.ip, .int .u64 d.a0, .int .u64 d.a1, .int .u64 d.a2, .int .u64 d.a3, .int .u64 d.a4, .int .u64 d.a5]), .agg (vmA pc r)] w fun e w' => e = .returned (stepV y (datL d) pc r) ∧ Below w.heap.size w w' := by
  have HR := Lib.hid hr
  have HI := Lib.hid (fun q (s : Rg) (h : s.Ok) => info_vm q s h)
  have HY := Lib.hid hy
  have HDt := Lib.hid hd
  have m8 := u16_8 y.code hy.code
  have m7 := u16_7 y.code hy.code
  have c7 : bits .and .u16 (y.code : Int) 7 = 1 := by rw [m7, hc]; rfl
  have HLD := Lib.hid (fun W => loaded_any y hy d hd pc r hr hk W)
  have HS := Lib.hid (show Rg.Ok { r with x := loadL y (datL d) r } from hr.setX (loadL_lt hy (datL_lt hd) hr))
  have HV := Lib.hid (show stepV y (datL d) pc r = .tuple #[.agg (vmA (pc + 1) { r with x := loadL y (datL d) r }), .int .u32 0, .bool false] by
    unfold stepV endsL effL offL; rw [hc]; simp)
  clear m7 hc
  have HSZ2 := Lib.hid (show (#[.int .i64 0, .int .u32 0, .int .u32 0, .int .u32 0, .int .u32 0, .int .u32 0, .int .u32 0, .int .u32 0, .int .u32 0, .int .u32 0, .int .u32 0, .int .u32 0, .int .u32 0, .int .u32 0, .int .u32 0, .int .u32 0, .int .u32 0, .int .u32 0, .int .u32 0] : Array Value).size = (vmA (pc + 1) { r with x := loadL y (datL d) r }).size by rw [vmA_size _ _ HS.out]; rfl)
  have hp3 : -9223372036854775808 ≤ pc + 1 := by omega
  have hp4 : pc + 1 ≤ 9223372036854775807 := by omega
  have HL := Lib.hid (show ((((w.alloc (.cells #[.int .u16 y.code, .int .u8 y.jt, .int .u8 y.jf, .int .u32 y.k] 36)).alloc (.cells #[.int .u32 d.nr, .int .u32 d.arch, .int .u64 d.ip, .int .u64 d.a0, .int .u64 d.a1, .int .u64 d.a2, .int .u64 d.a3, .int .u64 d.a4, .int .u64 d.a5] 47)).alloc (.cells (vmA pc r) 50)).alloc (.cells #[.int .i64 0, .int .u32 0, .int .u32 0, .int .u32 0, .int .u32 0, .int .u32 0, .int .u32 0, .int .u32 0, .int .u32 0, .int .u32 0, .int .u32 0, .int .u32 0, .int .u32 0, .int .u32 0, .int .u32 0, .int .u32 0, .int .u32 0, .int .u32 0, .int .u32 0] 50)).heap[w.heap.size + 2]? = some (.cells (vmA pc r) 50 (0, 0)) from (heap4 w _ _ _ _).1)
  have HZ := Lib.hid (show (((((w.alloc (.cells #[.int .u16 y.code, .int .u8 y.jt, .int .u8 y.jf, .int .u32 y.k] 36)).alloc (.cells #[.int .u32 d.nr, .int .u32 d.arch, .int .u64 d.ip, .int .u64 d.a0, .int .u64 d.a1, .int .u64 d.a2, .int .u64 d.a3, .int .u64 d.a4, .int .u64 d.a5] 47)).alloc (.cells (vmA pc r) 50)).alloc (.cells #[.int .i64 0, .int .u32 0, .int .u32 0, .int .u32 0, .int .u32 0, .int .u32 0, .int .u32 0, .int .u32 0, .int .u32 0, .int .u32 0, .int .u32 0, .int .u32 0, .int .u32 0, .int .u32 0, .int .u32 0, .int .u32 0, .int .u32 0, .int .u32 0, .int .u32 0] 50)).alloc (.cells #[.int .i64 0, .int .u32 0, .int .u32 0, .int .u32 0, .int .u32 0, .int .u32 0, .int .u32 0, .int .u32 0, .int .u32 0, .int .u32 0, .int .u32 0, .int .u32 0, .int .u32 0, .int .u32 0, .int .u32 0, .int .u32 0, .int .u32 0, .int .u32 0, .int .u32 0] 50)).heap[w.heap.size + 4]? = some (.cells #[.int .i64 0, .int .u32 0, .int .u32 0, .int .u32 0, .int .u32 0, .int .u32 0, .int .u32 0, .int .u32 0, .int .u32 0, .int .u32 0, .int .u32 0, .int .u32 0, .int .u32 0, .int .u32 0, .int .u32 0, .int .u32 0, .int .u32 0, .int .u32 0, .int .u32 0] 50 (0, 0)) from (heap5 w _ _ _ _ _).2.2.2.2)
  have HSZ := Lib.hid (show (#[.int .i64 0, .int .u32 0, .int .u32 0, .int .u32 0, .int .u32 0, .int .u32 0, .int .u32 0, .int .u32 0, .int .u32 0, .int .u32 0, .int .u32 0, .int .u32 0, .int .u32 0, .int .u32 0, .int .u32 0, .int .u32 0, .int .u32 0, .int .u32 0, .int .u32 0] : Array Value).size = (vmA pc r).size by rw [vmA_size pc r hr]; rfl)
  have HRW := Lib.hid (rows5 w y d pc r)
  have HB5 := Lib.hid (show Below w.heap.size w (((((w.alloc (.cells #[.int .u16 y.code, .int .u8 y.jt, .int .u8 y.jf, .int .u32 y.k] 36)).alloc (.cells #[.int .u32 d.nr, .int .u32 d.arch, .int .u64 d.ip, .int .u64 d.a0, .int .u64 d.a1, .int .u64 d.a2, .int .u64 d.a3, .int .u64 d.a4, .int .u64 d.a5] 47)).alloc (.cells (vmA pc r) 50)).alloc (.cells #[.int .i64 0, .int .u32 0, .int .u32 0, .int .u32 0, .int .u32 0, .int .u32 0, .int .u32 0, .int .u32 0, .int .u32 0, .int .u32 0, .int .u32 0, .int .u32 0, .int .u32 0, .int .u32 0, .int .u32 0, .int .u32 0, .int .u32 0, .int .u32 0, .int .u32 0] 50)).alloc (.cells (vmA pc r) 50)) by (repeat (first | with_reducible exact Below.refl _ _ | with_reducible assumption | ((with_reducible refine Below.setCell ?_ ?hp _); case hp => (first | omega | (simp only [World.size_alloc, World.size_setCell, World.size_drew]; omega) | (simp; done) | (simp; omega))) | ((with_reducible refine Below.alloc ?_ ?hp _); case hp => (first | omega | (simp only [World.size_alloc, World.size_setCell, World.size_drew]; omega) | (simp; done) | (simp; omega))) | with_reducible refine Below.drew ?_ | with_reducible refine below_drewN ?_ _)))
  clear hy hd hr
  go_enter Try.func68, Try.ntmps68
  go_wp2_with (first
    | (refine wpList_load_row rfl 50 (.tmp 5) rfl (w.heap.size + 2) rfl 50 (vmA pc r) (0, 0) _ HL.out Try.underlying50 rfl (HI.out _ _ HR.out) ?_; go_simp)
    | (refine wpList_store_row rfl 50 (.tmp 9) (.tmp 13) rfl (w.heap.size + 4) (vmA pc r) rfl rfl 50 #[.int .i64 0, .int .u32 0, .int .u32 0, .int .u32 0, .int .u32 0, .int .u32 0, .int .u32 0, .int .u32 0, .int .u32 0, .int .u32 0, .int .u32 0, .int .u32 0, .int .u32 0, .int .u32 0, .int .u32 0, .int .u32 0, .int .u32 0, .int .u32 0, .int .u32 0] HZ.out (HI.out _ _ HR.out) HSZ.out (vmA_one pc r) ?_; rw [row5]; generalize (((((w.alloc (.cells #[.int .u16 y.code, .int .u8 y.jt, .int .u8 y.jf, .int .u32 y.k] 36)).alloc (.cells #[.int .u32 d.nr, .int .u32 d.arch, .int .u64 d.ip, .int .u64 d.a0, .int .u64 d.a1, .int .u64 d.a2, .int .u64 d.a3, .int .u64 d.a4, .int .u64 d.a5] 47)).alloc (.cells (vmA pc r) 50)).alloc (.cells #[.int .i64 0, .int .u32 0, .int .u32 0, .int .u32 0, .int .u32 0, .int .u32 0, .int .u32 0, .int .u32 0, .int .u32 0, .int .u32 0, .int .u32 0, .int .u32 0, .int .u32 0, .int .u32 0, .int .u32 0, .int .u32 0, .int .u32 0, .int .u32 0, .int .u32 0] 50)).alloc (.cells (vmA pc r) 50)) = W5 at HRW HB5 ⊢; clear HL HZ; have HRW6 := Lib.hid (HRW.out.set 0 (.int .i64 (pc + 1)) (vmA_pc pc (pc + 1) r)); have HB6 := Lib.hid (HB5.out.setCell (p := ⟨w.heap.size + 4, 0, none⟩) (by show w.heap.size ≤ w.heap.size + 4; omega) (.int .i64 (pc + 1))); obtain ⟨x0, x1, x2, x3, n0, a0, a1, a2, fz, zz⟩ := HRW.out.facts; go_simp)
    | (refine wpList_load_row rfl 50 (.tmp 9) rfl (w.heap.size + 4) rfl 50 (vmA (pc + 1) { r with x := loadL y (datL d) r }) (0, 0) _ HF.out.n Try.underlying50 rfl (HI.out _ _ HS.out) ?_; go_simp)
    | (refine wpList_store_row rfl 50 (.tmp 6) (.tmp 134) rfl (w.heap.size + 3) (vmA (pc + 1) { r with x := loadL y (datL d) r }) rfl rfl 50 _ HF.out.o (HI.out _ _ HS.out) HSZ2.out (vmA_one _ _) ?_; go_simp)
    | (refine wpList_load_row rfl 50 (.tmp 5) rfl (w.heap.size + 2) rfl 50 (vmA pc r) (0, 0) _ HRW6.out.m Try.underlying50 rfl (HI.out _ _ HR.out) ?_; go_simp)
    | (refine wpList_load_row rfl 47 (.tmp 4) rfl (w.heap.size + 1) rfl 47 #[.int .u32 d.nr, .int .u32 d.arch, .int .u64 d.ip, .int .u64 d.a0, .int .u64 d.a1, .int .u64 d.a2, .int .u64 d.a3, .int .u64 d.a4, .int .u64 d.a5] (0, 0) _ HRW6.out.d Try.underlying47 rfl (by kernel_rfl) ?_; go_simp)
    | (go_at_call 117; refine (HLD.out _).mono ?_; rintro e w1 ⟨rfl, hb1⟩; have HF1 := Lib.hid (HRW6.out.below hb1); have HFB1 := Lib.hid (HB6.out.trans (hb1.mono HB6.out.size)); have HF := Lib.hid (HF1.out.set 2 (.int .u32 (loadL y (datL d) r : Nat)) (vmA_x (pc + 1) r (loadL y (datL d) r))); have HFB := Lib.hid (HFB1.out.setCell (p := ⟨w.heap.size + 4, 2, none⟩) (by show w.heap.size ≤ w.heap.size + 4; omega) (.int .u32 (loadL y (datL d) r : Nat))); have nm : w1.cell? ⟨w.heap.size + 4, 2, none⟩ = some (.int .u32 (r.x : Nat)) := (cell_of_row _ _ _ _ _ _ HF1.out.n).trans (vmA_2 (pc + 1) r); have fz1 := HF1.out.facts.2.2.2.2.2.2.2.2.1; have zz1 := HF1.out.facts.2.2.2.2.2.2.2.2.2))
  all_goals exact bodyPost_ret (results_cell3 rfl _ _ (w.heap.size + 3) 50 (vmA (pc + 1) { r with x := loadL y (datL d) r }) (0, 0) _ rfl (setRow_heap _ _ _ _ _ _ HF.out.o) Try.underlying50 rfl (HI.out _ _ HS.out)) rfl ⟨by rw [HV.out]; rfl, below_row HFB.out (by omega) _⟩

set_option maxRecDepth 100000 in
set_option maxHeartbeats 1000000 in
theorem step_401 (y : Insn) (hy : y.Ok) (d : Dt) (hd : d.Ok) (pc : Int) (hp1 : 0 ≤ pc) (hp2 : pc ≤ 1000000) (r : Rg) (hr : r.Ok) (hc : y.code % 8 = 4) (hs : y.code / 8 % 2 = 0) (hok : (aluL (y.code / 16 % 16) r.a (otherL y r)).2 = true) (w : World) :
    Calls Try.prog 68 #[(Value.agg #[.int .u16 y.code, .int .u8 y.jt, .int .u8 y.jf, .int .u32 y.k]), (Value.agg #[.int .u32 d.nr, .int .u32 d.arch, .int .u64 d.ip, .int .u64 d.a0, .int .u64 d.a1, .int .u64 d.a2, .int .u64 d.a3, .int .u64 d.a4, .int .u64 d.a5]), .agg (vmA pc r)] w fun e w' => e = .returned (stepV y (datL d) pc r) ∧ Below w.heap.size w w' := by
  have HR := Lib.hid hr
  have HI := Lib.hid (fun q (s : Rg) (h : s.Ok) => info_vm q s h)
  have HY := Lib.hid hy
  have HDt := Lib.hid hd
  have m8 := u16_8 y.code hy.code
  have m7 := u16_7 y.code hy.code
  have c7 : bits .and .u16 (y.code : Int) 7 = 4 := by rw [m7, hc]; rfl
  have c8 : bits .and .u16 (y.code : Int) 8 = 0 := by rw [m8, hs]; rfl
  have HO := Lib.hid (show otherL y r = y.k by unfold otherL; rw [hs]; rfl)
  have HAL := Lib.hid (fun W => alu_any y.code r.a (otherL y r) hy.code hr.a (otherL_lt hy hr) W)
  have HS := Lib.hid (show Rg.Ok { r with a := (aluL (y.code / 16 % 16) r.a (otherL y r)).1 } from hr.setA (aluL_lt hr.a (otherL_lt hy hr)))
  have HV := Lib.hid (show stepV y (datL d) pc r = .tuple #[.agg (vmA (pc + 1) { r with a := (aluL (y.code / 16 % 16) r.a (otherL y r)).1 }), .int .u32 0, .bool false] by
    unfold stepV endsL effL offL; rw [hc]; simp [hok])
  have HSZ2 := Lib.hid (show (#[.int .i64 0, .int .u32 0, .int .u32 0, .int .u32 0, .int .u32 0, .int .u32 0, .int .u32 0, .int .u32 0, .int .u32 0, .int .u32 0, .int .u32 0, .int .u32 0, .int .u32 0, .int .u32 0, .int .u32 0, .int .u32 0, .int .u32 0, .int .u32 0, .int .u32 0] : Array Value).size = (vmA (pc + 1) { r with a := (aluL (y.code / 16 % 16) r.a (otherL y r)).1 }).size by rw [vmA_size _ _ HS.out]; rfl)
  rw [hok] at HAL
  generalize (aluL (y.code / 16 % 16) r.a (otherL y r)).1 = v at *
  rw [HO.out] at HAL
  clear m7 m8 hc hs hok
  have hp3 : -9223372036854775808 ≤ pc + 1 := by omega
  have hp4 : pc + 1 ≤ 9223372036854775807 := by omega
  have HL := Lib.hid (show ((((w.alloc (.cells #[.int .u16 y.code, .int .u8 y.jt, .int .u8 y.jf, .int .u32 y.k] 36)).alloc (.cells #[.int .u32 d.nr, .int .u32 d.arch, .int .u64 d.ip, .int .u64 d.a0, .int .u64 d.a1, .int .u64 d.a2, .int .u64 d.a3, .int .u64 d.a4, .int .u64 d.a5] 47)).alloc (.cells (vmA pc r) 50)).alloc (.cells #[.int .i64 0, .int .u32 0, .int .u32 0, .int .u32 0, .int .u32 0, .int .u32 0, .int .u32 0, .int .u32 0, .int .u32 0, .int .u32 0, .int .u32 0, .int .u32 0, .int .u32 0, .int .u32 0, .int .u32 0, .int .u32 0, .int .u32 0, .int .u32 0, .int .u32 0] 50)).heap[w.heap.size + 2]? = some (.cells (vmA pc r) 50 (0, 0)) from (heap4 w _ _ _ _).1)
  have HZ := Lib.hid (show (((((w.alloc (.cells #[.int .u16 y.code, .int .u8 y.jt, .int .u8 y.jf, .int .u32 y.k] 36)).alloc (.cells #[.int .u32 d.nr, .int .u32 d.arch, .int .u64 d.ip, .int .u64 d.a0, .int .u64 d.a1, .int .u64 d.a2, .int .u64 d.a3, .int .u64 d.a4, .int .u64 d.a5] 47)).alloc (.cells (vmA pc r) 50)).alloc (.cells #[.int .i64 0, .int .u32 0, .int .u32 0, .int .u32 0, .int .u32 0, .int .u32 0, .int .u32 0, .int .u32 0, .int .u32 0, .int .u32 0, .int .u32 0, .int .u32 0, .int .u32 0, .int .u32 0, .int .u32 0, .int .u32 0, .int .u32 0, .int .u32 0, .int .u32 0] 50)).alloc (.cells #[.int .i64 0, .int .u32 0, .int .u32 0, .int .u32 0, .int .u32 0, .int .u32 0, .int .u32 0, .int .u32 0, .int .u32 0, .int .u32 0, .int .u32 0, .int .u32 0, .int .u32 0, .int .u32 0, .int .u32 0, .int .u32 0, .int .u32 0, .int .u32 0, .int .u32 0] 50)).heap[w.heap.size + 4]? = some (.cells #[.int .i64 0, .int .u32 0, .int .u32 0, .int .u32 0, .int .u32 0, .int .u32 0, .int .u32 0, .int .u32 0, .int .u32 0, .int .u32 0, .int .u32 0, .int .u32 0, .int .u32 0, .int .u32 0, .int .u32 0, .int .u32 0, .int .u32 0, .int .u32 0, .int .u32 0] 50 (0, 0)) from (heap5 w _ _ _ _ _).2.2.2.2)
  have HSZ := Lib.hid (show (#[.int .i64 0, .int .u32 0, .int .u32 0, .int .u32 0, .int .u32 0, .int .u32 0, .int .u32 0, .int .u32 0, .int .u32 0, .int .u32 0, .int .u32 0, .int .u32 0, .int .u32 0, .int .u32 0, .int .u32 0, .int .u32 0, .int .u32 0, .int .u32 0, .int .u32 0] : Array Value).size = (vmA pc r).size by rw [vmA_size pc r hr]; rfl)
  have HRW := Lib.hid (rows5 w y d pc r)
  have HB5 := Lib.hid (show Below w.heap.size w (((((w.alloc (.cells #[.int .u16 y.code, .int .u8 y.jt, .int .u8 y.jf, .int .u32 y.k] 36)).alloc (.cells #[.int .u32 d.nr, .int .u32 d.arch, .int .u64 d.ip, .int .u64 d.a0, .int .u64 d.a1, .int .u64 d.a2, .int .u64 d.a3, .int .u64 d.a4, .int .u64 d.a5] 47)).alloc (.cells (vmA pc r) 50)).alloc (.cells #[.int .i64 0, .int .u32 0, .int .u32 0, .int .u32 0, .int .u32 0, .int .u32 0, .int .u32 0, .int .u32 0, .int .u32 0, .int .u32 0, .int .u32 0, .int .u32 0, .int .u32 0, .int .u32 0, .int .u32 0, .int .u32 0, .int .u32 0, .int .u32 0, .int .u32 0] 50)).alloc (.cells (vmA pc r) 50)) by (repeat (first | with_reducible exact Below.refl _ _ | with_reducible assumption | ((with_reducible refine Below.setCell ?_ ?hp _); case hp => (first | omega | (simp only [World.size_alloc, World.size_setCell, World.size_drew]; omega) | (simp; done) | (simp; omega))) | ((with_reducible refine Below.alloc ?_ ?hp _); case hp => (first | omega | (simp only [World.size_alloc, World.size_setCell, World.size_drew]; omega) | (simp; done) | (simp; omega))) | with_reducible refine Below.drew ?_ | with_reducible refine below_drewN ?_ _)))
  clear hy hd hr
  go_enter Try.func68, Try.ntmps68
  go_wp2_with (first
    | (refine wpList_load_row rfl 50 (.tmp 5) rfl (w.heap.size + 2) rfl 50 (vmA pc r) (0, 0) _ HL.out Try.underlying50 rfl (HI.out _ _ HR.out) ?_; go_simp)
    | (refine wpList_store_row rfl 50 (.tmp 9) (.tmp 13) rfl (w.heap.size + 4) (vmA pc r) rfl rfl 50 #[.int .i64 0, .int .u32 0, .int .u32 0, .int .u32 0, .int .u32 0, .int .u32 0, .int .u32 0, .int .u32 0, .int .u32 0, .int .u32 0, .int .u32 0, .int .u32 0, .int .u32 0, .int .u32 0, .int .u32 0, .int .u32 0, .int .u32 0, .int .u32 0, .int .u32 0] HZ.out (HI.out _ _ HR.out) HSZ.out (vmA_one pc r) ?_; rw [row5]; generalize (((((w.alloc (.cells #[.int .u16 y.code, .int .u8 y.jt, .int .u8 y.jf, .int .u32 y.k] 36)).alloc (.cells #[.int .u32 d.nr, .int .u32 d.arch, .int .u64 d.ip, .int .u64 d.a0, .int .u64 d.a1, .int .u64 d.a2, .int .u64 d.a3, .int .u64 d.a4, .int .u64 d.a5] 47)).alloc (.cells (vmA pc r) 50)).alloc (.cells #[.int .i64 0, .int .u32 0, .int .u32 0, .int .u32 0, .int .u32 0, .int .u32 0, .int .u32 0, .int .u32 0, .int .u32 0, .int .u32 0, .int .u32 0, .int .u32 0, .int .u32 0, .int .u32 0, .int .u32 0, .int .u32 0, .int .u32 0, .int .u32 0, .int .u32 0] 50)).alloc (.cells (vmA pc r) 50)) = W5 at HRW HB5 ⊢; clear HL HZ; have HRW6 := Lib.hid (HRW.out.set 0 (.int .i64 (pc + 1)) (vmA_pc pc (pc + 1) r)); have HB6 := Lib.hid (HB5.out.setCell (p := ⟨w.heap.size + 4, 0, none⟩) (by show w.heap.size ≤ w.heap.size + 4; omega) (.int .i64 (pc + 1))); obtain ⟨x0, x1, x2, x3, n0, a0, a1, a2, fz, zz⟩ := HRW.out.facts; go_simp)
    | (refine wpList_load_row rfl 50 (.tmp 9) rfl (w.heap.size + 4) rfl 50 (vmA (pc + 1) { r with a := v }) (0, 0) _ HF.out.n Try.underlying50 rfl (HI.out _ _ HS.out) ?_; go_simp)
    | (refine wpList_store_row rfl 50 (.tmp 6) (.tmp 134) rfl (w.heap.size + 3) (vmA (pc + 1) { r with a := v }) rfl rfl 50 _ HF.out.o (HI.out _ _ HS.out) HSZ2.out (vmA_one _ _) ?_; go_simp)
    | (go_at_call 30; refine (HAL.out _).mono ?_; rintro e w1 ⟨rfl, hb1⟩; have HF1 := Lib.hid (HRW6.out.below hb1); have HFB1 := Lib.hid (HB6.out.trans (hb1.mono HB6.out.size)); have HF := Lib.hid (HF1.out.set 1 (.int .u32 (v : Nat)) (vmA_a (pc + 1) r v)); have HFB := Lib.hid (HFB1.out.setCell (p := ⟨w.heap.size + 4, 1, none⟩) (by show w.heap.size ≤ w.heap.size + 4; omega) (.int .u32 (v : Nat))); have nm : w1.cell? ⟨w.heap.size + 4, 1, none⟩ = some (.int .u32 (r.a : Nat)) := (cell_of_row _ _ _ _ _ _ HF1.out.n).trans (vmA_1 (pc + 1) r); have fz1 := HF1.out.facts.2.2.2.2.2.2.2.2.1; have zz1 := HF1.out.facts.2.2.2.2.2.2.2.2.2))
  all_goals exact bodyPost_ret (results_cell3 rfl _ _ (w.heap.size + 3) 50 (vmA (pc + 1) { r with a := v }) (0, 0) _ rfl (setRow_heap _ _ _ _ _ _ HF.out.o) Try.underlying50 rfl (HI.out _ _ HS.out)) rfl ⟨by rw [HV.out]; rfl, below_row HFB.out (by omega) _⟩

set_option maxRecDepth 100000 in
set_option maxHeartbeats 1000000 in
theorem step_400 (y : Insn) (hy : y.Ok) (d : Dt) (hd : d.Ok) (pc : Int) (hp1 : 0 ≤ pc) (hp2 : pc ≤ 1000000) (r : Rg) (hr : r.Ok) (hc : y.code % 8 = 4) (hs : y.code / 8 % 2 = 0) (hok : (aluL (y.code / 16 % 16) r.a (otherL y r)).2 = false) (w : World) :
    Calls Try.prog 68 #[(Value.agg #[.int .u16 y.code, .int .u8 y.jt, .int .u8 y.jf, .int .u32 y.k]), (Value.agg #[.int .u32 d.nr, .int .u32 d.arch, .int .u64 d.ip, .int .u64 d.a0, .int .u64 d.a1, .int .u64 d.a2, .int .u64 d.a3, .int .u64 d.a4, .int .u64 d.a5]), .agg (vmA pc r)] w fun e w' => e = .returned (stepV y (datL d) pc r) ∧ Below w.heap.size w w' := by
  have HR := Lib.hid hr
  have HI := Lib.hid (fun q (s : Rg) (h : s.Ok) => info_vm q s h)
  have HY := Lib.hid hy
  have HDt := Lib.hid hd
  have m8 := u16_8 y.code hy.code
  have m7 := u16_7 y.code hy.code
  have c7 : bits .and .u16 (y.code : Int) 7 = 4 := by rw [m7, hc]; rfl
  have c8 : bits .and .u16 (y.code : Int) 8 = 0 := by rw [m8, hs]; rfl
  have HO := Lib.hid (show otherL y r = y.k by unfold otherL; rw [hs]; rfl)
  have HAL := Lib.hid (fun W => alu_any y.code r.a (otherL y r) hy.code hr.a (otherL_lt hy hr) W)
  have HS := Lib.hid (show Rg.Ok { r with a := (aluL (y.code / 16 % 16) r.a (otherL y r)).1 } from hr.setA (aluL_lt hr.a (otherL_lt hy hr)))
  have HV := Lib.hid (show stepV y (datL d) pc r = .tuple #[.agg (vmA pc r), .int .u32 0, .bool true] by
    unfold stepV endsL; rw [hc]; simp [hok])
  rw [hok] at HAL
  generalize (aluL (y.code / 16 % 16) r.a (otherL y r)).1 = v at *
  rw [HO.out] at HAL
  clear m7 m8 hc hs hok
  have hp3 : -9223372036854775808 ≤ pc + 1 := by omega
  have hp4 : pc + 1 ≤ 9223372036854775807 := by omega
  have HL := Lib.hid (show ((((w.alloc (.cells #[.int .u16 y.code, .int .u8 y.jt, .int .u8 y.jf, .int .u32 y.k] 36)).alloc (.cells #[.int .u32 d.nr, .int .u32 d.arch, .int .u64 d.ip, .int .u64 d.a0, .int .u64 d.a1, .int .u64 d.a2, .int .u64 d.a3, .int .u64 d.a4, .int .u64 d.a5] 47)).alloc (.cells (vmA pc r) 50)).alloc (.cells #[.int .i64 0, .int .u32 0, .int .u32 0, .int .u32 0, .int .u32 0, .int .u32 0, .int .u32 0, .int .u32 0, .int .u32 0, .int .u32 0, .int .u32 0, .int .u32 0, .int .u32 0, .int .u32 0, .int .u32 0, .int .u32 0, .int .u32 0, .int .u32 0, .int .u32 0] 50)).heap[w.heap.size + 2]? = some (.cells (vmA pc r) 50 (0, 0)) from (heap4 w _ _ _ _).1)
  have HZ := Lib.hid (show (((((w.alloc (.cells #[.int .u16 y.code, .int .u8 y.jt, .int .u8 y.jf, .int .u32 y.k] 36)).alloc (.cells #[.int .u32 d.nr, .int .u32 d.arch, .int .u64 d.ip, .int .u64 d.a0, .int .u64 d.a1, .int .u64 d.a2, .int .u64 d.a3, .int .u64 d.a4, .int .u64 d.a5] 47)).alloc (.cells (vmA pc r) 50)).alloc (.cells #[.int .i64 0, .int .u32 0, .int .u32 0, .int .u32 0, .int .u32 0, .int .u32 0, .int .u32 0, .int .u32 0, .int .u32 0, .int .u32 0, .int .u32 0, .int .u32 0, .int .u32 0, .int .u32 0, .int .u32 0, .int .u32 0, .int .u32 0, .int .u32 0, .int .u32 0] 50)).alloc (.cells #[.int .i64 0, .int .u32 0, .int .u32 0, .int .u32 0, .int .u32 0, .int .u32 0, .int .u32 0, .int .u32 0, .int .u32 0, .int .u32 0, .int .u32 0, .int .u32 0, .int .u32 0, .int .u32 0, .int .u32 0, .int .u32 0, .int .u32 0, .int .u32 0, .int .u32 0] 50)).heap[w.heap.size + 4]? = some (.cells #[.int .i64 0, .int .u32 0, .int .u32 0, .int .u32 0, .int .u32 0, .int .u32 0, .int .u32 0, .int .u32 0, .int .u32 0, .int .u32 0, .int .u32 0, .int .u32 0, .int .u32 0, .int .u32 0, .int .u32 0, .int .u32 0, .int .u32 0, .int .u32 0, .int .u32 0] 50 (0, 0)) from (heap5 w _ _ _ _ _).2.2.2.2)
  have HSZ := Lib.hid (show (#[.int .i64 0, .int .u32 0, .int .u32 0, .int .u32 0, .int .u32 0, .int .u32 0, .int .u32 0, .int .u32 0, .int .u32 0, .int .u32 0, .int .u32 0, .int .u32 0, .int .u32 0, .int .u32 0, .int .u32 0, .int .u32 0, .int .u32 0, .int .u32 0, .int .u32 0] : Array Value).size = (vmA pc r).size by rw [vmA_size pc r hr]; rfl)
  have HRW := Lib.hid (rows5 w y d pc r)
  have HB5 := Lib.hid (show Below w.heap.size w (((((w.alloc (.cells #[.int .u16 y.code, .int .u8 y.jt, .int .u8 y.jf, .int .u32 y.k] 36)).alloc (.cells #[.int .u32 d.nr, .int .u32 d.arch, .int .u64 d.ip, .int .u64 d.a0, .int .u64 d.a1, .int .u64 d.a2, .int .u64 d.a3, .int .u64 d.a4, .int .u64 d.a5] 47)).alloc (.cells (vmA pc r) 50)).alloc (.cells #[.int .i64 0, .int .u32 0, .int .u32 0, .int .u32 0, .int .u32 0, .int .u32 0, .int .u32 0, .int .u32 0, .int .u32 0, .int .u32 0, .int .u32 0, .int .u32 0, .int .u32 0, .int .u32 0, .int .u32 0, .int .u32 0, .int .u32 0, .int .u32 0, .int .u32 0] 50)).alloc (.cells (vmA pc r) 50)) by (repeat (first | with_reducible exact Below.refl _ _ | with_reducible assumption | ((with_reducible refine Below.setCell ?_ ?hp _); case hp => (first | omega | (simp only [World.size_alloc, World.size_setCell, World.size_drew]; omega) | (simp; done) | (simp; omega))) | ((with_reducible refine Below.alloc ?_ ?hp _); case hp => (first | omega | (simp only [World.size_alloc, World.size_setCell, World.size_drew]; omega) | (simp; done) | (simp; omega))) | with_reducible refine Below.drew ?_ | with_reducible refine below_drewN ?_ _)))
  clear hy hd hr
  go_enter Try.func68, Try.ntmps68
  go_wp2_with (first
    | (refine wpList_load_row rfl 50 (.tmp 5) rfl (w.heap.size + 2) rfl 50 (vmA pc r) (0, 0) _ HL.out Try.underlying50 rfl (HI.out _ _ HR.out) ?_; go_simp)
    | (refine wpList_store_row rfl 50 (.tmp 9) (.tmp 13) rfl (w.heap.size + 4) (vmA pc r) rfl rfl 50 #[.int .i64 0, .int .u32 0, .int .u32 0, .int .u32 0, .int .u32 0, .int .u32 0, .int .u32 0, .int .u32 0, .int .u32 0, .int .u32 0, .int .u32 0, .int .u32 0, .int .u32 0, .int .u32 0, .int .u32 0, .int .u32 0, .int .u32 0, .int .u32 0, .int .u32 0] HZ.out (HI.out _ _ HR.out) HSZ.out (vmA_one pc r) ?_; rw [row5]; generalize (((((w.alloc (.cells #[.int .u16 y.code, .int .u8 y.jt, .int .u8 y.jf, .int .u32 y.k] 36)).alloc (.cells #[.int .u32 d.nr, .int .u32 d.arch, .int .u64 d.ip, .int .u64 d.a0, .int .u64 d.a1, .int .u64 d.a2, .int .u64 d.a3, .int .u64 d.a4, .int .u64 d.a5] 47)).alloc (.cells (vmA pc r) 50)).alloc (.cells #[.int .i64 0, .int .u32 0, .int .u32 0, .int .u32 0, .int .u32 0, .int .u32 0, .int .u32 0, .int .u32 0, .int .u32 0, .int .u32 0, .int .u32 0, .int .u32 0, .int .u32 0, .int .u32 0, .int .u32 0, .int .u32 0, .int .u32 0, .int .u32 0, .int .u32 0] 50)).alloc (.cells (vmA pc r) 50)) = W5 at HRW HB5 ⊢; clear HL HZ; have HRW6 := Lib.hid (HRW.out.set 0 (.int .i64 (pc + 1)) (vmA_pc pc (pc + 1) r)); have HB6 := Lib.hid (HB5.out.setCell (p := ⟨w.heap.size + 4, 0, none⟩) (by show w.heap.size ≤ w.heap.size + 4; omega) (.int .i64 (pc + 1))); obtain ⟨x0, x1, x2, x3, n0, a0, a1, a2, fz, zz⟩ := HRW.out.facts; go_simp)
    | (refine wpList_load_row rfl 50 (.tmp 5) rfl (w.heap.size + 2) rfl 50 (vmA pc r) (0, 0) _ HF1.out.m Try.underlying50 rfl (HI.out _ _ HR.out) ?_; go_simp)
    | (refine wpList_store_row rfl 50 (.tmp 6) (.tmp 72) rfl (w.heap.size + 3) (vmA pc r) rfl rfl 50 _ HF1.out.o (HI.out _ _ HR.out) HSZ.out (vmA_one _ _) ?_; go_simp)
    | (go_at_call 30; refine (HAL.out _).mono ?_; rintro e w1 ⟨rfl, hb1⟩; have HF1 := Lib.hid (HRW6.out.below hb1); have HFB1 := Lib.hid (HB6.out.trans (hb1.mono HB6.out.size))))
  all_goals exact bodyPost_ret (results_cell3 rfl _ _ (w.heap.size + 3) 50 (vmA pc r) (0, 0) _ rfl (setRow_heap _ _ _ _ _ _ HF1.out.o) Try.underlying50 rfl (HI.out _ _ HR.out)) rfl ⟨by rw [HV.out]; rfl, below_row HFB1.out (by omega) _⟩

set_option maxRecDepth 100000 in
set_option maxHeartbeats 1000000 in
theorem step_411 (y : Insn) (hy : y.Ok) (d : Dt) (hd : d.Ok) (pc : Int) (hp1 : 0 ≤ pc) (hp2 : pc ≤ 1000000) (r : Rg) (hr : r.Ok) (hc : y.code % 8 = 4) (hs : y.code / 8 % 2 = 1) (hok : (aluL (y.code / 16 % 16) r.a (otherL y r)).2 = true) (w : World) :
    Calls Try.prog 68 #[(Value.agg #[.int .u16 y.code, .int .u8 y.jt, .int .u8 y.jf, .int .u32 y.k]), (Value.agg #[.int .u32 d.nr, .int .u32 d.arch, .int .u64 d.ip, .int .u64 d.a0, .int .u64 d.a1, .int .u64 d.a2, .int .u64 d.a3, .int .u64 d.a4, .int .u64 d.a5]), .agg (vmA pc r)] w fun e w' => e = .returned (stepV y (datL d) pc r) ∧ Below w.heap.size w w' := by
  have HR := Lib.hid hr
  have HI := Lib.hid (fun q (s : Rg) (h : s.Ok) => info_vm q s h)
  have HY := Lib.hid hy
  have HDt := Lib.hid hd
  have m8 := u16_8 y.code hy.code
  have m7 := u16_7 y.code hy.code
  have c7 : bits .and .u16 (y.code : Int) 7 = 4 := by rw [m7, hc]; rfl
  have c8 : bits .and .u16 (y.code : Int) 8 = 8 := by rw [m8, hs]; rfl
  have HO := Lib.hid (show otherL y r = r.x by unfold otherL; rw [hs]; rfl)
  have HAL := Lib.hid (fun W => alu_any y.code r.a (otherL y r) hy.code hr.a (otherL_lt hy hr) W)
  have HS := Lib.hid (show Rg.Ok { r with a := (aluL (y.code / 16 % 16) r.a (otherL y r)).1 } from hr.setA (aluL_lt hr.a (otherL_lt hy hr)))
  have HV := Lib.hid (show stepV y (datL d) pc r = .tuple #[.agg (vmA (pc + 1) { r with a := (aluL (y.code / 16 % 16) r.a (otherL y r)).1 }), .int .u32 0, .bool false] by
    unfold stepV endsL effL offL; rw [hc]; simp [hok])
  have HSZ2 := Lib.hid (show (#[.int .i64 0, .int .u32 0, .int .u32 0, .int .u32 0, .int .u32 0, .int .u32 0, .int .u32 0, .int .u32 0, .int .u32 0, .int .u32 0, .int .u32 0, .int .u32 0, .int .u32 0, .int .u32 0, .int .u32 0, .int .u32 0, .int .u32 0, .int .u32 0, .int .u32 0] : Array Value).size = (vmA (pc + 1) { r with a := (aluL (y.code / 16 % 16) r.a (otherL y r)).1 }).size by rw [vmA_size _ _ HS.out]; rfl)
  rw [hok] at HAL
  generalize (aluL (y.code / 16 % 16) r.a (otherL y r)).1 = v at *
  rw [HO.out] at HAL
  clear m7 m8 hc hs hok
  have hp3 : -9223372036854775808 ≤ pc + 1 := by omega
  have hp4 : pc + 1 ≤ 9223372036854775807 := by omega
  have HL := Lib.hid (show ((((w.alloc (.cells #[.int .u16 y.code, .int .u8 y.jt, .int .u8 y.jf, .int .u32 y.k] 36)).alloc (.cells #[.int .u32 d.nr, .int .u32 d.arch, .int .u64 d.ip, .int .u64 d.a0, .int .u64 d.a1, .int .u64 d.a2, .int .u64 d.a3, .int .u64 d.a4, .int .u64 d.a5] 47)).alloc (.cells (vmA pc r) 50)).alloc (.cells #[.int .i64 0, .int .u32 0, .int .u32 0, .int .u32 0, .int .u32 0, .int .u32 0, .int .u32 0, .int .u32 0, .int .u32 0, .int .u32 0, .int .u32 0, .int .u32 0, .int .u32 0, .int .u32 0, .int .u32 0, .int .u32 0, .int .u32 0, .int .u32 0, .int .u32 0] 50)).heap[w.heap.size + 2]? = some (.cells (vmA pc r) 50 (0, 0)) from (heap4 w _ _ _ _).1)
  have HZ := Lib.hid (show (((((w.alloc (.cells #[.int .u16 y.code, .int .u8 y.jt, .int .u8 y.jf, .int .u32 y.k] 36)).alloc (.cells #[.int .u32 d.nr, .int .u32 d.arch, .int .u64 d.ip, .int .u64 d.a0, .int .u64 d.a1, .int .u64 d.a2, .int .u64 d.a3, .int .u64 d.a4, .int .u64 d.a5] 47)).alloc (.cells (vmA pc r) 50)).alloc (.cells #[.int .i64 0, .int .u32 0, .int .u32 0, .int .u32 0, .int .u32 0, .int .u32 0, .int .u32 0, .int .u32 0, .int .u32 0, .int .u32 0, .int .u32 0, .int .u32 0, .int .u32 0, .int .u32 0, .int .u32 0, .int .u32 0, .int .u32 0, .int .u32 0, .int .u32 0] 50)).alloc (.cells #[.int .i64 0, .int .u32 0, .int .u32 0, .int .u32 0, .int .u32 0, .int .u32 0, .int .u32 0, .int .u32 0, .int .u32 0, .int .u32 0, .int .u32 0, .int .u32 0, .int .u32 0, .int .u32 0, .int .u32 0, .int .u32 0, .int .u32 0, .int .u32 0, .int .u32 0] 50)).heap[w.heap.size + 4]? = some (.cells #[.int .i64 0, .int .u32 0, .int .u32 0, .int .u32 0, .int .u32 0, .int .u32 0, .int .u32 0, .int .u32 0, .int .u32 0, .int .u32 0, .int .u32 0, .int .u32 0, .int .u32 0, .int .u32 0, .int .u32 0, .int .u32 0, .int .u32 0, .int .u32 0, .int .u32 0] 50 (0, 0)) from (heap5 w _ _ _ _ _).2.2.2.2)
  have HSZ := Lib.hid (show (#[.int .i64 0, .int .u32 0, .int .u32 0, .int .u32 0, .int .u32 0, .int .u32 0, .int .u32 0, .int .u32 0, .int .u32 0, .int .u32 0, .int .u32 0, .int .u32 0, .int .u32 0, .int .u32 0, .int .u32 0, .int .u32 0, .int .u32 0, .int .u32 0, .int .u32 0] : Array Value).size = (vmA pc r).size by rw [vmA_size pc r hr]; rfl)
  have HRW := Lib.hid (rows5 w y d pc r)
  have HB5 := Lib.hid (show Below w.heap.size w (((((w.alloc (.cells #[.int .u16 y.code, .int .u8 y.jt, .int .u8 y.jf, .int .u32 y.k] 36)).alloc (.cells #[.int .u32 d.nr, .int .u32 d.arch, .int .u64 d.ip, .int .u64 d.a0, .int .u64 d.a1, .int .u64 d.a2, .int .u64 d.a3, .int .u64 d.a4, .int .u64 d.a5] 47)).alloc (.cells (vmA pc r) 50)).alloc (.cells #[.int .i64 0, .int .u32 0, .int .u32 0, .int .u32 0, .int .u32 0, .int .u32 0, .int .u32 0, .int .u32 0, .int .u32 0, .int .u32 0, .int .u32 0, .int .u32 0, .int .u32 0, .int .u32 0, .int .u32 0, .int .u32 0, .int .u32 0, .int .u32 0, .int .u32 0] 50)).alloc (.cells (vmA pc r) 50)) by (repeat (first | with_reducible exact Below.refl _ _ | with_reducible assumption | ((with_reducible refine Below.setCell ?_ ?hp _); case hp => (first | omega | (simp only [World.size_alloc, World.size_setCell, World.size_drew]; omega) | (simp; done) | (simp; omega))) | ((with_reducible refine Below.alloc ?_ ?hp _); case hp => (first | omega | (simp only [World.size_alloc, World.size_setCell, World.size_drew]; omega) | (simp; done) | (simp; omega))) | with_reducible refine Below.drew ?_ | with_reducible refine below_drewN ?_ _)))
  clear hy hd hr
  go_enter Try.func68, Try.ntmps68
  go_wp2_with (first
    | (refine wpList_load_row rfl 50 (.tmp 5) rfl (w.heap.size + 2) rfl 50 (vmA pc r) (0, 0) _ HL.out Try.underlying50 rfl (HI.out _ _ HR.out) ?_; go_simp)
    | (refine wpList_store_row rfl 50 (.tmp 9) (.tmp 13) rfl (w.heap.size + 4) (vmA pc r) rfl rfl 50 #[.int .i64 0, .int .u32 0, .int .u32 0, .int .u32 0, .int .u32 0, .int .u32 0, .int .u32 0, .int .u32 0, .int .u32 0, .int .u32 0, .int .u32 0, .int .u32 0, .int .u32 0, .int .u32 0, .int .u32 0, .int .u32 0, .int .u32 0, .int .u32 0, .int .u32 0] HZ.out (HI.out _ _ HR.out) HSZ.out (vmA_one pc r) ?_; rw [row5]; generalize (((((w.alloc (.cells #[.int .u16 y.code, .int .u8 y.jt, .int .u8 y.jf, .int .u32 y.k] 36)).alloc (.cells #[.int .u32 d.nr, .int .u32 d.arch, .int .u64 d.ip, .int .u64 d.a0, .int .u64 d.a1, .int .u64 d.a2, .int .u64 d.a3, .int .u64 d.a4, .int .u64 d.a5] 47)).alloc (.cells (vmA pc r) 50)).alloc (.cells #[.int .i64 0, .int .u32 0, .int .u32 0, .int .u32 0, .int .u32 0, .int .u32 0, .int .u32 0, .int .u32 0, .int .u32 0, .int .u32 0, .int .u32 0, .int .u32 0, .int .u32 0, .int .u32 0, .int .u32 0, .int .u32 0, .int .u32 0, .int .u32 0, .int .u32 0] 50)).alloc (.cells (vmA pc r) 50)) = W5 at HRW HB5 ⊢; clear HL HZ; have HRW6 := Lib.hid (HRW.out.set 0 (.int .i64 (pc + 1)) (vmA_pc pc (pc + 1) r)); have HB6 := Lib.hid (HB5.out.setCell (p := ⟨w.heap.size + 4, 0, none⟩) (by show w.heap.size ≤ w.heap.size + 4; omega) (.int .i64 (pc + 1))); obtain ⟨x0, x1, x2, x3, n0, a0, a1, a2, fz, zz⟩ := HRW.out.facts; go_simp)
    | (refine wpList_load_row rfl 50 (.tmp 9) rfl (w.heap.size + 4) rfl 50 (vmA (pc + 1) { r with a := v }) (0, 0) _ HF.out.n Try.underlying50 rfl (HI.out _ _ HS.out) ?_; go_simp)
    | (refine wpList_store_row rfl 50 (.tmp 6) (.tmp 134) rfl (w.heap.size + 3) (vmA (pc + 1) { r with a := v }) rfl rfl 50 _ HF.out.o (HI.out _ _ HS.out) HSZ2.out (vmA_one _ _) ?_; go_simp)
    | (go_at_call 30; refine (HAL.out _).mono ?_; rintro e w1 ⟨rfl, hb1⟩; have HF1 := Lib.hid (HRW6.out.below hb1); have HFB1 := Lib.hid (HB6.out.trans (hb1.mono HB6.out.size)); have HF := Lib.hid (HF1.out.set 1 (.int .u32 (v : Nat)) (vmA_a (pc + 1) r v)); have HFB := Lib.hid (HFB1.out.setCell (p := ⟨w.heap.size + 4, 1, none⟩) (by show w.heap.size ≤ w.heap.size + 4; omega) (.int .u32 (v : Nat))); have nm : w1.cell? ⟨w.heap.size + 4, 1, none⟩ = some (.int .u32 (r.a : Nat)) := (cell_of_row _ _ _ _ _ _ HF1.out.n).trans (vmA_1 (pc + 1) r); have fz1 := HF1.out.facts.2.2.2.2.2.2.2.2.1; have zz1 := HF1.out.facts.2.2.2.2.2.2.2.2.2))
  all_goals exact bodyPost_ret (results_cell3 rfl _ _ (w.heap.size + 3) 50 (vmA (pc + 1) { r with a := v }) (0, 0) _ rfl (setRow_heap _ _ _ _ _ _ HF.out.o) Try.underlying50 rfl (HI.out _ _ HS.out)) rfl ⟨by rw [HV.out]; rfl, below_row HFB.out (by omega) _⟩

set_option maxRecDepth 100000 in
set_option maxHeartbeats 1000000 in
theorem step_410 (y : Insn) (hy : y.Ok) (d : Dt) (hd : d.Ok) (pc : Int) (hp1 : 0 ≤ pc) (hp2 : pc ≤ 1000000) (r : Rg) (hr : r.Ok) (hc : y.code % 8 = 4) (hs : y.code / 8 % 2 = 1) (hok : (aluL (y.code / 16 % 16) r.a (otherL y r)).2 = false) (w : World) :
    Calls Try.prog 68 #[(Value.agg #[.int .u16 y.code, .int .u8 y.jt, .int .u8 y.jf, .int .u32 y.k]), (Value.agg #[.int .u32 d.nr, .int .u32 d.arch, .int .u64 d.ip, .int .u64 d.a0, .int .u64 d.a1, .int .u64 d.a2, .int .u64 d.a3, .int .u64 d.a4, .int .u64 d.a5]), .agg (vmA pc r)] w fun e w' => e = .returned (stepV y (datL d) pc r) ∧ Below w.heap.size w w' := by
  have HR := Lib.hid hr
  have HI := Lib.hid (fun q (s : Rg) (h : s.Ok) => info_vm q s h)
  have HY := Lib.hid hy
  have HDt := Lib.hid hd
  have m8 := u16_8 y.code hy.code
  have m7 := u16_7 y.code hy.code
  have c7 : bits .and .u16 (y.code : Int) 7 = 4 := by rw [m7, hc]; rfl
  have c8 : bits .and .u16 (y.code : Int) 8 = 8 := by rw [m8, hs]; rfl
  have HO := Lib.hid (show otherL y r = r.x by unfold otherL; rw [hs]; rfl)
  have HAL := Lib.hid (fun W => alu_any y.code r.a (otherL y r) hy.code hr.a (otherL_lt hy hr) W)
  have HS := Lib.hid (show Rg.Ok { r with a := (aluL (y.code / 16 % 16) r.a (otherL y r)).1 } from hr.setA (aluL_lt hr.a (otherL_lt hy hr)))
  have HV := Lib.hid (show stepV y (datL d) pc r = .tuple #[.agg (vmA pc r), .int .u32 0, .bool true] by
    unfold stepV endsL; rw [hc]; simp [hok])
  rw [hok] at HAL
  generalize (aluL (y.code / 16 % 16) r.a (otherL y r)).1 = v at *
  rw [HO.out] at HAL
  clear m7 m8 hc hs hok
  have hp3 : -9223372036854775808 ≤ pc + 1 := by omega
  have hp4 : pc + 1 ≤ 9223372036854775807 := by omega
  have HL := Lib.hid (show ((((w.alloc (.cells #[.int .u16 y.code, .int .u8 y.jt, .int .u8 y.jf, .int .u32 y.k] 36)).alloc (.cells #[.int .u32 d.nr, .int .u32 d.arch, .int .u64 d.ip, .int .u64 d.a0, .int .u64 d.a1, .int .u64 d.a2, .int .u64 d.a3, .int .u64 d.a4, .int .u64 d.a5] 47)).alloc (.cells (vmA pc r) 50)).alloc (.cells #[.int .i64 0, .int .u32 0, .int .u32 0, .int .u32 0, .int .u32 0, .int .u32 0, .int .u32 0, .int .u32 0, .int .u32 0, .int .u32 0, .int .u32 0, .int .u32 0, .int .u32 0, .int .u32 0, .int .u32 0, .int .u32 0, .int .u32 0, .int .u32 0, .int .u32 0] 50)).heap[w.heap.size + 2]? = some (.cells (vmA pc r) 50 (0, 0)) from (heap4 w _ _ _ _).1)
  have HZ := Lib.hid (show (((((w.alloc (.cells #[.int .u16 y.code, .int .u8 y.jt, .int .u8 y.jf, .int .u32 y.k] 36)).alloc (.cells #[.int .u32 d.nr, .int .u32 d.arch, .int .u64 d.ip, .int .u64 d.a0, .int .u64 d.a1, .int .u64 d.a2, .int .u64 d.a3, .int .u64 d.a4, .int .u64 d.a5] 47)).alloc (.cells (vmA pc r) 50)).alloc (.cells #[.int .i64 0, .int .u32 0, .int .u32 0, .int .u32 0, .int .u32 0, .int .u32 0, .int .u32 0, .int .u32 0, .int .u32 0, .int .u32 0, .int .u32 0, .int .u32 0, .int .u32 0, .int .u32 0, .int .u32 0, .int .u32 0, .int .u32 0, .int .u32 0, .int .u32 0] 50)).alloc (.cells #[.int .i64 0, .int .u32 0, .int .u32 0, .int .u32 0, .int .u32 0, .int .u32 0, .int .u32 0, .int .u32 0, .int .u32 0, .int .u32 0, .int .u32 0, .int .u32 0, .int .u32 0, .int .u32 0, .int .u32 0, .int .u32 0, .int .u32 0, .int .u32 0, .int .u32 0] 50)).heap[w.heap.size + 4]? = some (.cells #[.int .i64 0, .int .u32 0, .int .u32 0, .int .u32 0, .int .u32 0, .int .u32 0, .int .u32 0, .int .u32 0, .int .u32 0, .int .u32 0, .int .u32 0, .int .u32 0, .int .u32 0, .int .u32 0, .int .u32 0, .int .u32 0, .int .u32 0, .int .u32 0, .int .u32 0] 50 (0, 0)) from (heap5 w _ _ _ _ _).2.2.2.2)
  have HSZ := Lib.hid (show (#[.int .i64 0, .int .u32 0, .int .u32 0, .int .u32 0, .int .u32 0, .int .u32 0, .int .u32 0, .int .u32 0, .int .u32 0, .int .u32 0, .int .u32 0, .int .u32 0, .int .u32 0, .int .u32 0, .int .u32 0, .int .u32 0, .int .u32 0, .int .u32 0, .int .u32 0] : Array Value).size = (vmA pc r).size by rw [vmA_size pc r hr]; rfl)
  have HRW := Lib.hid (rows5 w y d pc r)
  have HB5 := Lib.hid (show Below w.heap.size w (((((w.alloc (.cells #[.int .u16 y.code, .int .u8 y.jt, .int .u8 y.jf, .int .u32 y.k] 36)).alloc (.cells #[.int .u32 d.nr, .int .u32 d.arch, .int .u64 d.ip, .int .u64 d.a0, .int .u64 d.a1, .int .u64 d.a2, .int .u64 d.a3, .int .u64 d.a4, .int .u64 d.a5] 47)).alloc (.cells (vmA pc r) 50)).alloc (.cells #[.int .i64 0, .int .u32 0, .int .u32 0, .int .u32 0, .int .u32 0, .int .u32 0, .int .u32 0, .int .u32 0, .int .u32 0, .int .u32 0, .int .u32 0, .int .u32 0, .int .u32 0, .int .u32 0, .int .u32 0, .int .u32 0, .int .u32 0, .int .u32 0, .int .u32 0] 50)).alloc (.cells (vmA pc r) 50)) by (repeat (first | with_reducible exact Below.refl _ _ | with_reducible assumption | ((with_reducible refine Below.setCell ?_ ?hp _); case hp => (first | omega | (simp only [World.size_alloc, World.size_setCell, World.size_drew]; omega) | (simp; done) | (simp; omega))) | ((with_reducible refine Below.alloc ?_ ?hp _); case hp => (first | omega | (simp only [World.size_alloc, World.size_setCell, World.size_drew]; omega) | (simp; done) | (simp; omega))) | with_reducible refine Below.drew ?_ | with_reducible refine below_drewN ?_ _)))
  clear hy hd hr
  go_enter Try.func68, Try.ntmps68
  go_wp2_with (first
    | (refine wpList_load_row rfl 50 (.tmp 5) rfl (w.heap.size + 2) rfl 50 (vmA pc r) (0, 0) _ HL.out Try.underlying50 rfl (HI.out _ _ HR.out) ?_; go_simp)
    | (refine wpList_store_row rfl 50 (.tmp 9) (.tmp 13) rfl (w.heap.size + 4) (vmA pc r) rfl rfl 50 #[.int .i64 0, .int .u32 0, .int .u32 0, .int .u32 0, .int .u32 0, .int .u32 0, .int .u32 0, .int .u32 0, .int .u32 0, .int .u32 0, .int .u32 0, .int .u32 0, .int .u32 0, .int .u32 0, .int .u32 0, .int .u32 0, .int .u32 0, .int .u32 0, .int .u32 0] HZ.out (HI.out _ _ HR.out) HSZ.out (vmA_one pc r) ?_; rw [row5]; generalize (((((w.alloc (.cells #[.int .u16 y.code, .int .u8 y.jt, .int .u8 y.jf, .int .u32 y.k] 36)).alloc (.cells #[.int .u32 d.nr, .int .u32 d.arch, .int .u64 d.ip, .int .u64 d.a0, .int .u64 d.a1, .int .u64 d.a2, .int .u64 d.a3, .int .u64 d.a4, .int .u64 d.a5] 47)).alloc (.cells (vmA pc r) 50)).alloc (.cells #[.int .i64 0, .int .u32 0, .int .u32 0, .int .u32 0, .int .u32 0, .int .u32 0, .int .u32 0, .int .u32 0, .int .u32 0, .int .u32 0, .int .u32 0, .int .u32 0, .int .u32 0, .int .u32 0, .int .u32 0, .int .u32 0, .int .u32 0, .int .u32 0, .int .u32 0] 50)).alloc (.cells (vmA pc r) 50)) = W5 at HRW HB5 ⊢; clear HL HZ; have HRW6 := Lib.hid (HRW.out.set 0 (.int .i64 (pc + 1)) (vmA_pc pc (pc + 1) r)); have HB6 := Lib.hid (HB5.out.setCell (p := ⟨w.heap.size + 4, 0, none⟩) (by show w.heap.size ≤ w.heap.size + 4; omega) (.int .i64 (pc + 1))); obtain ⟨x0, x1, x2, x3, n0, a0, a1, a2, fz, zz⟩ := HRW.out.facts; go_simp)
    | (refine wpList_load_row rfl 50 (.tmp 5) rfl (w.heap.size + 2) rfl 50 (vmA pc r) (0, 0) _ HF1.out.m Try.underlying50 rfl (HI.out _ _ HR.out) ?_; go_simp)
    | (refine wpList_store_row rfl 50 (.tmp 6) (.tmp 72) rfl (w.heap.size + 3) (vmA pc r) rfl rfl 50 _ HF1.out.o (HI.out _ _ HR.out) HSZ.out (vmA_one _ _) ?_; go_simp)
    | (go_at_call 30; refine (HAL.out _).mono ?_; rintro e w1 ⟨rfl, hb1⟩; have HF1 := Lib.hid (HRW6.out.below hb1); have HFB1 := Lib.hid (HB6.out.trans (hb1.mono HB6.out.size))))
  all_goals exact bodyPost_ret (results_cell3 rfl _ _ (w.heap.size + 3) 50 (vmA pc r) (0, 0) _ rfl (setRow_heap _ _ _ _ _ _ HF1.out.o) Try.underlying50 rfl (HI.out _ _ HR.out)) rfl ⟨by rw [HV.out]; rfl, below_row HFB1.out (by omega) _⟩

set_option maxRecDepth 100000 in
set_option maxHeartbeats 1000000 in
theorem step_5j (y : Insn) (hy : y.Ok) (d : Dt) (hd : d.Ok) (pc : Int) (hp1 : 0 ≤ pc) (hp2 : pc ≤ 1000000) (r : Rg) (hr : r.Ok) (hc : y.code % 8 = 5) (hj : y.code / 16 % 16 = 0) (w : World) :
    Calls Try.prog 68 #[(Value.agg #[.int .u16 y.code, .int .u8 y.jt, .int .u8 y.jf, .int .u32 y.k]), (Value.agg #[.int .u32 d.nr, .int .u32 d.arch, .int .u64 d.ip, .int .u64 d.a0, .int .u64 d.a1, .int .u64 d.a2, .int .u64 d.a3, .int .u64 d.a4, .int .u64 d.a5]), .agg (vmA pc r)] w fun e w' => e = .returned (stepV y (datL d) pc r) ∧ Below w.heap.size w w' := by
  have HR := Lib.hid hr
  have HI := Lib.hid (fun q (s : Rg) (h : s.Ok) => info_vm q s h)
  have HY := Lib.hid hy
  have HDt := Lib.hid hd
  have m8 := u16_8 y.code hy.code
  have m7 := u16_7 y.code hy.code
  have c7 : bits .and .u16 (y.code : Int) 7 = 5 := by rw [m7, hc]; rfl
  have c240 : bits .and .u16 (y.code : Int) 240 = 0 := by rw [u16_240 y.code hy.code, hj]; rfl
  have yk := hy.k
  have g1 : (0 : Int) ≤ ((y.k : Nat) : Int) := by omega
  have g2 : ((y.k : Nat) : Int) ≤ 9223372036854775807 := by omega
  have g3 : -9223372036854775808 ≤ pc + 1 + ((y.k : Nat) : Int) := by omega
  have g4 : pc + 1 + ((y.k : Nat) : Int) ≤ 9223372036854775807 := by omega
  have HS := Lib.hid hr
  have HV := Lib.hid (show stepV y (datL d) pc r = .tuple #[.agg (vmA (pc + 1 + y.k) r), .int .u32 0, .bool false] by
    unfold stepV endsL effL offL; rw [hc, hj]; simp)
  clear m7 hc hj
  have HSZ2 := Lib.hid (show (#[.int .i64 0, .int .u32 0, .int .u32 0, .int .u32 0, .int .u32 0, .int .u32 0, .int .u32 0, .int .u32 0, .int .u32 0, .int .u32 0, .int .u32 0, .int .u32 0, .int .u32 0, .int .u32 0, .int .u32 0, .int .u32 0, .int .u32 0, .int .u32 0, .int .u32 0] : Array Value).size = (vmA (pc + 1 + y.k) r).size by rw [vmA_size _ _ HS.out]; rfl)
  have hp3 : -9223372036854775808 ≤ pc + 1 := by omega
  have hp4 : pc + 1 ≤ 9223372036854775807 := by omega
  have HL := Lib.hid (show ((((w.alloc (.cells #[.int .u16 y.code, .int .u8 y.jt, .int .u8 y.jf, .int .u32 y.k] 36)).alloc (.cells #[.int .u32 d.nr, .int .u32 d.arch, .int .u64 d.ip, .int .u64 d.a0, .int .u64 d.a1, .int .u64 d.a2, .int .u64 d.a3, .int .u64 d.a4, .int .u64 d.a5] 47)).alloc (.cells (vmA pc r) 50)).alloc (.cells #[.int .i64 0, .int .u32 0, .int .u32 0, .int .u32 0, .int .u32 0, .int .u32 0, .int .u32 0, .int .u32 0, .int .u32 0, .int .u32 0, .int .u32 0, .int .u32 0, .int .u32 0, .int .u32 0, .int .u32 0, .int .u32 0, .int .u32 0, .int .u32 0, .int .u32 0] 50)).heap[w.heap.size + 2]? = some (.cells (vmA pc r) 50 (0, 0)) from (heap4 w _ _ _ _).1)
  have HZ := Lib.hid (show (((((w.alloc (.cells #[.int .u16 y.code, .int .u8 y.jt, .int .u8 y.jf, .int .u32 y.k] 36)).alloc (.cells #[.int .u32 d.nr, .int .u32 d.arch, .int .u64 d.ip, .int .u64 d.a0, .int .u64 d.a1, .int .u64 d.a2, .int .u64 d.a3, .int .u64 d.a4, .int .u64 d.a5] 47)).alloc (.cells (vmA pc r) 50)).alloc (.cells #[.int .i64 0, .int .u32 0, .int .u32 0, .int .u32 0, .int .u32 0, .int .u32 0, .int .u32 0, .int .u32 0, .int .u32 0, .int .u32 0, .int .u32 0, .int .u32 0, .int .u32 0, .int .u32 0, .int .u32 0, .int .u32 0, .int .u32 0, .int .u32 0, .int .u32 0] 50)).alloc (.cells #[.int .i64 0, .int .u32 0, .int .u32 0, .int .u32 0, .int .u32 0, .int .u32 0, .int .u32 0, .int .u32 0, .int .u32 0, .int .u32 0, .int .u32 0, .int .u32 0, .int .u32 0, .int .u32 0, .int .u32 0, .int .u32 0, .int .u32 0, .int .u32 0, .int .u32 0] 50)).heap[w.heap.size + 4]? = some (.cells #[.int .i64 0, .int .u32 0, .int .u32 0, .int .u32 0, .int .u32 0, .int .u32 0, .int .u32 0, .int .u32 0, .int .u32 0, .int .u32 0, .int .u32 0, .int .u32 0, .int .u32 0, .int .u32 0, .int .u32 0, .int .u32 0, .int .u32 0, .int .u32 0, .int .u32 0] 50 (0, 0)) from (heap5 w _ _ _ _ _).2.2.2.2)
  have HSZ := Lib.hid (show (#[.int .i64 0, .int .u32 0, .int .u32 0, .int .u32 0, .int .u32 0, .int .u32 0, .int .u32 0, .int .u32 0, .int .u32 0, .int .u32 0, .int .u32 0, .int .u32 0, .int .u32 0, .int .u32 0, .int .u32 0, .int .u32 0, .int .u32 0, .int .u32 0, .int .u32 0] : Array Value).size = (vmA pc r).size by rw [vmA_size pc r hr]; rfl)
  have HRW := Lib.hid (rows5 w y d pc r)
  have HB5 := Lib.hid (show Below w.heap.size w (((((w.alloc (.cells #[.int .u16 y.code, .int .u8 y.jt, .int .u8 y.jf, .int .u32 y.k] 36)).alloc (.cells #[.int .u32 d.nr, .int .u32 d.arch, .int .u64 d.ip, .int .u64 d.a0, .int .u64 d.a1, .int .u64 d.a2, .int .u64 d.a3, .int .u64 d.a4, .int .u64 d.a5] 47)).alloc (.cells (vmA pc r) 50)).alloc (.cells #[.int .i64 0, .int .u32 0, .int .u32 0, .int .u32 0, .int .u32 0, .int .u32 0, .int .u32 0, .int .u32 0, .int .u32 0, .int .u32 0, .int .u32 0, .int .u32 0, .int .u32 0, .int .u32 0, .int .u32 0, .int .u32 0, .int .u32 0, .int .u32 0, .int .u32 0] 50)).alloc (.cells (vmA pc r) 50)) by (repeat (first | with_reducible exact Below.refl _ _ | with_reducible assumption | ((with_reducible refine Below.setCell ?_ ?hp _); case hp => (first | omega | (simp only [World.size_alloc, World.size_setCell, World.size_drew]; omega) | (simp; done) | (simp; omega))) | ((with_reducible refine Below.alloc ?_ ?hp _); case hp => (first | omega | (simp only [World.size_alloc, World.size_setCell, World.size_drew]; omega) | (simp; done) | (simp; omega))) | with_reducible refine Below.drew ?_ | with_reducible refine below_drewN ?_ _)))
  clear hy hd hr
  go_enter Try.func68, Try.ntmps68
  go_wp2_with (first
    | (refine wpList_load_row rfl 50 (.tmp 5) rfl (w.heap.size + 2) rfl 50 (vmA pc r) (0, 0) _ HL.out Try.underlying50 rfl (HI.out _ _ HR.out) ?_; go_simp)
    | (refine wpList_store_row rfl 50 (.tmp 9) (.tmp 13) rfl (w.heap.size + 4) (vmA pc r) rfl rfl 50 #[.int .i64 0, .int .u32 0, .int .u32 0, .int .u32 0, .int .u32 0, .int .u32 0, .int .u32 0, .int .u32 0, .int .u32 0, .int .u32 0, .int .u32 0, .int .u32 0, .int .u32 0, .int .u32 0, .int .u32 0, .int .u32 0, .int .u32 0, .int .u32 0, .int .u32 0] HZ.out (HI.out _ _ HR.out) HSZ.out (vmA_one pc r) ?_; rw [row5]; generalize (((((w.alloc (.cells #[.int .u16 y.code, .int .u8 y.jt, .int .u8 y.jf, .int .u32 y.k] 36)).alloc (.cells #[.int .u32 d.nr, .int .u32 d.arch, .int .u64 d.ip, .int .u64 d.a0, .int .u64 d.a1, .int .u64 d.a2, .int .u64 d.a3, .int .u64 d.a4, .int .u64 d.a5] 47)).alloc (.cells (vmA pc r) 50)).alloc (.cells #[.int .i64 0, .int .u32 0, .int .u32 0, .int .u32 0, .int .u32 0, .int .u32 0, .int .u32 0, .int .u32 0, .int .u32 0, .int .u32 0, .int .u32 0, .int .u32 0, .int .u32 0, .int .u32 0, .int .u32 0, .int .u32 0, .int .u32 0, .int .u32 0, .int .u32 0] 50)).alloc (.cells (vmA pc r) 50)) = W5 at HRW HB5 ⊢; clear HL HZ; have HRW6 := Lib.hid (HRW.out.set 0 (.int .i64 (pc + 1)) (vmA_pc pc (pc + 1) r)); have HB6 := Lib.hid (HB5.out.setCell (p := ⟨w.heap.size + 4, 0, none⟩) (by show w.heap.size ≤ w.heap.size + 4; omega) (.int .i64 (pc + 1))); have HF := Lib.hid (HRW6.out.set 0 (.int .i64 (pc + 1 + y.k)) (vmA_pc (pc + 1) (pc + 1 + y.k) r)); have HFB := Lib.hid (HB6.out.setCell (p := ⟨w.heap.size + 4, 0, none⟩) (by show w.heap.size ≤ w.heap.size + 4; omega) (.int .i64 (pc + 1 + y.k))); obtain ⟨x0, x1, x2, x3, n0, a0, a1, a2, fz, zz⟩ := HRW.out.facts; go_simp)
    | (refine wpList_load_row rfl 50 (.tmp 9) rfl (w.heap.size + 4) rfl 50 (vmA (pc + 1 + y.k) r) (0, 0) _ HF.out.n Try.underlying50 rfl (HI.out _ _ HS.out) ?_; go_simp)
    | (refine wpList_store_row rfl 50 (.tmp 6) (.tmp 134) rfl (w.heap.size + 3) (vmA (pc + 1 + y.k) r) rfl rfl 50 _ HF.out.o (HI.out _ _ HS.out) HSZ2.out (vmA_one _ _) ?_; go_simp))
  all_goals exact bodyPost_ret (results_cell3 rfl _ _ (w.heap.size + 3) 50 (vmA (pc + 1 + y.k) r) (0, 0) _ rfl (setRow_heap _ _ _ _ _ _ HF.out.o) Try.underlying50 rfl (HI.out _ _ HS.out)) rfl ⟨by rw [HV.out]; rfl, below_row HFB.out (by omega) _⟩

set_option maxRecDepth 100000 in
set_option maxHeartbeats 1000000 in
theorem step_501 (y : Insn) (hy : y.Ok) (d : Dt) (hd : d.Ok) (pc : Int) (hp1 : 0 ≤ pc) (hp2 : pc ≤ 1000000) (r : Rg) (hr : r.Ok) (hc : y.code % 8 = 5) (hj : y.code / 16 % 16 ≠ 0) (hs : y.code / 8 % 2 = 0) (hh : holdsL (y.code / 16 % 16) r.a (otherL y r) = true) (w : World) :
    Calls Try.prog 68 #[(Value.agg #[.int .u16 y.code, .int .u8 y.jt, .int .u8 y.jf, .int .u32 y.k]), (Value.agg #[.int .u32 d.nr, .int .u32 d.arch, .int .u64 d.ip, .int .u64 d.a0, .int .u64 d.a1, .int .u64 d.a2, .int .u64 d.a3, .int .u64 d.a4, .int .u64 d.a5]), .agg (vmA pc r)] w fun e w' => e = .returned (stepV y (datL d) pc r) ∧ Below w.heap.size w w' := by
  have HR := Lib.hid hr
  have HI := Lib.hid (fun q (s : Rg) (h : s.Ok) => info_vm q s h)
  have HY := Lib.hid hy
  have HDt := Lib.hid hd
  have m8 := u16_8 y.code hy.code
  have m7 := u16_7 y.code hy.code
  have c7 : bits .and .u16 (y.code : Int) 7 = 5 := by rw [m7, hc]; rfl
  have c8 : bits .and .u16 (y.code : Int) 8 = 0 := by rw [m8, hs]; rfl
  have c240 : (bits .and .u16 (y.code : Int) 240 == 0) = false := by rw [u16_240 y.code hy.code]; simp; omega
  have yk : y.jt < 256 := hy.jt
  have g1 : (0 : Int) ≤ ((y.jt : Nat) : Int) := by omega
  have g2 : ((y.jt : Nat) : Int) ≤ 9223372036854775807 := by omega
  have g3 : -9223372036854775808 ≤ pc + 1 + ((y.jt : Nat) : Int) := by omega
  have g4 : pc + 1 + ((y.jt : Nat) : Int) ≤ 9223372036854775807 := by omega
  have HO := Lib.hid (show otherL y r = y.k by unfold otherL; rw [hs]; rfl)
  have HHD := Lib.hid (fun W => holds_any y.code r.a (otherL y r) hy.code hr.a (otherL_lt hy hr) W)
  have HS := Lib.hid hr
  have HV := Lib.hid (show stepV y (datL d) pc r = .tuple #[.agg (vmA (pc + 1 + y.jt) r), .int .u32 0, .bool false] by
    unfold stepV endsL effL offL; rw [hc]; simp [hj, hh])
  rw [hh, HO.out] at HHD
  clear m7 m8 hc hj hs hh
  have HSZ2 := Lib.hid (show (#[.int .i64 0, .int .u32 0, .int .u32 0, .int .u32 0, .int .u32 0, .int .u32 0, .int .u32 0, .int .u32 0, .int .u32 0, .int .u32 0, .int .u32 0, .int .u32 0, .int .u32 0, .int .u32 0, .int .u32 0, .int .u32 0, .int .u32 0, .int .u32 0, .int .u32 0] : Array Value).size = (vmA (pc + 1 + y.jt) r).size by rw [vmA_size _ _ HS.out]; rfl)
  have hp3 : -9223372036854775808 ≤ pc + 1 := by omega
  have hp4 : pc + 1 ≤ 9223372036854775807 := by omega
  have HL := Lib.hid (show ((((w.alloc (.cells #[.int .u16 y.code, .int .u8 y.jt, .int .u8 y.jf, .int .u32 y.k] 36)).alloc (.cells #[.int .u32 d.nr, .int .u32 d.arch, .int .u64 d.ip, .int .u64 d.a0, .int .u64 d.a1, .int .u64 d.a2, .int .u64 d.a3, .int .u64 d.a4, .int .u64 d.a5] 47)).alloc (.cells (vmA pc r) 50)).alloc (.cells #[.int .i64 0, .int .u32 0, .int .u32 0, .int .u32 0, .int .u32 0, .int .u32 0, .int .u32 0, .int .u32 0, .int .u32 0, .int .u32 0, .int .u32 0, .int .u32 0, .int .u32 0, .int .u32 0, .int .u32 0, .int .u32 0, .int .u32 0, .int .u32 0, .int .u32 0] 50)).heap[w.heap.size + 2]? = some (.cells (vmA pc r) 50 (0, 0)) from (heap4 w _ _ _ _).1)
  have HZ := Lib.hid (show (((((w.alloc (.cells #[.int .u16 y.code, .int .u8 y.jt, .int .u8 y.jf, .int .u32 y.k] 36)).alloc (.cells #[.int .u32 d.nr, .int .u32 d.arch, .int .u64 d.ip, .int .u64 d.a0, .int .u64 d.a1, .int .u64 d.a2, .int .u64 d.a3, .int .u64 d.a4, .int .u64 d.a5] 47)).alloc (.cells (vmA pc r) 50)).alloc (.cells #[.int .i64 0, .int .u32 0, .int .u32 0, .int .u32 0, .int .u32 0, .int .u32 0, .int .u32 0, .int .u32 0, .int .u32 0, .int .u32 0, .int .u32 0, .int .u32 0, .int .u32 0, .int .u32 0, .int .u32 0, .int .u32 0, .int .u32 0, .int .u32 0, .int .u32 0] 50)).alloc (.cells #[.int .i64 0, .int .u32 0, .int .u32 0, .int .u32 0, .int .u32 0, .int .u32 0, .int .u32 0, .int .u32 0, .int .u32 0, .int .u32 0, .int .u32 0, .int .u32 0, .int .u32 0, .int .u32 0, .int .u32 0, .int .u32 0, .int .u32 0, .int .u32 0, .int .u32 0] 50)).heap[w.heap.size + 4]? = some (.cells #[.int .i64 0, .int .u32 0, .int .u32 0, .int .u32 0, .int .u32 0, .int .u32 0, .int .u32 0, .int .u32 0, .int .u32 0, .int .u32 0, .int .u32 0, .int .u32 0, .int .u32 0, .int .u32 0, .int .u32 0, .int .u32 0, .int .u32 0, .int .u32 0, .int .u32 0] 50 (0, 0)) from (heap5 w _ _ _ _ _).2.2.2.2)
  have HSZ := Lib.hid (show (#[.int .i64 0, .int .u32 0, .int .u32 0, .int .u32 0, .int .u32 0, .int .u32 0, .int .u32 0, .int .u32 0, .int .u32 0, .int .u32 0, .int .u32 0, .int .u32 0, .int .u32 0, .int .u32 0, .int .u32 0, .int .u32 0, .int .u32 0, .int .u32 0, .int .u32 0] : Array Value).size = (vmA pc r).size by rw [vmA_size pc r hr]; rfl)
  have HRW := Lib.hid (rows5 w y d pc r)
  have HB5 := Lib.hid (show Below w.heap.size w (((((w.alloc (.cells #[.int .u16 y.code, .int .u8 y.jt, .int .u8 y.jf, .int .u32 y.k] 36)).alloc (.cells #[.int .u32 d.nr, .int .u32 d.arch, .int .u64 d.ip, .int .u64 d.a0, .int .u64 d.a1, .int .u64 d.a2, .int .u64 d.a3, .int .u64 d.a4, .int .u64 d.a5] 47)).alloc (.cells (vmA pc r) 50)).alloc (.cells #[.int .i64 0, .int .u32 0, .int .u32 0, .int .u32 0, .int .u32 0, .int .u32 0, .int .u32 0, .int .u32 0, .int .u32 0, .int .u32 0, .int .u32 0, .int .u32 0, .int .u32 0, .int .u32 0, .int .u32 0, .int .u32 0, .int .u32 0, .int .u32 0, .int .u32 0] 50)).alloc (.cells (vmA pc r) 50)) by (repeat (first | with_reducible exact Below.refl _ _ | with_reducible assumption | ((with_reducible refine Below.setCell ?_ ?hp _); case hp => (first | omega | (simp only [World.size_alloc, World.size_setCell, World.size_drew]; omega) | (simp; done) | (simp; omega))) | ((with_reducible refine Below.alloc ?_ ?hp _); case hp => (first | omega | (simp only [World.size_alloc, World.size_setCell, World.size_drew]; omega) | (simp; done) | (simp; omega))) | with_reducible refine Below.drew ?_ | with_reducible refine below_drewN ?_ _)))
  clear hy hd hr
  go_enter Try.func68, Try.ntmps68
  go_wp2_with (first
    | (refine wpList_load_row rfl 50 (.tmp 5) rfl (w.heap.size + 2) rfl 50 (vmA pc r) (0, 0) _ HL.out Try.underlying50 rfl (HI.out _ _ HR.out) ?_; go_simp)
    | (refine wpList_store_row rfl 50 (.tmp 9) (.tmp 13) rfl (w.heap.size + 4) (vmA pc r) rfl rfl 50 #[.int .i64 0, .int .u32 0, .int .u32 0, .int .u32 0, .int .u32 0, .int .u32 0, .int .u32 0, .int .u32 0, .int .u32 0, .int .u32 0, .int .u32 0, .int .u32 0, .int .u32 0, .int .u32 0, .int .u32 0, .int .u32 0, .int .u32 0, .int .u32 0, .int .u32 0] HZ.out (HI.out _ _ HR.out) HSZ.out (vmA_one pc r) ?_; rw [row5]; generalize (((((w.alloc (.cells #[.int .u16 y.code, .int .u8 y.jt, .int .u8 y.jf, .int .u32 y.k] 36)).alloc (.cells #[.int .u32 d.nr, .int .u32 d.arch, .int .u64 d.ip, .int .u64 d.a0, .int .u64 d.a1, .int .u64 d.a2, .int .u64 d.a3, .int .u64 d.a4, .int .u64 d.a5] 47)).alloc (.cells (vmA pc r) 50)).alloc (.cells #[.int .i64 0, .int .u32 0, .int .u32 0, .int .u32 0, .int .u32 0, .int .u32 0, .int .u32 0, .int .u32 0, .int .u32 0, .int .u32 0, .int .u32 0, .int .u32 0, .int .u32 0, .int .u32 0, .int .u32 0, .int .u32 0, .int .u32 0, .int .u32 0, .int .u32 0] 50)).alloc (.cells (vmA pc r) 50)) = W5 at HRW HB5 ⊢; clear HL HZ; have HRW6 := Lib.hid (HRW.out.set 0 (.int .i64 (pc + 1)) (vmA_pc pc (pc + 1) r)); have HB6 := Lib.hid (HB5.out.setCell (p := ⟨w.heap.size + 4, 0, none⟩) (by show w.heap.size ≤ w.heap.size + 4; omega) (.int .i64 (pc + 1))); have HF := Lib.hid (HRW6.out.set 0 (.int .i64 (pc + 1 + y.jt)) (vmA_pc (pc + 1) (pc + 1 + y.jt) r)); have HFB := Lib.hid (HB6.out.setCell (p := ⟨w.heap.size + 4, 0, none⟩) (by show w.heap.size ≤ w.heap.size + 4; omega) (.int .i64 (pc + 1 + y.jt))); obtain ⟨x0, x1, x2, x3, n0, a0, a1, a2, fz, zz⟩ := HRW.out.facts; go_simp)
    | (refine wpList_load_row rfl 50 (.tmp 9) rfl (w.heap.size + 4) rfl 50 (vmA (pc + 1 + y.jt) r) (0, 0) _ HF.out.n Try.underlying50 rfl (HI.out _ _ HS.out) ?_; go_simp)
    | (refine wpList_store_row rfl 50 (.tmp 6) (.tmp 134) rfl (w.heap.size + 3) (vmA (pc + 1 + y.jt) r) rfl rfl 50 _ HF.out.o (HI.out _ _ HS.out) HSZ2.out (vmA_one _ _) ?_; go_simp)
    | (go_at_call 32; refine (HHD.out _).mono ?_; rintro e w1 ⟨rfl, rfl⟩))
  all_goals exact bodyPost_ret (results_cell3 rfl _ _ (w.heap.size + 3) 50 (vmA (pc + 1 + y.jt) r) (0, 0) _ rfl (setRow_heap _ _ _ _ _ _ HF.out.o) Try.underlying50 rfl (HI.out _ _ HS.out)) rfl ⟨by rw [HV.out]; rfl, below_row HFB.out (by omega) _⟩

set_option maxRecDepth 100000 in
set_option maxHeartbeats 1000000 in
theorem step_500 (y : Insn) (hy : y.Ok) (d : Dt) (hd : d.Ok) (pc : Int) (hp1 : 0 ≤ pc) (hp2 : pc ≤ 1000000) (r : Rg) (hr : r.Ok) (hc : y.code % 8 = 5) (hj : y.code / 16 % 16 ≠ 0) (hs : y.code / 8 % 2 = 0) (hh : holdsL (y.code / 16 % 16) r.a (otherL y r) = false) (w : World) :
    Calls Try.prog 68 #[(Value.agg #[.int .u16 y.code, .int .u8 y.jt, .int .u8 y.jf, .int .u32 y.k]), (Value.agg #[.int .u32 d.nr, .int .u32 d.arch, .int .u64 d.ip, .int .u64 d.a0, .int .u64 d.a1, .int .u64 d.a2, .int .u64 d.a3, .int .u64 d.a4, .int .u64 d.a5]), .agg (vmA pc r)] w fun e w' => e = .returned (stepV y (datL d) pc r) ∧ Below w.heap.size w w' := by
  have HR := Lib.hid hr
  have HI := Lib.hid (fun q (s : Rg) (h : s.Ok) => info_vm q s h)
  have HY := Lib.hid hy
  have HDt := Lib.hid hd
  have m8 := u16_8 y.code hy.code
  have m7 := u16_7 y.code hy.code
  have c7 : bits .and .u16 (y.code : Int) 7 = 5 := by rw [m7, hc]; rfl
  have c8 : bits .and .u16 (y.code : Int) 8 = 0 := by rw [m8, hs]; rfl
  have c240 : (bits .and .u16 (y.code : Int) 240 == 0) = false := by rw [u16_240 y.code hy.code]; simp; omega
  have yk : y.jf < 256 := hy.jf
  have g1 : (0 : Int) ≤ ((y.jf : Nat) : Int) := by omega
  have g2 : ((y.jf : Nat) : Int) ≤ 9223372036854775807 := by omega
  have g3 : -9223372036854775808 ≤ pc + 1 + ((y.jf : Nat) : Int) := by omega
  have g4 : pc + 1 + ((y.jf : Nat) : Int) ≤ 9223372036854775807 := by omega
  have HO := Lib.hid (show otherL y r = y.k by unfold otherL; rw [hs]; rfl)
  have HHD := Lib.hid (fun W => holds_any y.code r.a (otherL y r) hy.code hr.a (otherL_lt hy hr) W)
  have HS := Lib.hid hr
  have HV := Lib.hid (show stepV y (datL d) pc r = .tuple #[.agg (vmA (pc + 1 + y.jf) r), .int .u32 0, .bool false] by
    unfold stepV endsL effL offL; rw [hc]; simp [hj, hh])
  rw [hh, HO.out] at HHD
  clear m7 m8 hc hj hs hh
  have HSZ2 := Lib.hid (show (#[.int .i64 0, .int .u32 0, .int .u32 0, .int .u32 0, .int .u32 0, .int .u32 0, .int .u32 0, .int .u32 0, .int .u32 0, .int .u32 0, .int .u32 0, .int .u32 0, .int .u32 0, .int .u32 0, .int .u32 0, .int .u32 0, .int .u32 0, .int .u32 0, .int .u32 0] : Array Value).size = (vmA (pc + 1 + y.jf) r).size by rw [vmA_size _ _ HS.out]; rfl)
  have hp3 : -9223372036854775808 ≤ pc + 1 := by omega
  have hp4 : pc + 1 ≤ 9223372036854775807 := by omega
  have HL := Lib.hid (show ((((w.alloc (.cells #[.int .u16 y.code, .int .u8 y.jt, .int .u8 y.jf, .int .u32 y.k] 36)).alloc (.cells #[.int .u32 d.nr, .int .u32 d.arch, .int .u64 d.ip, .int .u64 d.a0, .int .u64 d.a1, .int .u64 d.a2, .int .u64 d.a3, .int .u64 d.a4, .int .u64 d.a5] 47)).alloc (.cells (vmA pc r) 50)).alloc (.cells #[.int .i64 0, .int .u32 0, .int .u32 0, .int .u32 0, .int .u32 0, .int .u32 0, .int .u32 0, .int .u32 0, .int .u32 0, .int .u32 0, .int .u32 0, .int .u32 0, .int .u32 0, .int .u32 0, .int .u32 0, .int .u32 0, .int .u32 0, .int .u32 0, .int .u32 0] 50)).heap[w.heap.size + 2]? = some (.cells (vmA pc r) 50 (0, 0)) from (heap4 w _ _ _ _).1)
  have HZ := Lib.hid (show (((((w.alloc (.cells #[.int .u16 y.code, .int .u8 y.jt, .int .u8 y.jf, .int .u32 y.k] 36)).alloc (.cells #[.int .u32 d.nr, .int .u32 d.arch, .int .u64 d.ip, .int .u64 d.a0, .int .u64 d.a1, .int .u64 d.a2, .int .u64 d.a3, .int .u64 d.a4, .int .u64 d.a5] 47)).alloc (.cells (vmA pc r) 50)).alloc (.cells #[.int .i64 0, .int .u32 0, .int .u32 0, .int .u32 0, .int .u32 0, .int .u32 0, .int .u32 0, .int .u32 0, .int .u32 0, .int .u32 0, .int .u32 0, .int .u32 0, .int .u32 0, .int .u32 0, .int .u32 0, .int .u32 0, .int .u32 0, .int .u32 0, .int .u32 0] 50)).alloc (.cells #[.int .i64 0, .int .u32 0, .int .u32 0, .int .u32 0, .int .u32 0, .int .u32 0, .int .u32 0, .int .u32 0, .int .u32 0, .int .u32 0, .int .u32 0, .int .u32 0, .int .u32 0, .int .u32 0, .int .u32 0, .int .u32 0, .int .u32 0, .int .u32 0, .int .u32 0] 50)).heap[w.heap.size + 4]? = some (.cells #[.int .i64 0, .int .u32 0, .int .u32 0, .int .u32 0, .int .u32 0, .int .u32 0, .int .u32 0, .int .u32 0, .int .u32 0, .int .u32 0, .int .u32 0, .int .u32 0, .int .u32 0, .int .u32 0, .int .u32 0, .int .u32 0, .int .u32 0, .int .u32 0, .int .u32 0] 50 (0, 0)) from (heap5 w _ _ _ _ _).2.2.2.2)
  have HSZ := Lib.hid (show (#[.int .i64 0, .int .u32 0, .int .u32 0, .int .u32 0, .int .u32 0, .int .u32 0, .int .u32 0, .int .u32 0, .int .u32 0, .int .u32 0, .int .u32 0, .int .u32 0, .int .u32 0, .int .u32 0, .int .u32 0, .int .u32 0, .int .u32 0, .int .u32 0, .int .u32 0] : Array Value).size = (vmA pc r).size by rw [vmA_size pc r hr]; rfl)
  have HRW := Lib.hid (rows5 w y d pc r)
  have HB5 := Lib.hid (show Below w.heap.size w (((((w.alloc (.cells #[.int .u16 y.code, .int .u8 y.jt, .int .u8 y.jf, .int .u32 y.k] 36)).alloc (.cells #[.int .u32 d.nr, .int .u32 d.arch, .int .u64 d.ip, .int .u64 d.a0, .int .u64 d.a1, .int .u64 d.a2, .int .u64 d.a3, .int .u64 d.a4, .int .u64 d.a5] 47)).alloc (.cells (vmA pc r) 50)).alloc (.cells #[.int .i64 0, .int .u32 0, .int .u32 0, .int .u32 0, .int .u32 0, .int .u32 0, .int .u32 0, .int .u32 0, .int .u32 0, .int .u32 0, .int .u32 0, .int .u32 0, .int .u32 0, .int .u32 0, .int .u32 0, .int .u32 0, .int .u32 0, .int .u32 0, .int .u32 0] 50)).alloc (.cells (vmA pc r) 50)) by (repeat (first | with_reducible exact Below.refl _ _ | with_reducible assumption | ((with_reducible refine Below.setCell ?_ ?hp _); case hp => (first | omega | (simp only [World.size_alloc, World.size_setCell, World.size_drew]; omega) | (simp; done) | (simp; omega))) | ((with_reducible refine Below.alloc ?_ ?hp _); case hp => (first | omega | (simp only [World.size_alloc, World.size_setCell, World.size_drew]; omega) | (simp; done) | (simp; omega))) | with_reducible refine Below.drew ?_ | with_reducible refine below_drewN ?_ _)))
  clear hy hd hr
  go_enter Try.func68, Try.ntmps68
  go_wp2_with (first
    | (refine wpList_load_row rfl 50 (.tmp 5) rfl (w.heap.size + 2) rfl 50 (vmA pc r) (0, 0) _ HL.out Try.underlying50 rfl (HI.out _ _ HR.out) ?_; go_simp)
    | (refine wpList_store_row rfl 50 (.tmp 9) (.tmp 13) rfl (w.heap.size + 4) (vmA pc r) rfl rfl 50 #[.int .i64 0, .int .u32 0, .int .u32 0, .int .u32 0, .int .u32 0, .int .u32 0, .int .u32 0, .int .u32 0, .int .u32 0, .int .u32 0, .int .u32 0, .int .u32 0, .int .u32 0, .int .u32 0, .int .u32 0, .int .u32 0, .int .u32 0, .int .u32 0, .int .u32 0] HZ.out (HI.out _ _ HR.out) HSZ.out (vmA_one pc r) ?_; rw [row5]; generalize (((((w.alloc (.cells #[.int .u16 y.code, .int .u8 y.jt, .int .u8 y.jf, .int .u32 y.k] 36)).alloc (.cells #[.int .u32 d.nr, .int .u32 d.arch, .int .u64 d.ip, .int .u64 d.a0, .int .u64 d.a1, .int .u64 d.a2, .int .u64 d.a3, .int .u64 d.a4, .int .u64 d.a5] 47)).alloc (.cells (vmA pc r) 50)).alloc (.cells #[.int .i64 0, .int .u32 0, .int .u32 0, .int .u32 0, .int .u32 0, .int .u32 0, .int .u32 0, .int .u32 0, .int .u32 0, .int .u32 0, .int .u32 0, .int .u32 0, .int .u32 0, .int .u32 0, .int .u32 0, .int .u32 0, .int .u32 0, .int .u32 0, .int .u32 0] 50)).alloc (.cells (vmA pc r) 50)) = W5 at HRW HB5 ⊢; clear HL HZ; have HRW6 := Lib.hid (HRW.out.set 0 (.int .i64 (pc + 1)) (vmA_pc pc (pc + 1) r)); have HB6 := Lib.hid (HB5.out.setCell (p := ⟨w.heap.size + 4, 0, none⟩) (by show w.heap.size ≤ w.heap.size + 4; omega) (.int .i64 (pc + 1))); have HF := Lib.hid (HRW6.out.set 0 (.int .i64 (pc + 1 + y.jf)) (vmA_pc (pc + 1) (pc + 1 + y.jf) r)); have HFB := Lib.hid (HB6.out.setCell (p := ⟨w.heap.size + 4, 0, none⟩) (by show w.heap.size ≤ w.heap.size + 4; omega) (.int .i64 (pc + 1 + y.jf))); obtain ⟨x0, x1, x2, x3, n0, a0, a1, a2, fz, zz⟩ := HRW.out.facts; go_simp)
    | (refine wpList_load_row rfl 50 (.tmp 9) rfl (w.heap.size + 4) rfl 50 (vmA (pc + 1 + y.jf) r) (0, 0) _ HF.out.n Try.underlying50 rfl (HI.out _ _ HS.out) ?_; go_simp)
    | (refine wpList_store_row rfl 50 (.tmp 6) (.tmp 134) rfl (w.heap.size + 3) (vmA (pc + 1 + y.jf) r) rfl rfl 50 _ HF.out.o (HI.out _ _ HS.out) HSZ2.out (vmA_one _ _) ?_; go_simp)
    | (go_at_call 32; refine (HHD.out _).mono ?_; rintro e w1 ⟨rfl, rfl⟩))
  all_goals exact bodyPost_ret (results_cell3 rfl _ _ (w.heap.size + 3) 50 (vmA (pc + 1 + y.jf) r) (0, 0) _ rfl (setRow_heap _ _ _ _ _ _ HF.out.o) Try.underlying50 rfl (HI.out _ _ HS.out)) rfl ⟨by rw [HV.out]; rfl, below_row HFB.out (by omega) _⟩

set_option maxRecDepth 100000 in
set_option maxHeartbeats 1000000 in
theorem step_511 (y : Insn) (hy : y.Ok) (d : Dt) (hd : d.Ok) (pc : Int) (hp1 : 0 ≤ pc) (hp2 : pc ≤ 1000000) (r : Rg) (hr : r.Ok) (hc : y.code % 8 = 5) (hj : y.code / 16 % 16 ≠ 0) (hs : y.code / 8 % 2 = 1) (hh : holdsL (y.code / 16 % 16) r.a (otherL y r) = true) (w : World) :
    Calls Try.prog 68 #[(Value.agg #[.int .u16 y.code, .int .u8 y.jt, .int .u8 y.jf, .int .u32 y.k]), (Value.agg #[.int .u32 d.nr, .int .u32 d.arch, .int .u64 d.ip, .int .u64 d.a0, .int .u64 d.a1, .int .u64 d.a2, .int .u64 d.a3, .int .u64 d.a4, .int .u64 d.a5]), .agg (vmA pc r)] w fun e w' => e = .returned (stepV y (datL d) pc r) ∧ Below w.heap.size w w' := by
  have HR := Lib.hid hr
  have HI := Lib.hid (fun q (s : Rg) (h : s.Ok) => info_vm q s h)
  have HY := Lib.hid hy
  have HDt := Lib.hid hd
  have m8 := u16_8 y.code hy.code
  have m7 := u16_7 y.code hy.code
  have c7 : bits .and .u16 (y.code : Int) 7 = 5 := by rw [m7, hc]; rfl
  have c8 : bits .and .u16 (y.code : Int) 8 = 8 := by rw [m8, hs]; rfl
  have c240 : (bits .and .u16 (y.code : Int) 240 == 0) = false := by rw [u16_240 y.code hy.code]; simp; omega
  have yk : y.jt < 256 := hy.jt
  have g1 : (0 : Int) ≤ ((y.jt : Nat) : Int) := by omega
  have g2 : ((y.jt : Nat) : Int) ≤ 9223372036854775807 := by omega
  have g3 : -9223372036854775808 ≤ pc + 1 + ((y.jt : Nat) : Int) := by omega
  have g4 : pc + 1 + ((y.jt : Nat) : Int) ≤ 9223372036854775807 := by omega
  have HO := Lib.hid (show otherL y r = r.x by unfold otherL; rw [hs]; rfl)
  have HHD := Lib.hid (fun W => holds_any y.code r.a (otherL y r) hy.code hr.a (otherL_lt hy hr) W)
  have HS := Lib.hid hr
  have HV := Lib.hid (show stepV y (datL d) pc r = .tuple #[.agg (vmA (pc + 1 + y.jt) r), .int .u32 0, .bool false] by
    unfold stepV endsL effL offL; rw [hc]; simp [hj, hh])
  rw [hh, HO.out] at HHD
  clear m7 m8 hc hj hs hh
  have HSZ2 := Lib.hid (show (#[.int .i64 0, .int .u32 0, .int .u32 0, .int .u32 0, .int .u32 0, .int .u32 0, .int .u32 0, .int .u32 0, .int .u32 0, .int .u32 0, .int .u32 0, .int .u32 0, .int .u32 0, .int .u32 0, .int .u32 0, .int .u32 0, .int .u32 0, .int .u32 0, .int .u32 0] : Array Value).size = (vmA (pc + 1 + y.jt) r).size by rw [vmA_size _ _ HS.out]; rfl)
  have hp3 : -9223372036854775808 ≤ pc + 1 := by omega
  have hp4 : pc + 1 ≤ 9223372036854775807 := by omega
  have HL := Lib.hid (show ((((w.alloc (.cells #[.int .u16 y.code, .int .u8 y.jt, .int .u8 y.jf, .int .u32 y.k] 36)).alloc (.cells #[.int .u32 d.nr, .int .u32 d.arch, .int .u64 d.ip, .int .u64 d.a0, .int .u64 d.a1, .int .u64 d.a2, .int .u64 d.a3, .int .u64 d.a4, .int .u64 d.a5] 47)).alloc (.cells (vmA pc r) 50)).alloc (.cells #[.int .i64 0, .int .u32 0, .int .u32 0, .int .u32 0, .int .u32 0, .int .u32 0, .int .u32 0, .int .u32 0, .int .u32 0, .int .u32 0, .int .u32 0, .int .u32 0, .int .u32 0, .int .u32 0, .int .u32 0, .int .u32 0, .int .u32 0, .int .u32 0, .int .u32 0] 50)).heap[w.heap.size + 2]? = some (.cells (vmA pc r) 50 (0, 0)) from (heap4 w _ _ _ _).1)
  have HZ := Lib.hid (show (((((w.alloc (.cells #[.int .u16 y.code, .int .u8 y.jt, .int .u8 y.jf, .int .u32 y.k] 36)).alloc (.cells #[.int .u32 d.nr, .int .u32 d.arch, .int .u64 d.ip, .int .u64 d.a0, .int .u64 d.a1, .int .u64 d.a2, .int .u64 d.a3, .int .u64 d.a4, .int .u64 d.a5] 47)).alloc (.cells (vmA pc r) 50)).alloc (.cells #[.int .i64 0, .int .u32 0, .int .u32 0, .int .u32 0, .int .u32 0, .int .u32 0, .int .u32 0, .int .u32 0, .int .u32 0, .int .u32 0, .int .u32 0, .int .u32 0, .int .u32 0, .int .u32 0, .int .u32 0, .int .u32 0, .int .u32 0, .int .u32 0, .int .u32 0] 50)).alloc (.cells #[.int .i64 0, .int .u32 0, .int .u32 0, .int .u32 0, .int .u32 0, .int .u32 0, .int .u32 0, .int .u32 0, .int .u32 0, .int .u32 0, .int .u32 0, .int .u32 0, .int .u32 0, .int .u32 0, .int .u32 0, .int .u32 0, .int .u32 0, .int .u32 0, .int .u32 0] 50)).heap[w.heap.size + 4]? = some (.cells #[.int .i64 0, .int .u32 0, .int .u32 0, .int .u32 0, .int .u32 0, .int .u32 0, .int .u32 0, .int .u32 0, .int .u32 0, .int .u32 0, .int .u32 0, .int .u32 0, .int .u32 0, .int .u32 0, .int .u32 0, .int .u32 0, .int .u32 0, .int .u32 0, .int .u32 0] 50 (0, 0)) from (heap5 w _ _ _ _ _).2.2.2.2)
  have HSZ := Lib.hid (show (#[.int .i64 0, .int .u32 0, .int .u32 0, .int .u32 0, .int .u32 0, .int .u32 0, .int .u32 0, .int .u32 0, .int .u32 0, .int .u32 0, .int .u32 0, .int .u32 0, .int .u32 0, .int .u32 0, .int .u32 0, .int .u32 0, .int .u32 0, .int .u32 0, .int .u32 0] : Array Value).size = (vmA pc r).size by rw [vmA_size pc r hr]; rfl)
  have HRW := Lib.hid (rows5 w y d pc r)
  have HB5 := Lib.hid (show Below w.heap.size w (((((w.alloc (.cells #[.int .u16 y.code, .int .u8 y.jt, .int .u8 y.jf, .int .u32 y.k] 36)).alloc (.cells #[.int .u32 d.nr, .int .u32 d.arch, .int .u64 d.ip, .int .u64 d.a0, .int .u64 d.a1, .int .u64 d.a2, .int .u64 d.a3, .int .u64 d.a4, .int .u64 d.a5] 47)).alloc (.cells (vmA pc r) 50)).alloc (.cells #[.int .i64 0, .int .u32 0, .int .u32 0, .int .u32 0, .int .u32 0, .int .u32 0, .int .u32 0, .int .u32 0, .int .u32 0, .int .u32 0, .int .u32 0, .int .u32 0, .int .u32 0, .int .u32 0, .int .u32 0, .int .u32 0, .int .u32 0, .int .u32 0, .int .u32 0] 50)).alloc (.cells (vmA pc r) 50)) by (repeat (first | with_reducible exact Below.refl _ _ | with_reducible assumption | ((with_reducible refine Below.setCell ?_ ?hp _); case hp => (first | omega | (simp only [World.size_alloc, World.size_setCell, World.size_drew]; omega) | (simp; done) | (simp; omega))) | ((with_reducible refine Below.alloc ?_ ?hp _); case hp => (first | omega | (simp only [World.size_alloc, World.size_setCell, World.size_drew]; omega) | (simp; done) | (simp; omega))) | with_reducible refine Below.drew ?_ | with_reducible refine below_drewN ?_ _)))
  clear hy hd hr
  go_enter Try.func68, Try.ntmps68
  go_wp2_with (first
    | (refine wpList_load_row rfl 50 (.tmp 5) rfl (w.heap.size + 2) rfl 50 (vmA pc r) (0, 0) _ HL.out Try.underlying50 rfl (HI.out _ _ HR.out) ?_; go_simp)
    | (refine wpList_store_row rfl 50 (.tmp 9) (.tmp 13) rfl (w.heap.size + 4) (vmA pc r) rfl rfl 50 #[.int .i64 0, .int .u32 0, .int .u32 0, .int .u32 0, .int .u32 0, .int .u32 0, .int .u32 0, .int .u32 0, .int .u32 0, .int .u32 0, .int .u32 0, .int .u32 0, .int .u32 0, .int .u32 0, .int .u32 0, .int .u32 0, .int .u32 0, .int .u32 0, .int .u32 0] HZ.out (HI.out _ _ HR.out) HSZ.out (vmA_one pc r) ?_; rw [row5]; generalize (((((w.alloc (.cells #[.int .u16 y.code, .int .u8 y.jt, .int .u8 y.jf, .int .u32 y.k] 36)).alloc (.cells #[.int .u32 d.nr, .int .u32 d.arch, .int .u64 d.ip, .int .u64 d.a0, .int .u64 d.a1, .int .u64 d.a2, .int .u64 d.a3, .int .u64 d.a4, .int .u64 d.a5] 47)).alloc (.cells (vmA pc r) 50)).alloc (.cells #[.int .i64 0, .int .u32 0, .int .u32 0, .int .u32 0, .int .u32 0, .int .u32 0, .int .u32 0, .int .u32 0, .int .u32 0, .int .u32 0, .int .u32 0, .int .u32 0, .int .u32 0, .int .u32 0, .int .u32 0, .int .u32 0, .int .u32 0, .int .u32 0, .int .u32 0] 50)).alloc (.cells (vmA pc r) 50)) = W5 at HRW HB5 ⊢; clear HL HZ; have HRW6 := Lib.hid (HRW.out.set 0 (.int .i64 (pc + 1)) (vmA_pc pc (pc + 1) r)); have HB6 := Lib.hid (HB5.out.setCell (p := ⟨w.heap.size + 4, 0, none⟩) (by show w.heap.size ≤ w.heap.size + 4; omega) (.int .i64 (pc + 1))); have HF := Lib.hid (HRW6.out.set 0 (.int .i64 (pc + 1 + y.jt)) (vmA_pc (pc + 1) (pc + 1 + y.jt) r)); have HFB := Lib.hid (HB6.out.setCell (p := ⟨w.heap.size + 4, 0, none⟩) (by show w.heap.size ≤ w.heap.size + 4; omega) (.int .i64 (pc + 1 + y.jt))); obtain ⟨x0, x1, x2, x3, n0, a0, a1, a2, fz, zz⟩ := HRW.out.facts; go_simp)
    | (refine wpList_load_row rfl 50 (.tmp 9) rfl (w.heap.size + 4) rfl 50 (vmA (pc + 1 + y.jt) r) (0, 0) _ HF.out.n Try.underlying50 rfl (HI.out _ _ HS.out) ?_; go_simp)
    | (refine wpList_store_row rfl 50 (.tmp 6) (.tmp 134) rfl (w.heap.size + 3) (vmA (pc + 1 + y.jt) r) rfl rfl 50 _ HF.out.o (HI.out _ _ HS.out) HSZ2.out (vmA_one _ _) ?_; go_simp)
    | (go_at_call 32; refine (HHD.out _).mono ?_; rintro e w1 ⟨rfl, rfl⟩))
  all_goals exact bodyPost_ret (results_cell3 rfl _ _ (w.heap.size + 3) 50 (vmA (pc + 1 + y.jt) r) (0, 0) _ rfl (setRow_heap _ _ _ _ _ _ HF.out.o) Try.underlying50 rfl (HI.out _ _ HS.out)) rfl ⟨by rw [HV.out]; rfl, below_row HFB.out (by omega) _⟩

set_option maxRecDepth 100000 in
set_option maxHeartbeats 1000000 in
theorem step_510 (y : Insn) (hy : y.Ok) (d : Dt) (hd : d.Ok) (pc : Int) (hp1 : 0 ≤ pc) (hp2 : pc ≤ 1000000) (r : Rg) (hr : r.Ok) (hc : y.code % 8 = 5) (hj : y.code / 16 % 16 ≠ 0) (hs : y.code / 8 % 2 = 1) (hh : holdsL (y.code / 16 % 16) r.a (otherL y r) = false) (w : World) :
    Calls Try.prog 68 #[(Value.agg #[.int .u16 y.code, .int .u8 y.jt, .int .u8 y.jf, .int .u32 y.k]), (Value.agg #[.int .u32 d.nr, .int .u32 d.arch, .int .u64 d.ip, .int .u64 d.a0, .int .u64 d.a1, .int .u64 d.a2, .int .u64 d.a3, .int .u64 d.a4, .int .u64 d.a5]), .agg (vmA pc r)] w fun e w' => e = .returned (stepV y (datL d) pc r) ∧ Below w.heap.size w w' := by
  have HR := Lib.hid hr
  have HI := Lib.hid (fun q (s : Rg) (h : s.Ok) => info_vm q s h)
  have HY := Lib.hid hy
  have HDt := Lib.hid hd
  have m8 := u16_8 y.code hy.code
  have m7 := u16_7 y.code hy.code
  have c7 : bits .and .u16 (y.code : Int) 7 = 5 := by rw [m7, hc]; rfl
  have c8 : bits .and .u16 (y.code : Int) 8 = 8 := by rw [m8, hs]; rfl
  have c240 : (bits .and .u16 (y.code : Int) 240 == 0) = false := by rw [u16_240 y.code hy.code]; simp; omega
  have yk : y.jf < 256 := hy.jf
  have g1 : (0 : Int) ≤ ((y.jf : Nat) : Int) := by omega
  have g2 : ((y.jf : Nat) : Int) ≤ 9223372036854775807 := by omega
  have g3 : -9223372036854775808 ≤ pc + 1 + ((y.jf : Nat) : Int) := by omega
  have g4 : pc + 1 + ((y.jf : Nat) : Int) ≤ 9223372036854775807 := by omega
  have HO := Lib.hid (show otherL y r = r.x by unfold otherL; rw [hs]; rfl)
  have HHD := Lib.hid (fun W => holds_any y.code r.a (otherL y r) hy.code hr.a (otherL_lt hy hr) W)
  have HS := Lib.hid hr
  have HV := Lib.hid (show stepV y (datL d) pc r = .tuple #[.agg (vmA (pc + 1 + y.jf) r), .int .u32 0, .bool false] by
    unfold stepV endsL effL offL; rw [hc]; simp [hj, hh])
  rw [hh, HO.out] at HHD
  clear m7 m8 hc hj hs hh
  have HSZ2 := Lib.hid (show (#[.int .i64 0, .int .u32 0, .int .u32 0, .int .u32 0, .int .u32 0, .int .u32 0, .int .u32 0, .int .u32 0, .int .u32 0, .int .u32 0, .int .u32 0, .int .u32 0, .int .u32 0, .int .u32 0, .int .u32 0, .int .u32 0, .int .u32 0, .int .u32 0, .int .u32 0] : Array Value).size = (vmA (pc + 1 + y.jf) r).size by rw [vmA_size _ _ HS.out]; rfl)
  have hp3 : -9223372036854775808 ≤ pc + 1 := by omega
  have hp4 : pc + 1 ≤ 9223372036854775807 := by omega
  have HL := Lib.hid (show ((((w.alloc (.cells #[.int .u16 y.code, .int .u8 y.jt, .int .u8 y.jf, .int .u32 y.k] 36)).alloc (.cells #[.int .u32 d.nr, .int .u32 d.arch, .int .u64 d.ip, .int .u64 d.a0, .int .u64 d.a1, .int .u64 d.a2, .int .u64 d.a3, .int .u64 d.a4, .int .u64 d.a5] 47)).alloc (.cells (vmA pc r) 50)).alloc (.cells #[.int .i64 0, .int .u32 0, .int .u32 0, .int .u32 0, .int .u32 0, .int .u32 0, .int .u32 0, .int .u32 0, .int .u32 0, .int .u32 0, .int .u32 0, .int .u32 0, .int .u32 0, .int .u32 0, .int .u32 0, .int .u32 0, .int .u32 0, .int .u32 0, .int .u32 0] 50)).heap[w.heap.size + 2]? = some (.cells (vmA pc r) 50 (0, 0)) from (heap4 w _ _ _ _).1)
  have HZ := Lib.hid (show (((((w.alloc (.cells #[.int .u16 y.code, .int .u8 y.jt, .int .u8 y.jf, .int .u32 y.k] 36)).alloc (.cells #[.int .u32 d.nr, .int .u32 d.arch, .int .u64 d.ip, .int .u64 d.a0, .int .u64 d.a1, .int .u64 d.a2, .int .u64 d.a3, .int .u64 d.a4, .int .u64 d.a5] 47)).alloc (.cells (vmA pc r) 50)).alloc (.cells #[.int .i64 0, .int .u32 0, .int .u32 0, .int .u32 0, .int .u32 0, .int .u32 0, .int .u32 0, .int .u32 0, .int .u32 0, .int .u32 0, .int .u32 0, .int .u32 0, .int .u32 0, .int .u32 0, .int .u32 0, .int .u32 0, .int .u32 0, .int .u32 0, .int .u32 0] 50)).alloc (.cells #[.int .i64 0, .int .u32 0, .int .u32 0, .int .u32 0, .int .u32 0, .int .u32 0, .int .u32 0, .int .u32 0, .int .u32 0, .int .u32 0, .int .u32 0, .int .u32 0, .int .u32 0, .int .u32 0, .int .u32 0, .int .u32 0, .int .u32 0, .int .u32 0, .int .u32 0] 50)).heap[w.heap.size + 4]? = some (.cells #[.int .i64 0, .int .u32 0, .int .u32 0, .int .u32 0, .int .u32 0, .int .u32 0, .int .u32 0, .int .u32 0, .int .u32 0, .int .u32 0, .int .u32 0, .int .u32 0, .int .u32 0, .int .u32 0, .int .u32 0, .int .u32 0, .int .u32 0, .int .u32 0, .int .u32 0] 50 (0, 0)) from (heap5 w _ _ _ _ _).2.2.2.2)
  have HSZ := Lib.hid (show (#[.int .i64 0, .int .u32 0, .int .u32 0, .int .u32 0, .int .u32 0, .int .u32 0, .int .u32 0, .int .u32 0, .int .u32 0, .int .u32 0, .int .u32 0, .int .u32 0, .int .u32 0, .int .u32 0, .int .u32 0, .int .u32 0, .int .u32 0, .int .u32 0, .int .u32 0] : Array Value).size = (vmA pc r).size by rw [vmA_size pc r hr]; rfl)
  have HRW := Lib.hid (rows5 w y d pc r)
  have HB5 := Lib.hid (show Below w.heap.size w (((((w.alloc (.cells #[.int .u16 y.code, .int .u8 y.jt, .int .u8 y.jf, .int .u32 y.k] 36)).alloc (.cells #[.int .u32 d.nr, .int .u32 d.arch, .int .u64 d.ip, .int .u64 d.a0, .int .u64 d.a1, .int .u64 d.a2, .int .u64 d.a3, .int .u64 d.a4, .int .u64 d.a5] 47)).alloc (.cells (vmA pc r) 50)).alloc (.cells #[.int .i64 0, .int .u32 0, .int .u32 0, .int .u32 0, .int .u32 0, .int .u32 0, .int .u32 0, .int .u32 0, .int .u32 0, .int .u32 0, .int .u32 0, .int .u32 0, .int .u32 0, .int .u32 0, .int .u32 0, .int .u32 0, .int .u32 0, .int .u32 0, .int .u32 0] 50)).alloc (.cells (vmA pc r) 50)) by (repeat (first | with_reducible exact Below.refl _ _ | with_reducible assumption | ((with_reducible refine Below.setCell ?_ ?hp _); case hp => (first | omega | (simp only [World.size_alloc, World.size_setCell, World.size_drew]; omega) | (simp; done) | (simp; omega))) | ((with_reducible refine Below.alloc ?_ ?hp _); case hp => (first | omega | (simp only [World.size_alloc, World.size_setCell, World.size_drew]; omega) | (simp; done) | (simp; omega))) | with_reducible refine Below.drew ?_ | with_reducible refine below_drewN ?_ _)))
  clear hy hd hr
  go_enter Try.func68, Try.ntmps68
  go_wp2_with (first
    | (refine wpList_load_row rfl 50 (.tmp 5) rfl (w.heap.size + 2) rfl 50 (vmA pc r) (0, 0) _ HL.out Try.underlying50 rfl (HI.out _ _ HR.out) ?_; go_simp)
    | (refine wpList_store_row rfl 50 (.tmp 9) (.tmp 13) rfl (w.heap.size + 4) (vmA pc r) rfl rfl 50 #[.int .i64 0, .int .u32 0, .int .u32 0, .int .u32 0, .int .u32 0, .int .u32 0, .int .u32 0, .int .u32 0, .int .u32 0, .int .u32 0, .int .u32 0, .int .u32 0, .int .u32 0, .int .u32 0, .int .u32 0, .int .u32 0, .int .u32 0, .int .u32 0, .int .u32 0] HZ.out (HI.out _ _ HR.out) HSZ.out (vmA_one pc r) ?_; rw [row5]; generalize (((((w.alloc (.cells #[.int .u16 y.code, .int .u8 y.jt, .int .u8 y.jf, .int .u32 y.k] 36)).alloc (.cells #[.int .u32 d.nr, .int .u32 d.arch, .int .u64 d.ip, .int .u64 d.a0, .int .u64 d.a1, .int .u64 d.a2, .int .u64 d.a3, .int .u64 d.a4, .int .u64 d.a5] 47)).alloc (.cells (vmA pc r) 50)).alloc (.cells #[.int .i64 0, .int .u32 0, .int .u32 0, .int .u32 0, .int .u32 0, .int .u32 0, .int .u32 0, .int .u32 0, .int .u32 0, .int .u32 0, .int .u32 0, .int .u32 0, .int .u32 0, .int .u32 0, .int .u32 0, .int .u32 0, .int .u32 0, .int .u32 0, .int .u32 0] 50)).alloc (.cells (vmA pc r) 50)) = W5 at HRW HB5 ⊢; clear HL HZ; have HRW6 := Lib.hid (HRW.out.set 0 (.int .i64 (pc + 1)) (vmA_pc pc (pc + 1) r)); have HB6 := Lib.hid (HB5.out.setCell (p := ⟨w.heap.size + 4, 0, none⟩) (by show w.heap.size ≤ w.heap.size + 4; omega) (.int .i64 (pc + 1))); have HF := Lib.hid (HRW6.out.set 0 (.int .i64 (pc + 1 + y.jf)) (vmA_pc (pc + 1) (pc + 1 + y.jf) r)); have HFB := Lib.hid (HB6.out.setCell (p := ⟨w.heap.size + 4, 0, none⟩) (by show w.heap.size ≤ w.heap.size + 4; omega) (.int .i64 (pc + 1 + y.jf))); obtain ⟨x0, x1, x2, x3, n0, a0, a1, a2, fz, zz⟩ := HRW.out.facts; go_simp)
    | (refine wpList_load_row rfl 50 (.tmp 9) rfl (w.heap.size + 4) rfl 50 (vmA (pc + 1 + y.jf) r) (0, 0) _ HF.out.n Try.underlying50 rfl (HI.out _ _ HS.out) ?_; go_simp)
    | (refine wpList_store_row rfl 50 (.tmp 6) (.tmp 134) rfl (w.heap.size + 3) (vmA (pc + 1 + y.jf) r) rfl rfl 50 _ HF.out.o (HI.out _ _ HS.out) HSZ2.out (vmA_one _ _) ?_; go_simp)
    | (go_at_call 32; refine (HHD.out _).mono ?_; rintro e w1 ⟨rfl, rfl⟩))
  all_goals exact bodyPost_ret (results_cell3 rfl _ _ (w.heap.size + 3) 50 (vmA (pc + 1 + y.jf) r) (0, 0) _ rfl (setRow_heap _ _ _ _ _ _ HF.out.o) Try.underlying50 rfl (HI.out _ _ HS.out)) rfl ⟨by rw [HV.out]; rfl, below_row HFB.out (by omega) _⟩

end Go.Proofs.Ytfjbanfibmpalaa

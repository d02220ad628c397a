/- Contracts: the reference's step. -/
import Derived.Test.YtfjbanfibmpalaaVF
import Derived.Deep.Cut
import Derived.Deep.RegionHeld3
set_option linter.unusedVariables false
set_option linter.unusedSimpArgs false
namespace Go.Proofs.Ytfjbanfibmpalaa
open Go.RowKit Go.Shelf

/-- What is asked of the place and the instruction there. -/
structure Here (b o pc : Nat) (y : Insn) (w : World) : Prop where
  lt : b < w.heap.size
  x0 : w.cell? ⟨b, o + pc * 4, none⟩ = some (.int .u16 y.code)
  x1 : w.cell? ⟨b, o + pc * 4 + 1, none⟩ = some (.int .u8 y.jt)
  x2 : w.cell? ⟨b, o + pc * 4 + 2, none⟩ = some (.int .u8 y.jf)
  x3 : w.cell? ⟨b, o + pc * 4 + 3, none⟩ = some (.int .u32 y.k)

theorem getD_lt {r : Rg} (h : r.Ok) (k : Nat) : r.mem.getD k 0 < 4294967296 := by
  rw [List.getD_eq_getElem?_getD]
  rcases Nat.lt_or_ge k r.mem.length with h1 | h1
  · rw [List.getElem?_eq_getElem h1]; exact h.mem _ (List.getElem_mem h1)
  · rw [List.getElem?_eq_none h1]; decide

set_option maxRecDepth 100000 in
set_option maxHeartbeats 8000000 in
theorem rstep_k (b o cap n : Nat) (pc : Nat) (hpc : pc < n) (hn : n ≤ 64) (y : Insn) (hy : y.Ok) (hf : 0 ≤ form y.code) (hm : MemOk y) (d : Dt) (hd : d.Ok) (r : Rg) (hr : r.Ok) (w : World) (hh : Here b o pc y w) (hx : tailIx y.code ≠ 0) :
    Calls Try.prog 36 #[.slice (some ⟨b, o, none⟩) n cap, (Value.agg #[.int .u32 d.nr, .int .u32 d.arch, .int .u64 d.ip, .int .u64 d.a0, .int .u64 d.a1, .int .u64 d.a2, .int .u64 d.a3, .int .u64 d.a4, .int .u64 d.a5]), .agg (vmA pc r)] w fun e w' => e = .returned (stepV y (datL d) pc r) ∧ Below w.heap.size w w' := by
  have t0 : ((tailB (nameOf y.code)).toList == [120]) = false := (tails_facts (parts hf).2).1.trans (by rw [beq_eq_false_iff_ne]; exact fun e => hx e.symm)
  have HR := Lib.hid hr
  have HI := Lib.hid (fun q (s : Rg) (h : s.Ok) => info_vm q s h)
  have HY := Lib.hid hy
  have HDt := Lib.hid hd
  have HMO := Lib.hid hm
  have HNM := Lib.hid (fun W => rname_any y.code hy.code W)
  have HSP := Lib.hid (fun W => rsplit_any (nameOf y.code) (name_len hf) W)
  have HPH := Lib.hid (heads_facts (parts hf).1)
  have HPT := Lib.hid (tails_facts (parts hf).2)
  have HW := Lib.hid (fun W => rword_any d hd y.k hy.k W)
  have HCF := Lib.hid (code_cls hf)
  have HJA := Lib.hid (ja_code hf)
  have HJX := Lib.hid (jx_code hf)
  obtain ⟨hb, x0, x1, x2, x3⟩ := hh
  have i1 : (0 : Int) ≤ (pc : Int) := by omega
  have i2 : (pc : Int) < (n : Int) := by omega
  have hb1 : b < w.heap.size + 1 := by omega
  have hb2 : b < w.heap.size + 1 + 1 := by omega
  have HK := Lib.hid hy.k
  have HSN := Lib.hid (SRows.new w y d (pc : Int) r)
  have HB4 := Lib.hid (show Below w.heap.size w ((((w.alloc (.cells #[.int .u32 d.nr, .int .u32 d.arch, .int .u64 d.ip, .int .u64 d.a0, .int .u64 d.a1, .int .u64 d.a2, .int .u64 d.a3, .int .u64 d.a4, .int .u64 d.a5] 47)).alloc (.cells (vmA pc r) 50)).alloc (.cells #[.int .i64 0, .int .u32 0, .int .u32 0, .int .u32 0, .int .u32 0, .int .u32 0, .int .u32 0, .int .u32 0, .int .u32 0, .int .u32 0, .int .u32 0, .int .u32 0, .int .u32 0, .int .u32 0, .int .u32 0, .int .u32 0, .int .u32 0, .int .u32 0, .int .u32 0] 50)).alloc (.cells #[.int .u16 y.code, .int .u8 y.jt, .int .u8 y.jf, .int .u32 y.k] 36)) by (repeat (first | with_reducible exact Below.refl _ _ | with_reducible assumption | ((with_reducible refine Below.setCell ?_ ?hp _); case hp => (first | omega | (simp only [World.size_alloc, World.size_setCell, World.size_drew]; omega) | (simp; done) | (simp; omega))) | ((with_reducible refine Below.alloc ?_ ?hp _); case hp => (first | omega | (simp only [World.size_alloc, World.size_setCell, World.size_drew]; omega) | (simp; done) | (simp; omega))) | with_reducible refine Below.drew ?_ | with_reducible refine below_drewN ?_ _)))
  generalize nameOf y.code = nm at *
  generalize headB nm = hB at *
  generalize tailB nm = tB at *
  have k0 := vmA_0 (pc : Int) r
  have k1 := vmA_1 (pc : Int) r
  have k2 := vmA_2 (pc : Int) r
  clear hy hd hr hm
  go_enter Try.func36, Try.ntmps36
  go_upto_region 9 with (first
    | (go_at_call 69; refine (HNM.out _).mono ?_; rintro e w1 ⟨rfl, hbn⟩; have HS1 := Lib.hid (HSN.out.below hbn); have HB1 := Lib.hid (HB4.out.trans (hbn.mono (by simp; omega))); clear hbn; have y0 := cell_of_row _ _ 0 _ _ _ HS1.out.x; have y1 := cell_of_row _ _ 1 _ _ _ HS1.out.x; have y2 := cell_of_row _ _ 2 _ _ _ HS1.out.x; have y3 := cell_of_row _ _ 3 _ _ _ HS1.out.x; have m0 := (cell_of_row _ _ 0 _ _ _ HS1.out.m).trans (vmA_0 _ _); have m1 := (cell_of_row _ _ 1 _ _ _ HS1.out.m).trans (vmA_1 _ _); have m2 := (cell_of_row _ _ 2 _ _ _ HS1.out.m).trans (vmA_2 _ _); simp at y0 y1 y2 y3; clear x0 x1 x2 x3 hb1 hb2)
    | (go_at_call 70; refine (HSP.out _).mono ?_; rintro e w2 ⟨rfl, nn, rfl⟩; have HS2 := Lib.hid (HS1.out.below (W' := w1.drewN nn) (by (repeat (first | with_reducible exact Below.refl _ _ | with_reducible assumption | ((with_reducible refine Below.setCell ?_ ?hp _); case hp => (first | omega | (simp only [World.size_alloc, World.size_setCell, World.size_drew]; omega) | (simp; done) | (simp; omega))) | ((with_reducible refine Below.alloc ?_ ?hp _); case hp => (first | omega | (simp only [World.size_alloc, World.size_setCell, World.size_drew]; omega) | (simp; done) | (simp; omega))) | with_reducible refine Below.drew ?_ | with_reducible refine below_drewN ?_ _)))))
    | (refine wpList_load_row rfl 50 (.tmp 5) rfl (w.heap.size + 1) rfl 50 (vmA pc r) (0, 0) _ HS2.out.m Try.underlying50 rfl (HI.out _ _ HR.out) ?_; go_simp)
    | (refine wpList_store_row rfl 50 (.tmp 15) (.tmp 41) rfl w1.heap.size (vmA pc r) rfl rfl 50 #[.int .i64 0, .int .u32 0, .int .u32 0, .int .u32 0, .int .u32 0, .int .u32 0, .int .u32 0, .int .u32 0, .int .u32 0, .int .u32 0, .int .u32 0, .int .u32 0, .int .u32 0, .int .u32 0, .int .u32 0, .int .u32 0, .int .u32 0, .int .u32 0, .int .u32 0] (heap_alloc_new (w1.drewN nn) _) (HI.out _ _ HR.out) (by rw [vmA_size _ _ HR.out]; rfl) (vmA_one pc r) ?_; have HT5 := Lib.hid (TRows.new nn HS1.out); have HB5 := Lib.hid (show Below w.heap.size w (((w1.drewN nn).alloc (.cells #[.int .i64 0, .int .u32 0, .int .u32 0, .int .u32 0, .int .u32 0, .int .u32 0, .int .u32 0, .int .u32 0, .int .u32 0, .int .u32 0, .int .u32 0, .int .u32 0, .int .u32 0, .int .u32 0, .int .u32 0, .int .u32 0, .int .u32 0, .int .u32 0, .int .u32 0] 50)).setRow w1.heap.size (vmA pc r)) from below_row ((below_drewN HB1.out nn).alloc HB1.out.size _) HB1.out.size _); generalize ((w1.drewN nn).alloc (.cells #[.int .i64 0, .int .u32 0, .int .u32 0, .int .u32 0, .int .u32 0, .int .u32 0, .int .u32 0, .int .u32 0, .int .u32 0, .int .u32 0, .int .u32 0, .int .u32 0, .int .u32 0, .int .u32 0, .int .u32 0, .int .u32 0, .int .u32 0, .int .u32 0, .int .u32 0] 50)).setRow w1.heap.size (vmA pc r) = W5 at HT5 HB5 ⊢; clear y0 y1 y2 y3 m0 m1 m2; obtain ⟨⟨y0, y1, y2, y3⟩, ⟨m0, m1, m2⟩, n0, fz⟩ := HT5.out.facts; have nz := HT5.out.z; go_simp))
  have HT6 := Lib.hid (HT5.out.set 0 (.int .i64 ((pc : Int) + 1)) (vmA_pc (pc : Int) ((pc : Int) + 1) r))
  have hwm := HB1.out.size
  have HB6 := Lib.hid (HB5.out.setCell (p := ⟨w1.heap.size, 0, none⟩) hwm (.int .i64 ((pc : Int) + 1)))
  generalize hMM : w1.heap.size = M at *
  generalize W5.setCell ⟨M, 0, none⟩ (.int .i64 ((pc : Int) + 1)) = W6 at *
  clear k0 k1 k2 y0 y1 y2 y3 m0 m1 m2 n0 fz nz HT5 HB5 HSN HB4 HS1 HB1 HNM HSP
  obtain ⟨⟨y0, y1, y2, y3⟩, ⟨m0, m1, m2⟩, n0, fz⟩ := HT6.out.facts
  have nz := HT6.out.z
  have h8 : y.code % 8 < 8 := Nat.mod_lt _ (by decide)
  have HSRC := Lib.hid (fun (h : y.code % 8 = 4 ∨ y.code % 8 = 5) => src_k h hx)
  rcases (show y.code % 8 = 0 ∨ y.code % 8 = 1 ∨ y.code % 8 = 2 ∨ y.code % 8 = 3 ∨ y.code % 8 = 4 ∨ y.code % 8 = 5 ∨ y.code % 8 = 6 ∨ y.code % 8 = 7 by omega) with hc8 | hc8 | hc8 | hc8 | hc8 | hc8 | hc8 | hc8
  · rcases HCF.out.1 hc8 with hc | hc | hc | hc
    · have hT : tailIx y.code = 3 := by rw [hc]; rfl
      have hH : headIx y.code = 0 := by rw [hc]; rfl
      obtain ⟨_, t1, t2, t3, t4, t5⟩ := HPT.out
      obtain ⟨s0, s1, s2, s3, s4, s5, s6, s7, s8, s9, s10, s11⟩ := HPH.out
      rw [show tailIx y.code = 3 from hT] at t1 t2 t3 t4 t5
      rw [show headIx y.code = 0 from hH] at s0 s1 s2 s3 s4 s5 s6 s7 s8 s9 s10 s11
      simp only [Nat.reduceBEq] at t1 t2 t3 t4 t5 s0 s1 s2 s3 s4 s5 s6 s7 s8 s9 s10 s11
      clear hT hH
      have HV := Lib.hid (show stepV y (datL d) (pc : Int) r = .tuple #[.agg (vmA ((pc : Int) + 1) { r with a := y.k }), .int .u32 0, .bool false] by unfold stepV endsL effL offL loadL; rw [hc]; rfl)
      have HSO := Lib.hid (show Rg.Ok { r with a := y.k } from HR.out.setA HK.out)
      have n1 := (cell_of_row _ _ 1 _ _ _ HT6.out.n).trans (vmA_1 _ _)
      have HF := Lib.hid (HT6.out.set (1) (.int .u32 (y.k : Nat)) (vmA_a ((pc : Int) + 1) r y.k))
      have HFB := Lib.hid (HB6.out.setCell (p := ⟨M, 1, none⟩) (by show w.heap.size ≤ M; omega) (.int .u32 (y.k : Nat)))
      go_wp2_with (first
        | (refine wpList_load_row rfl 50 (.tmp 15) rfl M rfl 50 (vmA ((pc : Int) + 1) { r with a := y.k }) (0, 0) _ HF.out.n Try.underlying50 rfl (HI.out _ _ HSO.out) ?_; go_simp)
        | (refine wpList_store_row rfl 50 (.tmp 6) (.tmp 161) rfl (w.heap.size + 1 + 1) (vmA ((pc : Int) + 1) { r with a := y.k }) rfl rfl 50 _ HF.out.rows.o (HI.out _ _ HSO.out) (by rw [vmA_size _ _ HSO.out]; rfl) (vmA_one _ _) ?_; go_simp))
      exact bodyPost_ret (results_cell3 rfl _ _ (w.heap.size + 1 + 1) 50 (vmA ((pc : Int) + 1) { r with a := y.k }) (0, 0) _ rfl (setRow_heap _ _ _ _ _ _ HF.out.rows.o) Try.underlying50 rfl (HI.out _ _ HSO.out)) rfl ⟨by rw [HV.out]; rfl, below_row HFB.out (by omega) _⟩
    · have hT : tailIx y.code = 1 := by rw [hc]; rfl
      have hH : headIx y.code = 0 := by rw [hc]; rfl
      obtain ⟨_, t1, t2, t3, t4, t5⟩ := HPT.out
      obtain ⟨s0, s1, s2, s3, s4, s5, s6, s7, s8, s9, s10, s11⟩ := HPH.out
      rw [show tailIx y.code = 1 from hT] at t1 t2 t3 t4 t5
      rw [show headIx y.code = 0 from hH] at s0 s1 s2 s3 s4 s5 s6 s7 s8 s9 s10 s11
      simp only [Nat.reduceBEq] at t1 t2 t3 t4 t5 s0 s1 s2 s3 s4 s5 s6 s7 s8 s9 s10 s11
      clear hT hH
      have HV := Lib.hid (show stepV y (datL d) (pc : Int) r = .tuple #[.agg (vmA ((pc : Int) + 1) { r with a := (datL d y.k) }), .int .u32 0, .bool false] by unfold stepV endsL effL offL loadL; rw [hc]; rfl)
      have HSO := Lib.hid (show Rg.Ok { r with a := (datL d y.k) } from HR.out.setA (datL_lt HDt.out y.k))
      go_wp2_with (first
        | (refine wpList_load_row rfl 47 (.tmp 4) rfl w.heap.size rfl 47 #[.int .u32 d.nr, .int .u32 d.arch, .int .u64 d.ip, .int .u64 d.a0, .int .u64 d.a1, .int .u64 d.a2, .int .u64 d.a3, .int .u64 d.a4, .int .u64 d.a5] (0, 0) _ HT6.out.rows.d Try.underlying47 rfl (by kernel_rfl) ?_; go_simp)
        | (go_at_call 71; refine (HW.out _).mono ?_; rintro e W7 ⟨⟨qq, rfl⟩, hb7⟩; have HT7 := Lib.hid (HT6.out.below hb7); have HB7 := Lib.hid (HB6.out.trans (hb7.mono HB6.out.size)); clear hb7 y0 y1 y2 y3 m0 m1 m2 n0 fz nz; obtain ⟨⟨y0, y1, y2, y3⟩, ⟨m0, m1, m2⟩, n0, fz⟩ := HT7.out.facts; have nz := HT7.out.z; have n1 := (cell_of_row _ _ 1 _ _ _ HT7.out.n).trans (vmA_1 _ _); have HF := Lib.hid (HT7.out.set (1) (.int .u32 ((datL d y.k) : Nat)) (vmA_a ((pc : Int) + 1) r (datL d y.k))); have HFB := Lib.hid (HB7.out.setCell (p := ⟨M, 1, none⟩) (by show w.heap.size ≤ M; omega) (.int .u32 ((datL d y.k) : Nat))))
        | (refine wpList_load_row rfl 50 (.tmp 15) rfl M rfl 50 (vmA ((pc : Int) + 1) { r with a := (datL d y.k) }) (0, 0) _ HF.out.n Try.underlying50 rfl (HI.out _ _ HSO.out) ?_; go_simp)
        | (refine wpList_store_row rfl 50 (.tmp 6) (.tmp 161) rfl (w.heap.size + 1 + 1) (vmA ((pc : Int) + 1) { r with a := (datL d y.k) }) rfl rfl 50 _ HF.out.rows.o (HI.out _ _ HSO.out) (by rw [vmA_size _ _ HSO.out]; rfl) (vmA_one _ _) ?_; go_simp))
      exact bodyPost_ret (results_cell3 rfl _ _ (w.heap.size + 1 + 1) 50 (vmA ((pc : Int) + 1) { r with a := (datL d y.k) }) (0, 0) _ rfl (setRow_heap _ _ _ _ _ _ HF.out.rows.o) Try.underlying50 rfl (HI.out _ _ HSO.out)) rfl ⟨by rw [HV.out]; rfl, below_row HFB.out (by omega) _⟩
    · have hT : tailIx y.code = 4 := by rw [hc]; rfl
      have hH : headIx y.code = 0 := by rw [hc]; rfl
      obtain ⟨_, t1, t2, t3, t4, t5⟩ := HPT.out
      obtain ⟨s0, s1, s2, s3, s4, s5, s6, s7, s8, s9, s10, s11⟩ := HPH.out
      rw [show tailIx y.code = 4 from hT] at t1 t2 t3 t4 t5
      rw [show headIx y.code = 0 from hH] at s0 s1 s2 s3 s4 s5 s6 s7 s8 s9 s10 s11
      simp only [Nat.reduceBEq] at t1 t2 t3 t4 t5 s0 s1 s2 s3 s4 s5 s6 s7 s8 s9 s10 s11
      clear hT hH
      have HV := Lib.hid (show stepV y (datL d) (pc : Int) r = .tuple #[.agg (vmA ((pc : Int) + 1) { r with a := (r.mem.getD y.k 0) }), .int .u32 0, .bool false] by unfold stepV endsL effL offL loadL; rw [hc]; rfl)
      have HSO := Lib.hid (show Rg.Ok { r with a := (r.mem.getD y.k 0) } from HR.out.setA (getD_lt HR.out y.k))
      have hk16 : y.k < 16 := HMO.out.1 (.inl (by rw [hc])) (by rw [hc])
      have j1 : ((y.k : Nat) : Int) < 16 := by omega
      have j2 : (0 : Int) ≤ ((y.k : Nat) : Int) := by omega
      have mm := (cell_of_row _ _ (3 + y.k) _ _ _ HT6.out.rows.m).trans (vmA_m _ _ HR.out y.k hk16)
      have n1 := (cell_of_row _ _ 1 _ _ _ HT6.out.n).trans (vmA_1 _ _)
      have HF := Lib.hid (HT6.out.set (1) (.int .u32 ((r.mem.getD y.k 0) : Nat)) (vmA_a ((pc : Int) + 1) r (r.mem.getD y.k 0)))
      have HFB := Lib.hid (HB6.out.setCell (p := ⟨M, 1, none⟩) (by show w.heap.size ≤ M; omega) (.int .u32 ((r.mem.getD y.k 0) : Nat)))
      go_wp2_with (first
        | (refine wpList_load_row rfl 50 (.tmp 15) rfl M rfl 50 (vmA ((pc : Int) + 1) { r with a := (r.mem.getD y.k 0) }) (0, 0) _ HF.out.n Try.underlying50 rfl (HI.out _ _ HSO.out) ?_; go_simp)
        | (refine wpList_store_row rfl 50 (.tmp 6) (.tmp 161) rfl (w.heap.size + 1 + 1) (vmA ((pc : Int) + 1) { r with a := (r.mem.getD y.k 0) }) rfl rfl 50 _ HF.out.rows.o (HI.out _ _ HSO.out) (by rw [vmA_size _ _ HSO.out]; rfl) (vmA_one _ _) ?_; go_simp))
      exact bodyPost_ret (results_cell3 rfl _ _ (w.heap.size + 1 + 1) 50 (vmA ((pc : Int) + 1) { r with a := (r.mem.getD y.k 0) }) (0, 0) _ rfl (setRow_heap _ _ _ _ _ _ HF.out.rows.o) Try.underlying50 rfl (HI.out _ _ HSO.out)) rfl ⟨by rw [HV.out]; rfl, below_row HFB.out (by omega) _⟩
    · have hT : tailIx y.code = 2 := by rw [hc]; rfl
      have hH : headIx y.code = 0 := by rw [hc]; rfl
      obtain ⟨_, t1, t2, t3, t4, t5⟩ := HPT.out
      obtain ⟨s0, s1, s2, s3, s4, s5, s6, s7, s8, s9, s10, s11⟩ := HPH.out
      rw [show tailIx y.code = 2 from hT] at t1 t2 t3 t4 t5
      rw [show headIx y.code = 0 from hH] at s0 s1 s2 s3 s4 s5 s6 s7 s8 s9 s10 s11
      simp only [Nat.reduceBEq] at t1 t2 t3 t4 t5 s0 s1 s2 s3 s4 s5 s6 s7 s8 s9 s10 s11
      clear hT hH
      have HV := Lib.hid (show stepV y (datL d) (pc : Int) r = .tuple #[.agg (vmA ((pc : Int) + 1) { r with a := 64 }), .int .u32 0, .bool false] by unfold stepV endsL effL offL loadL; rw [hc]; rfl)
      have HSO := Lib.hid (show Rg.Ok { r with a := 64 } from HR.out.setA (by decide))
      have n1 := (cell_of_row _ _ 1 _ _ _ HT6.out.n).trans (vmA_1 _ _)
      have HF := Lib.hid (HT6.out.set (1) (.int .u32 (64 : Nat)) (vmA_a ((pc : Int) + 1) r 64))
      have HFB := Lib.hid (HB6.out.setCell (p := ⟨M, 1, none⟩) (by show w.heap.size ≤ M; omega) (.int .u32 (64 : Nat)))
      go_wp2_with (first
        | (refine wpList_load_row rfl 50 (.tmp 15) rfl M rfl 50 (vmA ((pc : Int) + 1) { r with a := 64 }) (0, 0) _ HF.out.n Try.underlying50 rfl (HI.out _ _ HSO.out) ?_; go_simp)
        | (refine wpList_store_row rfl 50 (.tmp 6) (.tmp 161) rfl (w.heap.size + 1 + 1) (vmA ((pc : Int) + 1) { r with a := 64 }) rfl rfl 50 _ HF.out.rows.o (HI.out _ _ HSO.out) (by rw [vmA_size _ _ HSO.out]; rfl) (vmA_one _ _) ?_; go_simp))
      exact bodyPost_ret (results_cell3 rfl _ _ (w.heap.size + 1 + 1) 50 (vmA ((pc : Int) + 1) { r with a := 64 }) (0, 0) _ rfl (setRow_heap _ _ _ _ _ _ HF.out.rows.o) Try.underlying50 rfl (HI.out _ _ HSO.out)) rfl ⟨by rw [HV.out]; rfl, below_row HFB.out (by omega) _⟩
  · rcases HCF.out.2.1 hc8 with hc | hc | hc
    · have hT : tailIx y.code = 3 := by rw [hc]; rfl
      have hH : headIx y.code = 1 := by rw [hc]; rfl
      obtain ⟨_, t1, t2, t3, t4, t5⟩ := HPT.out
      obtain ⟨s0, s1, s2, s3, s4, s5, s6, s7, s8, s9, s10, s11⟩ := HPH.out
      rw [show tailIx y.code = 3 from hT] at t1 t2 t3 t4 t5
      rw [show headIx y.code = 1 from hH] at s0 s1 s2 s3 s4 s5 s6 s7 s8 s9 s10 s11
      simp only [Nat.reduceBEq] at t1 t2 t3 t4 t5 s0 s1 s2 s3 s4 s5 s6 s7 s8 s9 s10 s11
      clear hT hH
      have HV := Lib.hid (show stepV y (datL d) (pc : Int) r = .tuple #[.agg (vmA ((pc : Int) + 1) { r with x := y.k }), .int .u32 0, .bool false] by unfold stepV endsL effL offL loadL; rw [hc]; rfl)
      have HSO := Lib.hid (show Rg.Ok { r with x := y.k } from HR.out.setX HK.out)
      have n2 := (cell_of_row _ _ 2 _ _ _ HT6.out.n).trans (vmA_2 _ _)
      have HF := Lib.hid (HT6.out.set (2) (.int .u32 (y.k : Nat)) (vmA_x ((pc : Int) + 1) r y.k))
      have HFB := Lib.hid (HB6.out.setCell (p := ⟨M, 2, none⟩) (by show w.heap.size ≤ M; omega) (.int .u32 (y.k : Nat)))
      go_wp2_with (first
        | (refine wpList_load_row rfl 50 (.tmp 15) rfl M rfl 50 (vmA ((pc : Int) + 1) { r with x := y.k }) (0, 0) _ HF.out.n Try.underlying50 rfl (HI.out _ _ HSO.out) ?_; go_simp)
        | (refine wpList_store_row rfl 50 (.tmp 6) (.tmp 161) rfl (w.heap.size + 1 + 1) (vmA ((pc : Int) + 1) { r with x := y.k }) rfl rfl 50 _ HF.out.rows.o (HI.out _ _ HSO.out) (by rw [vmA_size _ _ HSO.out]; rfl) (vmA_one _ _) ?_; go_simp))
      exact bodyPost_ret (results_cell3 rfl _ _ (w.heap.size + 1 + 1) 50 (vmA ((pc : Int) + 1) { r with x := y.k }) (0, 0) _ rfl (setRow_heap _ _ _ _ _ _ HF.out.rows.o) Try.underlying50 rfl (HI.out _ _ HSO.out)) rfl ⟨by rw [HV.out]; rfl, below_row HFB.out (by omega) _⟩
    · have hT : tailIx y.code = 4 := by rw [hc]; rfl
      have hH : headIx y.code = 1 := by rw [hc]; rfl
      obtain ⟨_, t1, t2, t3, t4, t5⟩ := HPT.out
      obtain ⟨s0, s1, s2, s3, s4, s5, s6, s7, s8, s9, s10, s11⟩ := HPH.out
      rw [show tailIx y.code = 4 from hT] at t1 t2 t3 t4 t5
      rw [show headIx y.code = 1 from hH] at s0 s1 s2 s3 s4 s5 s6 s7 s8 s9 s10 s11
      simp only [Nat.reduceBEq] at t1 t2 t3 t4 t5 s0 s1 s2 s3 s4 s5 s6 s7 s8 s9 s10 s11
      clear hT hH
      have HV := Lib.hid (show stepV y (datL d) (pc : Int) r = .tuple #[.agg (vmA ((pc : Int) + 1) { r with x := (r.mem.getD y.k 0) }), .int .u32 0, .bool false] by unfold stepV endsL effL offL loadL; rw [hc]; rfl)
      have HSO := Lib.hid (show Rg.Ok { r with x := (r.mem.getD y.k 0) } from HR.out.setX (getD_lt HR.out y.k))
      have hk16 : y.k < 16 := HMO.out.1 (.inr (by rw [hc])) (by rw [hc])
      have j1 : ((y.k : Nat) : Int) < 16 := by omega
      have j2 : (0 : Int) ≤ ((y.k : Nat) : Int) := by omega
      have mm := (cell_of_row _ _ (3 + y.k) _ _ _ HT6.out.rows.m).trans (vmA_m _ _ HR.out y.k hk16)
      have n2 := (cell_of_row _ _ 2 _ _ _ HT6.out.n).trans (vmA_2 _ _)
      have HF := Lib.hid (HT6.out.set (2) (.int .u32 ((r.mem.getD y.k 0) : Nat)) (vmA_x ((pc : Int) + 1) r (r.mem.getD y.k 0)))
      have HFB := Lib.hid (HB6.out.setCell (p := ⟨M, 2, none⟩) (by show w.heap.size ≤ M; omega) (.int .u32 ((r.mem.getD y.k 0) : Nat)))
      go_wp2_with (first
        | (refine wpList_load_row rfl 50 (.tmp 15) rfl M rfl 50 (vmA ((pc : Int) + 1) { r with x := (r.mem.getD y.k 0) }) (0, 0) _ HF.out.n Try.underlying50 rfl (HI.out _ _ HSO.out) ?_; go_simp)
        | (refine wpList_store_row rfl 50 (.tmp 6) (.tmp 161) rfl (w.heap.size + 1 + 1) (vmA ((pc : Int) + 1) { r with x := (r.mem.getD y.k 0) }) rfl rfl 50 _ HF.out.rows.o (HI.out _ _ HSO.out) (by rw [vmA_size _ _ HSO.out]; rfl) (vmA_one _ _) ?_; go_simp))
      exact bodyPost_ret (results_cell3 rfl _ _ (w.heap.size + 1 + 1) 50 (vmA ((pc : Int) + 1) { r with x := (r.mem.getD y.k 0) }) (0, 0) _ rfl (setRow_heap _ _ _ _ _ _ HF.out.rows.o) Try.underlying50 rfl (HI.out _ _ HSO.out)) rfl ⟨by rw [HV.out]; rfl, below_row HFB.out (by omega) _⟩
    · have hT : tailIx y.code = 2 := by rw [hc]; rfl
      have hH : headIx y.code = 1 := by rw [hc]; rfl
      obtain ⟨_, t1, t2, t3, t4, t5⟩ := HPT.out
      obtain ⟨s0, s1, s2, s3, s4, s5, s6, s7, s8, s9, s10, s11⟩ := HPH.out
      rw [show tailIx y.code = 2 from hT] at t1 t2 t3 t4 t5
      rw [show headIx y.code = 1 from hH] at s0 s1 s2 s3 s4 s5 s6 s7 s8 s9 s10 s11
      simp only [Nat.reduceBEq] at t1 t2 t3 t4 t5 s0 s1 s2 s3 s4 s5 s6 s7 s8 s9 s10 s11
      clear hT hH
      have HV := Lib.hid (show stepV y (datL d) (pc : Int) r = .tuple #[.agg (vmA ((pc : Int) + 1) { r with x := 64 }), .int .u32 0, .bool false] by unfold stepV endsL effL offL loadL; rw [hc]; rfl)
      have HSO := Lib.hid (show Rg.Ok { r with x := 64 } from HR.out.setX (by decide))
      have n2 := (cell_of_row _ _ 2 _ _ _ HT6.out.n).trans (vmA_2 _ _)
      have HF := Lib.hid (HT6.out.set (2) (.int .u32 (64 : Nat)) (vmA_x ((pc : Int) + 1) r 64))
      have HFB := Lib.hid (HB6.out.setCell (p := ⟨M, 2, none⟩) (by show w.heap.size ≤ M; omega) (.int .u32 (64 : Nat)))
      go_wp2_with (first
        | (refine wpList_load_row rfl 50 (.tmp 15) rfl M rfl 50 (vmA ((pc : Int) + 1) { r with x := 64 }) (0, 0) _ HF.out.n Try.underlying50 rfl (HI.out _ _ HSO.out) ?_; go_simp)
        | (refine wpList_store_row rfl 50 (.tmp 6) (.tmp 161) rfl (w.heap.size + 1 + 1) (vmA ((pc : Int) + 1) { r with x := 64 }) rfl rfl 50 _ HF.out.rows.o (HI.out _ _ HSO.out) (by rw [vmA_size _ _ HSO.out]; rfl) (vmA_one _ _) ?_; go_simp))
      exact bodyPost_ret (results_cell3 rfl _ _ (w.heap.size + 1 + 1) 50 (vmA ((pc : Int) + 1) { r with x := 64 }) (0, 0) _ rfl (setRow_heap _ _ _ _ _ _ HF.out.rows.o) Try.underlying50 rfl (HI.out _ _ HSO.out)) rfl ⟨by rw [HV.out]; rfl, below_row HFB.out (by omega) _⟩
  · have hc := HCF.out.2.2.1 hc8
    · have hT : tailIx y.code = 9 := by rw [hc]; rfl
      have hH : headIx y.code = 2 := by rw [hc]; rfl
      obtain ⟨_, t1, t2, t3, t4, t5⟩ := HPT.out
      obtain ⟨s0, s1, s2, s3, s4, s5, s6, s7, s8, s9, s10, s11⟩ := HPH.out
      rw [show tailIx y.code = 9 from hT] at t1 t2 t3 t4 t5
      rw [show headIx y.code = 2 from hH] at s0 s1 s2 s3 s4 s5 s6 s7 s8 s9 s10 s11
      simp only [Nat.reduceBEq] at t1 t2 t3 t4 t5 s0 s1 s2 s3 s4 s5 s6 s7 s8 s9 s10 s11
      clear hT hH
      have HV := Lib.hid (show stepV y (datL d) (pc : Int) r = .tuple #[.agg (vmA ((pc : Int) + 1) { r with mem := r.mem.set y.k r.a }), .int .u32 0, .bool false] by unfold stepV endsL effL offL; rw [hc]; rfl)
      have HSO := Lib.hid (show Rg.Ok { r with mem := r.mem.set y.k r.a } from HR.out.setM y.k HR.out.a)
      have hk16 : y.k < 16 := HMO.out.2 (by rw [hc]; decide)
      have j1 : ((y.k : Nat) : Int) < 16 := by omega
      have j2 : (0 : Int) ≤ ((y.k : Nat) : Int) := by omega
      have mm := (cell_of_row _ _ (3 + y.k) _ _ _ HT6.out.n).trans (vmA_m _ _ HR.out y.k hk16)
      have HF := Lib.hid (HT6.out.set (3 + y.k) (.int .u32 r.a) (vmA_mem ((pc : Int) + 1) r y.k r.a))
      have HFB := Lib.hid (HB6.out.setCell (p := ⟨M, 3 + y.k, none⟩) (by show w.heap.size ≤ M; omega) (.int .u32 r.a))
      go_wp2_with (first
        | (refine wpList_load_row rfl 50 (.tmp 15) rfl M rfl 50 (vmA ((pc : Int) + 1) { r with mem := r.mem.set y.k r.a }) (0, 0) _ HF.out.n Try.underlying50 rfl (HI.out _ _ HSO.out) ?_; go_simp)
        | (refine wpList_store_row rfl 50 (.tmp 6) (.tmp 161) rfl (w.heap.size + 1 + 1) (vmA ((pc : Int) + 1) { r with mem := r.mem.set y.k r.a }) rfl rfl 50 _ HF.out.rows.o (HI.out _ _ HSO.out) (by rw [vmA_size _ _ HSO.out]; rfl) (vmA_one _ _) ?_; go_simp))
      exact bodyPost_ret (results_cell3 rfl _ _ (w.heap.size + 1 + 1) 50 (vmA ((pc : Int) + 1) { r with mem := r.mem.set y.k r.a }) (0, 0) _ rfl (setRow_heap _ _ _ _ _ _ HF.out.rows.o) Try.underlying50 rfl (HI.out _ _ HSO.out)) rfl ⟨by rw [HV.out]; rfl, below_row HFB.out (by omega) _⟩
  · have hc := HCF.out.2.2.2.1 hc8
    · have hT : tailIx y.code = 9 := by rw [hc]; rfl
      have hH : headIx y.code = 3 := by rw [hc]; rfl
      obtain ⟨_, t1, t2, t3, t4, t5⟩ := HPT.out
      obtain ⟨s0, s1, s2, s3, s4, s5, s6, s7, s8, s9, s10, s11⟩ := HPH.out
      rw [show tailIx y.code = 9 from hT] at t1 t2 t3 t4 t5
      rw [show headIx y.code = 3 from hH] at s0 s1 s2 s3 s4 s5 s6 s7 s8 s9 s10 s11
      simp only [Nat.reduceBEq] at t1 t2 t3 t4 t5 s0 s1 s2 s3 s4 s5 s6 s7 s8 s9 s10 s11
      clear hT hH
      have HV := Lib.hid (show stepV y (datL d) (pc : Int) r = .tuple #[.agg (vmA ((pc : Int) + 1) { r with mem := r.mem.set y.k r.x }), .int .u32 0, .bool false] by unfold stepV endsL effL offL; rw [hc]; rfl)
      have HSO := Lib.hid (show Rg.Ok { r with mem := r.mem.set y.k r.x } from HR.out.setM y.k HR.out.x)
      have hk16 : y.k < 16 := HMO.out.2 (by rw [hc]; decide)
      have j1 : ((y.k : Nat) : Int) < 16 := by omega
      have j2 : (0 : Int) ≤ ((y.k : Nat) : Int) := by omega
      have mm := (cell_of_row _ _ (3 + y.k) _ _ _ HT6.out.n).trans (vmA_m _ _ HR.out y.k hk16)
      have HF := Lib.hid (HT6.out.set (3 + y.k) (.int .u32 r.x) (vmA_mem ((pc : Int) + 1) r y.k r.x))
      have HFB := Lib.hid (HB6.out.setCell (p := ⟨M, 3 + y.k, none⟩) (by show w.heap.size ≤ M; omega) (.int .u32 r.x))
      go_wp2_with (first
        | (refine wpList_load_row rfl 50 (.tmp 15) rfl M rfl 50 (vmA ((pc : Int) + 1) { r with mem := r.mem.set y.k r.x }) (0, 0) _ HF.out.n Try.underlying50 rfl (HI.out _ _ HSO.out) ?_; go_simp)
        | (refine wpList_store_row rfl 50 (.tmp 6) (.tmp 161) rfl (w.heap.size + 1 + 1) (vmA ((pc : Int) + 1) { r with mem := r.mem.set y.k r.x }) rfl rfl 50 _ HF.out.rows.o (HI.out _ _ HSO.out) (by rw [vmA_size _ _ HSO.out]; rfl) (vmA_one _ _) ?_; go_simp))
      exact bodyPost_ret (results_cell3 rfl _ _ (w.heap.size + 1 + 1) 50 (vmA ((pc : Int) + 1) { r with mem := r.mem.set y.k r.x }) (0, 0) _ rfl (setRow_heap _ _ _ _ _ _ HF.out.rows.o) Try.underlying50 rfl (HI.out _ _ HSO.out)) rfl ⟨by rw [HV.out]; rfl, below_row HFB.out (by omega) _⟩
  · have hc := hc8
    obtain ⟨hSRC, hTX⟩ := HSRC.out (.inl hc8)
    · have hT : tailIx y.code = 9 := hTX
      have hH : headIx y.code = 20 := by unfold headIx; rw [hc]; rfl
      obtain ⟨_, t1, t2, t3, t4, t5⟩ := HPT.out
      obtain ⟨s0, s1, s2, s3, s4, s5, s6, s7, s8, s9, s10, s11⟩ := HPH.out
      rw [show tailIx y.code = 9 from hT] at t1 t2 t3 t4 t5
      rw [show headIx y.code = 20 from hH] at s0 s1 s2 s3 s4 s5 s6 s7 s8 s9 s10 s11
      simp only [Nat.reduceBEq] at t1 t2 t3 t4 t5 s0 s1 s2 s3 s4 s5 s6 s7 s8 s9 s10 s11
      clear hT hH
      have HO := Lib.hid (show otherL y r = y.k by unfold otherL; rw [hSRC]; rfl)
      have HA := Lib.hid (fun W => ralu_any y.code r.a (y.k) HY.out.code HR.out.a (HK.out) W)
      cases hh : (aluL (y.code / 16 % 16) r.a (y.k)).2
      · have HV := Lib.hid (show stepV y (datL d) (pc : Int) r = .tuple #[.agg (vmA (pc : Int) r), .int .u32 0, .bool true] by unfold stepV endsL; rw [HO.out, hh, hc]; rfl)
        have HHH := Lib.hid hh
        clear hh
        go_wp2_with (first
          | (go_at_call 31; refine (HA.out _).mono ?_; rw [HHH.out]; rintro e w7 ⟨rfl, rfl⟩)
          | (refine wpList_load_row rfl 50 (.tmp 5) rfl (w.heap.size + 1) rfl 50 (vmA (pc : Int) r) (0, 0) _ HT6.out.rows.m Try.underlying50 rfl (HI.out _ _ HR.out) ?_; go_simp)
          | (refine wpList_store_row rfl 50 (.tmp 6) (.tmp 80) rfl (w.heap.size + 1 + 1) (vmA (pc : Int) r) rfl rfl 50 _ HT6.out.rows.o (HI.out _ _ HR.out) (by rw [vmA_size _ _ HR.out]; rfl) (vmA_one _ _) ?_; go_simp))
        exact bodyPost_ret (results_cell3 rfl _ _ (w.heap.size + 1 + 1) 50 (vmA (pc : Int) r) (0, 0) _ rfl (setRow_heap _ _ _ _ _ _ HT6.out.rows.o) Try.underlying50 rfl (HI.out _ _ HR.out)) rfl ⟨by rw [HV.out]; rfl, below_row HB6.out (by omega) _⟩
      · have HV := Lib.hid (show stepV y (datL d) (pc : Int) r = .tuple #[.agg (vmA ((pc : Int) + 1) { r with a := (aluL (y.code / 16 % 16) r.a (y.k)).1 }), .int .u32 0, .bool false] by unfold stepV endsL effL offL; rw [HO.out, hh, hc]; rfl)
        have HSO := Lib.hid (show Rg.Ok { r with a := (aluL (y.code / 16 % 16) r.a (y.k)).1 } from HR.out.setA (aluL_lt HR.out.a (HK.out)))
        have HHH := Lib.hid hh
        clear hh
        have n1 := (cell_of_row _ _ 1 _ _ _ HT6.out.n).trans (vmA_1 _ _)
        have HF := Lib.hid (HT6.out.set (1) (.int .u32 ((aluL (y.code / 16 % 16) r.a (y.k)).1 : Nat)) (vmA_a ((pc : Int) + 1) r (aluL (y.code / 16 % 16) r.a (y.k)).1))
        have HFB := Lib.hid (HB6.out.setCell (p := ⟨M, 1, none⟩) (by show w.heap.size ≤ M; omega) (.int .u32 ((aluL (y.code / 16 % 16) r.a (y.k)).1 : Nat)))
        go_wp2_with (first
          | (go_at_call 31; refine (HA.out _).mono ?_; rw [HHH.out]; rintro e w7 ⟨rfl, rfl⟩)
          | (refine wpList_load_row rfl 50 (.tmp 15) rfl M rfl 50 (vmA ((pc : Int) + 1) { r with a := (aluL (y.code / 16 % 16) r.a (y.k)).1 }) (0, 0) _ HF.out.n Try.underlying50 rfl (HI.out _ _ HSO.out) ?_; go_simp)
          | (refine wpList_store_row rfl 50 (.tmp 6) (.tmp 161) rfl (w.heap.size + 1 + 1) (vmA ((pc : Int) + 1) { r with a := (aluL (y.code / 16 % 16) r.a (y.k)).1 }) rfl rfl 50 _ HF.out.rows.o (HI.out _ _ HSO.out) (by rw [vmA_size _ _ HSO.out]; rfl) (vmA_one _ _) ?_; go_simp))
        exact bodyPost_ret (results_cell3 rfl _ _ (w.heap.size + 1 + 1) 50 (vmA ((pc : Int) + 1) { r with a := (aluL (y.code / 16 % 16) r.a (y.k)).1 }) (0, 0) _ rfl (setRow_heap _ _ _ _ _ _ HF.out.rows.o) Try.underlying50 rfl (HI.out _ _ HSO.out)) rfl ⟨by rw [HV.out]; rfl, below_row HFB.out (by omega) _⟩
  · have hc := hc8
    obtain ⟨hSRC, hTX⟩ := HSRC.out (.inr hc8)
    rcases (show y.code / 16 % 16 = 0 ∨ y.code / 16 % 16 = 1 ∨ y.code / 16 % 16 = 2 ∨ y.code / 16 % 16 = 3 ∨ y.code / 16 % 16 = 4 by have := HCF.out.2.2.2.2.2.1 hc8; omega) with hi | hi | hi | hi | hi
    · have hc : y.code = 5 := HJA.out hc8 hi
      · have hT : tailIx y.code = 9 := by rw [hc]; rfl
        have hH : headIx y.code = 6 := by rw [hc]; rfl
        obtain ⟨_, t1, t2, t3, t4, t5⟩ := HPT.out
        obtain ⟨s0, s1, s2, s3, s4, s5, s6, s7, s8, s9, s10, s11⟩ := HPH.out
        rw [show tailIx y.code = 9 from hT] at t1 t2 t3 t4 t5
        rw [show headIx y.code = 6 from hH] at s0 s1 s2 s3 s4 s5 s6 s7 s8 s9 s10 s11
        simp only [Nat.reduceBEq] at t1 t2 t3 t4 t5 s0 s1 s2 s3 s4 s5 s6 s7 s8 s9 s10 s11
        clear hT hH
        have hk4 := HK.out
        have j2 : (0 : Int) ≤ ((y.k : Nat) : Int) := by omega
        have j3 : ((y.k : Nat) : Int) ≤ 4294967295 := by omega
        have j4 : ((pc : Nat) : Int) ≤ 64 := by omega
        have HV := Lib.hid (show stepV y (datL d) (pc : Int) r = .tuple #[.agg (vmA ((pc : Int) + 1 + (y.k : Int)) r), .int .u32 0, .bool false] by unfold stepV endsL effL offL; rw [hc]; rfl)
        have HSO := Lib.hid (show Rg.Ok r from HR.out)
        have HF := Lib.hid (HT6.out.set (0) (.int .i64 ((pc : Int) + 1 + (y.k : Int))) (vmA_pc ((pc : Int) + 1) ((pc : Int) + 1 + (y.k : Int)) r))
        have HFB := Lib.hid (HB6.out.setCell (p := ⟨M, 0, none⟩) (by show w.heap.size ≤ M; omega) (.int .i64 ((pc : Int) + 1 + (y.k : Int))))
        go_wp2_with (first
          | (refine wpList_load_row rfl 50 (.tmp 15) rfl M rfl 50 (vmA ((pc : Int) + 1 + (y.k : Int)) r) (0, 0) _ HF.out.n Try.underlying50 rfl (HI.out _ _ HSO.out) ?_; go_simp)
          | (refine wpList_store_row rfl 50 (.tmp 6) (.tmp 161) rfl (w.heap.size + 1 + 1) (vmA ((pc : Int) + 1 + (y.k : Int)) r) rfl rfl 50 _ HF.out.rows.o (HI.out _ _ HSO.out) (by rw [vmA_size _ _ HSO.out]; rfl) (vmA_one _ _) ?_; go_simp))
        exact bodyPost_ret (results_cell3 rfl _ _ (w.heap.size + 1 + 1) 50 (vmA ((pc : Int) + 1 + (y.k : Int)) r) (0, 0) _ rfl (setRow_heap _ _ _ _ _ _ HF.out.rows.o) Try.underlying50 rfl (HI.out _ _ HSO.out)) rfl ⟨by rw [HV.out]; rfl, below_row HFB.out (by omega) _⟩
    · have hT : tailIx y.code = 9 := hTX
      have hH : headIx y.code = 7 := by unfold headIx; rw [hc, hi]; rfl
      obtain ⟨_, t1, t2, t3, t4, t5⟩ := HPT.out
      obtain ⟨s0, s1, s2, s3, s4, s5, s6, s7, s8, s9, s10, s11⟩ := HPH.out
      rw [show tailIx y.code = 9 from hT] at t1 t2 t3 t4 t5
      rw [show headIx y.code = 7 from hH] at s0 s1 s2 s3 s4 s5 s6 s7 s8 s9 s10 s11
      simp only [Nat.reduceBEq] at t1 t2 t3 t4 t5 s0 s1 s2 s3 s4 s5 s6 s7 s8 s9 s10 s11
      clear hT hH
      have HO := Lib.hid (show otherL y r = y.k by unfold otherL; rw [hSRC]; rfl)
      have HH := Lib.hid (fun W => rholds_any y.code r.a (y.k) HY.out.code HR.out.a (HK.out) W)
      have hjt := HY.out.jt
      have hjf := HY.out.jf
      have j1 : (0 : Int) ≤ (y.jt : Int) := by omega
      have j2 : (y.jt : Int) ≤ 255 := by omega
      have j3 : (0 : Int) ≤ (y.jf : Int) := by omega
      have j4 : (y.jf : Int) ≤ 255 := by omega
      have j5 : ((pc : Nat) : Int) ≤ 64 := by omega
      clear hjt hjf
      cases hh : holdsL (y.code / 16 % 16) r.a (y.k)
      · have HV := Lib.hid (show stepV y (datL d) (pc : Int) r = .tuple #[.agg (vmA ((pc : Int) + 1 + (y.jf : Int)) r), .int .u32 0, .bool false] by unfold stepV endsL effL offL; rw [HO.out, hh, hc, hi]; rfl)
        have HSO := Lib.hid (show Rg.Ok r from HR.out)
        have HHH := Lib.hid hh
        clear hh
        have HF := Lib.hid (HT6.out.set (0) (.int .i64 ((pc : Int) + 1 + (y.jf : Int))) (vmA_pc ((pc : Int) + 1) ((pc : Int) + 1 + (y.jf : Int)) r))
        have HFB := Lib.hid (HB6.out.setCell (p := ⟨M, 0, none⟩) (by show w.heap.size ≤ M; omega) (.int .i64 ((pc : Int) + 1 + (y.jf : Int))))
        go_wp2_with (first
          | (go_at_call 33; refine (HH.out _).mono ?_; rw [HHH.out]; rintro e w7 ⟨rfl, rfl⟩)
          | (refine wpList_load_row rfl 50 (.tmp 15) rfl M rfl 50 (vmA ((pc : Int) + 1 + (y.jf : Int)) r) (0, 0) _ HF.out.n Try.underlying50 rfl (HI.out _ _ HSO.out) ?_; go_simp)
          | (refine wpList_store_row rfl 50 (.tmp 6) (.tmp 161) rfl (w.heap.size + 1 + 1) (vmA ((pc : Int) + 1 + (y.jf : Int)) r) rfl rfl 50 _ HF.out.rows.o (HI.out _ _ HSO.out) (by rw [vmA_size _ _ HSO.out]; rfl) (vmA_one _ _) ?_; go_simp))
        exact bodyPost_ret (results_cell3 rfl _ _ (w.heap.size + 1 + 1) 50 (vmA ((pc : Int) + 1 + (y.jf : Int)) r) (0, 0) _ rfl (setRow_heap _ _ _ _ _ _ HF.out.rows.o) Try.underlying50 rfl (HI.out _ _ HSO.out)) rfl ⟨by rw [HV.out]; rfl, below_row HFB.out (by omega) _⟩
      · have HV := Lib.hid (show stepV y (datL d) (pc : Int) r = .tuple #[.agg (vmA ((pc : Int) + 1 + (y.jt : Int)) r), .int .u32 0, .bool false] by unfold stepV endsL effL offL; rw [HO.out, hh, hc, hi]; rfl)
        have HSO := Lib.hid (show Rg.Ok r from HR.out)
        have HHH := Lib.hid hh
        clear hh
        have HF := Lib.hid (HT6.out.set (0) (.int .i64 ((pc : Int) + 1 + (y.jt : Int))) (vmA_pc ((pc : Int) + 1) ((pc : Int) + 1 + (y.jt : Int)) r))
        have HFB := Lib.hid (HB6.out.setCell (p := ⟨M, 0, none⟩) (by show w.heap.size ≤ M; omega) (.int .i64 ((pc : Int) + 1 + (y.jt : Int))))
        go_wp2_with (first
          | (go_at_call 33; refine (HH.out _).mono ?_; rw [HHH.out]; rintro e w7 ⟨rfl, rfl⟩)
          | (refine wpList_load_row rfl 50 (.tmp 15) rfl M rfl 50 (vmA ((pc : Int) + 1 + (y.jt : Int)) r) (0, 0) _ HF.out.n Try.underlying50 rfl (HI.out _ _ HSO.out) ?_; go_simp)
          | (refine wpList_store_row rfl 50 (.tmp 6) (.tmp 161) rfl (w.heap.size + 1 + 1) (vmA ((pc : Int) + 1 + (y.jt : Int)) r) rfl rfl 50 _ HF.out.rows.o (HI.out _ _ HSO.out) (by rw [vmA_size _ _ HSO.out]; rfl) (vmA_one _ _) ?_; go_simp))
        exact bodyPost_ret (results_cell3 rfl _ _ (w.heap.size + 1 + 1) 50 (vmA ((pc : Int) + 1 + (y.jt : Int)) r) (0, 0) _ rfl (setRow_heap _ _ _ _ _ _ HF.out.rows.o) Try.underlying50 rfl (HI.out _ _ HSO.out)) rfl ⟨by rw [HV.out]; rfl, below_row HFB.out (by omega) _⟩
    · have hT : tailIx y.code = 9 := hTX
      have hH : headIx y.code = 8 := by unfold headIx; rw [hc, hi]; rfl
      obtain ⟨_, t1, t2, t3, t4, t5⟩ := HPT.out
      obtain ⟨s0, s1, s2, s3, s4, s5, s6, s7, s8, s9, s10, s11⟩ := HPH.out
      rw [show tailIx y.code = 9 from hT] at t1 t2 t3 t4 t5
      rw [show headIx y.code = 8 from hH] at s0 s1 s2 s3 s4 s5 s6 s7 s8 s9 s10 s11
      simp only [Nat.reduceBEq] at t1 t2 t3 t4 t5 s0 s1 s2 s3 s4 s5 s6 s7 s8 s9 s10 s11
      clear hT hH
      have HO := Lib.hid (show otherL y r = y.k by unfold otherL; rw [hSRC]; rfl)
      have HH := Lib.hid (fun W => rholds_any y.code r.a (y.k) HY.out.code HR.out.a (HK.out) W)
      have hjt := HY.out.jt
      have hjf := HY.out.jf
      have j1 : (0 : Int) ≤ (y.jt : Int) := by omega
      have j2 : (y.jt : Int) ≤ 255 := by omega
      have j3 : (0 : Int) ≤ (y.jf : Int) := by omega
      have j4 : (y.jf : Int) ≤ 255 := by omega
      have j5 : ((pc : Nat) : Int) ≤ 64 := by omega
      clear hjt hjf
      cases hh : holdsL (y.code / 16 % 16) r.a (y.k)
      · have HV := Lib.hid (show stepV y (datL d) (pc : Int) r = .tuple #[.agg (vmA ((pc : Int) + 1 + (y.jf : Int)) r), .int .u32 0, .bool false] by unfold stepV endsL effL offL; rw [HO.out, hh, hc, hi]; rfl)
        have HSO := Lib.hid (show Rg.Ok r from HR.out)
        have HHH := Lib.hid hh
        clear hh
        have HF := Lib.hid (HT6.out.set (0) (.int .i64 ((pc : Int) + 1 + (y.jf : Int))) (vmA_pc ((pc : Int) + 1) ((pc : Int) + 1 + (y.jf : Int)) r))
        have HFB := Lib.hid (HB6.out.setCell (p := ⟨M, 0, none⟩) (by show w.heap.size ≤ M; omega) (.int .i64 ((pc : Int) + 1 + (y.jf : Int))))
        go_wp2_with (first
          | (go_at_call 33; refine (HH.out _).mono ?_; rw [HHH.out]; rintro e w7 ⟨rfl, rfl⟩)
          | (refine wpList_load_row rfl 50 (.tmp 15) rfl M rfl 50 (vmA ((pc : Int) + 1 + (y.jf : Int)) r) (0, 0) _ HF.out.n Try.underlying50 rfl (HI.out _ _ HSO.out) ?_; go_simp)
          | (refine wpList_store_row rfl 50 (.tmp 6) (.tmp 161) rfl (w.heap.size + 1 + 1) (vmA ((pc : Int) + 1 + (y.jf : Int)) r) rfl rfl 50 _ HF.out.rows.o (HI.out _ _ HSO.out) (by rw [vmA_size _ _ HSO.out]; rfl) (vmA_one _ _) ?_; go_simp))
        exact bodyPost_ret (results_cell3 rfl _ _ (w.heap.size + 1 + 1) 50 (vmA ((pc : Int) + 1 + (y.jf : Int)) r) (0, 0) _ rfl (setRow_heap _ _ _ _ _ _ HF.out.rows.o) Try.underlying50 rfl (HI.out _ _ HSO.out)) rfl ⟨by rw [HV.out]; rfl, below_row HFB.out (by omega) _⟩
      · have HV := Lib.hid (show stepV y (datL d) (pc : Int) r = .tuple #[.agg (vmA ((pc : Int) + 1 + (y.jt : Int)) r), .int .u32 0, .bool false] by unfold stepV endsL effL offL; rw [HO.out, hh, hc, hi]; rfl)
        have HSO := Lib.hid (show Rg.Ok r from HR.out)
        have HHH := Lib.hid hh
        clear hh
        have HF := Lib.hid (HT6.out.set (0) (.int .i64 ((pc : Int) + 1 + (y.jt : Int))) (vmA_pc ((pc : Int) + 1) ((pc : Int) + 1 + (y.jt : Int)) r))
        have HFB := Lib.hid (HB6.out.setCell (p := ⟨M, 0, none⟩) (by show w.heap.size ≤ M; omega) (.int .i64 ((pc : Int) + 1 + (y.jt : Int))))
        go_wp2_with (first
          | (go_at_call 33; refine (HH.out _).mono ?_; rw [HHH.out]; rintro e w7 ⟨rfl, rfl⟩)
          | (refine wpList_load_row rfl 50 (.tmp 15) rfl M rfl 50 (vmA ((pc : Int) + 1 + (y.jt : Int)) r) (0, 0) _ HF.out.n Try.underlying50 rfl (HI.out _ _ HSO.out) ?_; go_simp)
          | (refine wpList_store_row rfl 50 (.tmp 6) (.tmp 161) rfl (w.heap.size + 1 + 1) (vmA ((pc : Int) + 1 + (y.jt : Int)) r) rfl rfl 50 _ HF.out.rows.o (HI.out _ _ HSO.out) (by rw [vmA_size _ _ HSO.out]; rfl) (vmA_one _ _) ?_; go_simp))
        exact bodyPost_ret (results_cell3 rfl _ _ (w.heap.size + 1 + 1) 50 (vmA ((pc : Int) + 1 + (y.jt : Int)) r) (0, 0) _ rfl (setRow_heap _ _ _ _ _ _ HF.out.rows.o) Try.underlying50 rfl (HI.out _ _ HSO.out)) rfl ⟨by rw [HV.out]; rfl, below_row HFB.out (by omega) _⟩
    · have hT : tailIx y.code = 9 := hTX
      have hH : headIx y.code = 9 := by unfold headIx; rw [hc, hi]; rfl
      obtain ⟨_, t1, t2, t3, t4, t5⟩ := HPT.out
      obtain ⟨s0, s1, s2, s3, s4, s5, s6, s7, s8, s9, s10, s11⟩ := HPH.out
      rw [show tailIx y.code = 9 from hT] at t1 t2 t3 t4 t5
      rw [show headIx y.code = 9 from hH] at s0 s1 s2 s3 s4 s5 s6 s7 s8 s9 s10 s11
      simp only [Nat.reduceBEq] at t1 t2 t3 t4 t5 s0 s1 s2 s3 s4 s5 s6 s7 s8 s9 s10 s11
      clear hT hH
      have HO := Lib.hid (show otherL y r = y.k by unfold otherL; rw [hSRC]; rfl)
      have HH := Lib.hid (fun W => rholds_any y.code r.a (y.k) HY.out.code HR.out.a (HK.out) W)
      have hjt := HY.out.jt
      have hjf := HY.out.jf
      have j1 : (0 : Int) ≤ (y.jt : Int) := by omega
      have j2 : (y.jt : Int) ≤ 255 := by omega
      have j3 : (0 : Int) ≤ (y.jf : Int) := by omega
      have j4 : (y.jf : Int) ≤ 255 := by omega
      have j5 : ((pc : Nat) : Int) ≤ 64 := by omega
      clear hjt hjf
      cases hh : holdsL (y.code / 16 % 16) r.a (y.k)
      · have HV := Lib.hid (show stepV y (datL d) (pc : Int) r = .tuple #[.agg (vmA ((pc : Int) + 1 + (y.jf : Int)) r), .int .u32 0, .bool false] by unfold stepV endsL effL offL; rw [HO.out, hh, hc, hi]; rfl)
        have HSO := Lib.hid (show Rg.Ok r from HR.out)
        have HHH := Lib.hid hh
        clear hh
        have HF := Lib.hid (HT6.out.set (0) (.int .i64 ((pc : Int) + 1 + (y.jf : Int))) (vmA_pc ((pc : Int) + 1) ((pc : Int) + 1 + (y.jf : Int)) r))
        have HFB := Lib.hid (HB6.out.setCell (p := ⟨M, 0, none⟩) (by show w.heap.size ≤ M; omega) (.int .i64 ((pc : Int) + 1 + (y.jf : Int))))
        go_wp2_with (first
          | (go_at_call 33; refine (HH.out _).mono ?_; rw [HHH.out]; rintro e w7 ⟨rfl, rfl⟩)
          | (refine wpList_load_row rfl 50 (.tmp 15) rfl M rfl 50 (vmA ((pc : Int) + 1 + (y.jf : Int)) r) (0, 0) _ HF.out.n Try.underlying50 rfl (HI.out _ _ HSO.out) ?_; go_simp)
          | (refine wpList_store_row rfl 50 (.tmp 6) (.tmp 161) rfl (w.heap.size + 1 + 1) (vmA ((pc : Int) + 1 + (y.jf : Int)) r) rfl rfl 50 _ HF.out.rows.o (HI.out _ _ HSO.out) (by rw [vmA_size _ _ HSO.out]; rfl) (vmA_one _ _) ?_; go_simp))
        exact bodyPost_ret (results_cell3 rfl _ _ (w.heap.size + 1 + 1) 50 (vmA ((pc : Int) + 1 + (y.jf : Int)) r) (0, 0) _ rfl (setRow_heap _ _ _ _ _ _ HF.out.rows.o) Try.underlying50 rfl (HI.out _ _ HSO.out)) rfl ⟨by rw [HV.out]; rfl, below_row HFB.out (by omega) _⟩
      · have HV := Lib.hid (show stepV y (datL d) (pc : Int) r = .tuple #[.agg (vmA ((pc : Int) + 1 + (y.jt : Int)) r), .int .u32 0, .bool false] by unfold stepV endsL effL offL; rw [HO.out, hh, hc, hi]; rfl)
        have HSO := Lib.hid (show Rg.Ok r from HR.out)
        have HHH := Lib.hid hh
        clear hh
        have HF := Lib.hid (HT6.out.set (0) (.int .i64 ((pc : Int) + 1 + (y.jt : Int))) (vmA_pc ((pc : Int) + 1) ((pc : Int) + 1 + (y.jt : Int)) r))
        have HFB := Lib.hid (HB6.out.setCell (p := ⟨M, 0, none⟩) (by show w.heap.size ≤ M; omega) (.int .i64 ((pc : Int) + 1 + (y.jt : Int))))
        go_wp2_with (first
          | (go_at_call 33; refine (HH.out _).mono ?_; rw [HHH.out]; rintro e w7 ⟨rfl, rfl⟩)
          | (refine wpList_load_row rfl 50 (.tmp 15) rfl M rfl 50 (vmA ((pc : Int) + 1 + (y.jt : Int)) r) (0, 0) _ HF.out.n Try.underlying50 rfl (HI.out _ _ HSO.out) ?_; go_simp)
          | (refine wpList_store_row rfl 50 (.tmp 6) (.tmp 161) rfl (w.heap.size + 1 + 1) (vmA ((pc : Int) + 1 + (y.jt : Int)) r) rfl rfl 50 _ HF.out.rows.o (HI.out _ _ HSO.out) (by rw [vmA_size _ _ HSO.out]; rfl) (vmA_one _ _) ?_; go_simp))
        exact bodyPost_ret (results_cell3 rfl _ _ (w.heap.size + 1 + 1) 50 (vmA ((pc : Int) + 1 + (y.jt : Int)) r) (0, 0) _ rfl (setRow_heap _ _ _ _ _ _ HF.out.rows.o) Try.underlying50 rfl (HI.out _ _ HSO.out)) rfl ⟨by rw [HV.out]; rfl, below_row HFB.out (by omega) _⟩
    · have hT : tailIx y.code = 9 := hTX
      have hH : headIx y.code = 10 := by unfold headIx; rw [hc, hi]; rfl
      obtain ⟨_, t1, t2, t3, t4, t5⟩ := HPT.out
      obtain ⟨s0, s1, s2, s3, s4, s5, s6, s7, s8, s9, s10, s11⟩ := HPH.out
      rw [show tailIx y.code = 9 from hT] at t1 t2 t3 t4 t5
      rw [show headIx y.code = 10 from hH] at s0 s1 s2 s3 s4 s5 s6 s7 s8 s9 s10 s11
      simp only [Nat.reduceBEq] at t1 t2 t3 t4 t5 s0 s1 s2 s3 s4 s5 s6 s7 s8 s9 s10 s11
      clear hT hH
      have HO := Lib.hid (show otherL y r = y.k by unfold otherL; rw [hSRC]; rfl)
      have HH := Lib.hid (fun W => rholds_any y.code r.a (y.k) HY.out.code HR.out.a (HK.out) W)
      have hjt := HY.out.jt
      have hjf := HY.out.jf
      have j1 : (0 : Int) ≤ (y.jt : Int) := by omega
      have j2 : (y.jt : Int) ≤ 255 := by omega
      have j3 : (0 : Int) ≤ (y.jf : Int) := by omega
      have j4 : (y.jf : Int) ≤ 255 := by omega
      have j5 : ((pc : Nat) : Int) ≤ 64 := by omega
      clear hjt hjf
      cases hh : holdsL (y.code / 16 % 16) r.a (y.k)
      · have HV := Lib.hid (show stepV y (datL d) (pc : Int) r = .tuple #[.agg (vmA ((pc : Int) + 1 + (y.jf : Int)) r), .int .u32 0, .bool false] by unfold stepV endsL effL offL; rw [HO.out, hh, hc, hi]; rfl)
        have HSO := Lib.hid (show Rg.Ok r from HR.out)
        have HHH := Lib.hid hh
        clear hh
        have HF := Lib.hid (HT6.out.set (0) (.int .i64 ((pc : Int) + 1 + (y.jf : Int))) (vmA_pc ((pc : Int) + 1) ((pc : Int) + 1 + (y.jf : Int)) r))
        have HFB := Lib.hid (HB6.out.setCell (p := ⟨M, 0, none⟩) (by show w.heap.size ≤ M; omega) (.int .i64 ((pc : Int) + 1 + (y.jf : Int))))
        go_wp2_with (first
          | (go_at_call 33; refine (HH.out _).mono ?_; rw [HHH.out]; rintro e w7 ⟨rfl, rfl⟩)
          | (refine wpList_load_row rfl 50 (.tmp 15) rfl M rfl 50 (vmA ((pc : Int) + 1 + (y.jf : Int)) r) (0, 0) _ HF.out.n Try.underlying50 rfl (HI.out _ _ HSO.out) ?_; go_simp)
          | (refine wpList_store_row rfl 50 (.tmp 6) (.tmp 161) rfl (w.heap.size + 1 + 1) (vmA ((pc : Int) + 1 + (y.jf : Int)) r) rfl rfl 50 _ HF.out.rows.o (HI.out _ _ HSO.out) (by rw [vmA_size _ _ HSO.out]; rfl) (vmA_one _ _) ?_; go_simp))
        exact bodyPost_ret (results_cell3 rfl _ _ (w.heap.size + 1 + 1) 50 (vmA ((pc : Int) + 1 + (y.jf : Int)) r) (0, 0) _ rfl (setRow_heap _ _ _ _ _ _ HF.out.rows.o) Try.underlying50 rfl (HI.out _ _ HSO.out)) rfl ⟨by rw [HV.out]; rfl, below_row HFB.out (by omega) _⟩
      · have HV := Lib.hid (show stepV y (datL d) (pc : Int) r = .tuple #[.agg (vmA ((pc : Int) + 1 + (y.jt : Int)) r), .int .u32 0, .bool false] by unfold stepV endsL effL offL; rw [HO.out, hh, hc, hi]; rfl)
        have HSO := Lib.hid (show Rg.Ok r from HR.out)
        have HHH := Lib.hid hh
        clear hh
        have HF := Lib.hid (HT6.out.set (0) (.int .i64 ((pc : Int) + 1 + (y.jt : Int))) (vmA_pc ((pc : Int) + 1) ((pc : Int) + 1 + (y.jt : Int)) r))
        have HFB := Lib.hid (HB6.out.setCell (p := ⟨M, 0, none⟩) (by show w.heap.size ≤ M; omega) (.int .i64 ((pc : Int) + 1 + (y.jt : Int))))
        go_wp2_with (first
          | (go_at_call 33; refine (HH.out _).mono ?_; rw [HHH.out]; rintro e w7 ⟨rfl, rfl⟩)
          | (refine wpList_load_row rfl 50 (.tmp 15) rfl M rfl 50 (vmA ((pc : Int) + 1 + (y.jt : Int)) r) (0, 0) _ HF.out.n Try.underlying50 rfl (HI.out _ _ HSO.out) ?_; go_simp)
          | (refine wpList_store_row rfl 50 (.tmp 6) (.tmp 161) rfl (w.heap.size + 1 + 1) (vmA ((pc : Int) + 1 + (y.jt : Int)) r) rfl rfl 50 _ HF.out.rows.o (HI.out _ _ HSO.out) (by rw [vmA_size _ _ HSO.out]; rfl) (vmA_one _ _) ?_; go_simp))
        exact bodyPost_ret (results_cell3 rfl _ _ (w.heap.size + 1 + 1) 50 (vmA ((pc : Int) + 1 + (y.jt : Int)) r) (0, 0) _ rfl (setRow_heap _ _ _ _ _ _ HF.out.rows.o) Try.underlying50 rfl (HI.out _ _ HSO.out)) rfl ⟨by rw [HV.out]; rfl, below_row HFB.out (by omega) _⟩
  · rcases HCF.out.2.2.2.2.2.2.1 hc8 with hc | hc
    · have hT : tailIx y.code = 9 := by rw [hc]; rfl
      have hH : headIx y.code = 11 := by rw [hc]; rfl
      obtain ⟨_, t1, t2, t3, t4, t5⟩ := HPT.out
      obtain ⟨s0, s1, s2, s3, s4, s5, s6, s7, s8, s9, s10, s11⟩ := HPH.out
      rw [show tailIx y.code = 9 from hT] at t1 t2 t3 t4 t5
      rw [show headIx y.code = 11 from hH] at s0 s1 s2 s3 s4 s5 s6 s7 s8 s9 s10 s11
      simp only [Nat.reduceBEq] at t1 t2 t3 t4 t5 s0 s1 s2 s3 s4 s5 s6 s7 s8 s9 s10 s11
      clear hT hH
      have HV := Lib.hid (show stepV y (datL d) (pc : Int) r = .tuple #[.agg (vmA (pc : Int) r), .int .u32 (y.k : Nat), .bool true] by unfold stepV endsL; rw [hc]; rfl)
      have HSS := Lib.hid (show W6.drew.cell? ⟨w.heap.size + 1 + 1 + 1, 3, none⟩ = some (.int .u32 (y.k : Nat)) by simpa using y3)
      go_wp2
      have HT7 := Lib.hid (HT6.out.below (W' := W6.drew) (by (repeat (first | with_reducible exact Below.refl _ _ | with_reducible assumption | ((with_reducible refine Below.setCell ?_ ?hp _); case hp => (first | omega | (simp only [World.size_alloc, World.size_setCell, World.size_drew]; omega) | (simp; done) | (simp; omega))) | ((with_reducible refine Below.alloc ?_ ?hp _); case hp => (first | omega | (simp only [World.size_alloc, World.size_setCell, World.size_drew]; omega) | (simp; done) | (simp; omega))) | with_reducible refine Below.drew ?_ | with_reducible refine below_drewN ?_ _))))
      refine wp_region_noPanic ?_
      refine (wpIn_wide (n := 0)).1 ?_
      (refine region_at 4 (fun W => W.cell? ⟨w.heap.size + 1 + 1 + 1, 3, none⟩ = some (.int .u32 (y.k : Nat))) (fun _ => trivial) (by kernel_rfl) (by kernel_rfl) (by kernel_rfl) (by kernel_rfl) (by kernel_rfl) (by kernel_rfl) (fun _ _ _ _ h => h) ?_)
      (refine At.take 1 (v := .pointer (some ⟨w.heap.size + 1 + 1 + 1, 3, none⟩)) rfl (by decide) (by kernel_rfl) (by kernel_rfl) HSS.out (Or.inl ⟨by rfl, fun w hw => (by go_simp; try (simp (disch := omega) only [IntWalk.i64_in, IntWalk.u8_in, IntWalk.u16_in, IntWalk.u32_in, IntWalk.u64_in]); try omega)⟩) ?_; simp only [Act.put, List.setIfInBounds_toArray, List.set_cons_zero, List.set_cons_succ])
      (refine At.take 2 (v := .int .u32 (y.k : Nat)) rfl (by decide) (by kernel_rfl) (by kernel_rfl) HSS.out (Or.inl ⟨by rfl, fun w hw => (by go_simp; try (simp (disch := omega) only [IntWalk.i64_in, IntWalk.u8_in, IntWalk.u16_in, IntWalk.u32_in, IntWalk.u64_in]); try omega)⟩) ?_; simp only [Act.put, List.setIfInBounds_toArray, List.set_cons_zero, List.set_cons_succ])
      (refine At.force 0 rfl (by decide) (by kernel_rfl) ?_)
      simp only [Act.put, List.getElem_toArray, List.getElem_cons_zero, List.getElem_cons_succ, List.setIfInBounds_toArray, List.set_cons_zero, List.set_cons_succ]
      refine wpListIn_load_row rfl 50 (.tmp 5) rfl (w.heap.size + 1) rfl 50 (vmA (pc : Int) r) (0, 0) _ HT7.out.rows.m Try.underlying50 rfl (HI.out _ _ HR.out) ?_
      simp only [Act.put, List.getElem_toArray, List.getElem_cons_zero, List.getElem_cons_succ, List.setIfInBounds_toArray, List.set_cons_zero, List.set_cons_succ]
      gi_wp2
      refine thenS_normal HSS.out (fun _ => ?_)
      (refine At.force 3 rfl (by decide) (by kernel_rfl) ?_)
      (try simp only [Act.put, List.getElem_toArray, List.getElem_cons_zero, List.getElem_cons_succ, List.setIfInBounds_toArray, List.set_cons_zero, List.set_cons_succ])
      refine wpListIn_store_row rfl 50 (.tmp 6) (.tmp 158) rfl (w.heap.size + 1 + 1) (vmA (pc : Int) r) rfl rfl 50 _ HT7.out.rows.o (HI.out _ _ HR.out) (by rw [vmA_size _ _ HR.out]; rfl) (vmA_one _ _) ?_
      simp only [Act.put, List.getElem_toArray, List.getElem_cons_zero, List.getElem_cons_succ, List.setIfInBounds_toArray, List.set_cons_zero, List.set_cons_succ]
      gi_wp2
      refine thenS_normal ((cell_setRow_other _ _ _ _ (by show w.heap.size + 1 + 1 + 1 ≠ w.heap.size + 1 + 1; omega)).trans HSS.out) (fun _ => ?_)
      refine At.tail (by kernel_rfl) ?_
      simp only [List.drop_succ_cons, List.drop_zero]
      gi_wp2
      refine NoPanic.normal ?_
      go_wp2
      exact bodyPost_ret (results_cell3 rfl _ _ (w.heap.size + 1 + 1) 50 (vmA (pc : Int) r) (0, 0) _ rfl (setRow_heap _ _ _ _ _ _ HT7.out.rows.o) Try.underlying50 rfl (HI.out _ _ HR.out)) rfl ⟨by rw [HV.out]; rfl, below_row (HB6.out.drew) (by omega) _⟩
    · have hT : tailIx y.code = 5 := by rw [hc]; rfl
      have hH : headIx y.code = 11 := by rw [hc]; rfl
      obtain ⟨_, t1, t2, t3, t4, t5⟩ := HPT.out
      obtain ⟨s0, s1, s2, s3, s4, s5, s6, s7, s8, s9, s10, s11⟩ := HPH.out
      rw [show tailIx y.code = 5 from hT] at t1 t2 t3 t4 t5
      rw [show headIx y.code = 11 from hH] at s0 s1 s2 s3 s4 s5 s6 s7 s8 s9 s10 s11
      simp only [Nat.reduceBEq] at t1 t2 t3 t4 t5 s0 s1 s2 s3 s4 s5 s6 s7 s8 s9 s10 s11
      clear hT hH
      have HV := Lib.hid (show stepV y (datL d) (pc : Int) r = .tuple #[.agg (vmA (pc : Int) r), .int .u32 (r.a : Nat), .bool true] by unfold stepV endsL; rw [hc]; rfl)
      have HSS := Lib.hid (show W6.drew.cell? ⟨w.heap.size + 1, 1, none⟩ = some (.int .u32 (r.a : Nat)) by simpa using m1)
      go_wp2
      have HT7 := Lib.hid (HT6.out.below (W' := W6.drew) (by (repeat (first | with_reducible exact Below.refl _ _ | with_reducible assumption | ((with_reducible refine Below.setCell ?_ ?hp _); case hp => (first | omega | (simp only [World.size_alloc, World.size_setCell, World.size_drew]; omega) | (simp; done) | (simp; omega))) | ((with_reducible refine Below.alloc ?_ ?hp _); case hp => (first | omega | (simp only [World.size_alloc, World.size_setCell, World.size_drew]; omega) | (simp; done) | (simp; omega))) | with_reducible refine Below.drew ?_ | with_reducible refine below_drewN ?_ _))))
      refine wp_region_noPanic ?_
      refine (wpIn_wide (n := 0)).1 ?_
      (refine region_at 4 (fun W => W.cell? ⟨w.heap.size + 1, 1, none⟩ = some (.int .u32 (r.a : Nat))) (fun _ => trivial) (by kernel_rfl) (by kernel_rfl) (by kernel_rfl) (by kernel_rfl) (by kernel_rfl) (by kernel_rfl) (fun _ _ _ _ h => h) ?_)
      (refine At.take 1 (v := .pointer (some ⟨w.heap.size + 1, 1, none⟩)) rfl (by decide) (by kernel_rfl) (by kernel_rfl) HSS.out (Or.inl ⟨by rfl, fun w hw => (by go_simp; try (simp (disch := omega) only [IntWalk.i64_in, IntWalk.u8_in, IntWalk.u16_in, IntWalk.u32_in, IntWalk.u64_in]); try omega)⟩) ?_; simp only [Act.put, List.setIfInBounds_toArray, List.set_cons_zero, List.set_cons_succ])
      (refine At.take 2 (v := .int .u32 (r.a : Nat)) rfl (by decide) (by kernel_rfl) (by kernel_rfl) HSS.out (Or.inl ⟨by rfl, fun w hw => (by go_simp; try (simp (disch := omega) only [IntWalk.i64_in, IntWalk.u8_in, IntWalk.u16_in, IntWalk.u32_in, IntWalk.u64_in]); try omega)⟩) ?_; simp only [Act.put, List.setIfInBounds_toArray, List.set_cons_zero, List.set_cons_succ])
      (refine At.force 0 rfl (by decide) (by kernel_rfl) ?_)
      simp only [Act.put, List.getElem_toArray, List.getElem_cons_zero, List.getElem_cons_succ, List.setIfInBounds_toArray, List.set_cons_zero, List.set_cons_succ]
      refine wpListIn_load_row rfl 50 (.tmp 5) rfl (w.heap.size + 1) rfl 50 (vmA (pc : Int) r) (0, 0) _ HT7.out.rows.m Try.underlying50 rfl (HI.out _ _ HR.out) ?_
      simp only [Act.put, List.getElem_toArray, List.getElem_cons_zero, List.getElem_cons_succ, List.setIfInBounds_toArray, List.set_cons_zero, List.set_cons_succ]
      gi_wp2
      refine thenS_normal HSS.out (fun _ => ?_)
      (refine At.force 3 rfl (by decide) (by kernel_rfl) ?_)
      (try simp only [Act.put, List.getElem_toArray, List.getElem_cons_zero, List.getElem_cons_succ, List.setIfInBounds_toArray, List.set_cons_zero, List.set_cons_succ])
      refine wpListIn_store_row rfl 50 (.tmp 6) (.tmp 155) rfl (w.heap.size + 1 + 1) (vmA (pc : Int) r) rfl rfl 50 _ HT7.out.rows.o (HI.out _ _ HR.out) (by rw [vmA_size _ _ HR.out]; rfl) (vmA_one _ _) ?_
      simp only [Act.put, List.getElem_toArray, List.getElem_cons_zero, List.getElem_cons_succ, List.setIfInBounds_toArray, List.set_cons_zero, List.set_cons_succ]
      gi_wp2
      refine thenS_normal ((cell_setRow_other _ _ _ _ (by show w.heap.size + 1 ≠ w.heap.size + 1 + 1; omega)).trans HSS.out) (fun _ => ?_)
      refine At.tail (by kernel_rfl) ?_
      simp only [List.drop_succ_cons, List.drop_zero]
      gi_wp2
      refine NoPanic.normal ?_
      go_wp2
      exact bodyPost_ret (results_cell3 rfl _ _ (w.heap.size + 1 + 1) 50 (vmA (pc : Int) r) (0, 0) _ rfl (setRow_heap _ _ _ _ _ _ HT7.out.rows.o) Try.underlying50 rfl (HI.out _ _ HR.out)) rfl ⟨by rw [HV.out]; rfl, below_row (HB6.out.drew) (by omega) _⟩
  · rcases HCF.out.2.2.2.2.2.2.2 hc8 with hc | hc
    · have hT : tailIx y.code = 9 := by rw [hc]; rfl
      have hH : headIx y.code = 4 := by rw [hc]; rfl
      obtain ⟨_, t1, t2, t3, t4, t5⟩ := HPT.out
      obtain ⟨s0, s1, s2, s3, s4, s5, s6, s7, s8, s9, s10, s11⟩ := HPH.out
      rw [show tailIx y.code = 9 from hT] at t1 t2 t3 t4 t5
      rw [show headIx y.code = 4 from hH] at s0 s1 s2 s3 s4 s5 s6 s7 s8 s9 s10 s11
      simp only [Nat.reduceBEq] at t1 t2 t3 t4 t5 s0 s1 s2 s3 s4 s5 s6 s7 s8 s9 s10 s11
      clear hT hH
      have HV := Lib.hid (show stepV y (datL d) (pc : Int) r = .tuple #[.agg (vmA ((pc : Int) + 1) { r with x := r.a }), .int .u32 0, .bool false] by unfold stepV endsL effL offL; rw [hc]; rfl)
      have HSO := Lib.hid (show Rg.Ok { r with x := r.a } from HR.out.setX HR.out.a)
      have n2 := (cell_of_row _ _ 2 _ _ _ HT6.out.n).trans (vmA_2 _ _)
      have HF := Lib.hid (HT6.out.set (2) (.int .u32 r.a) (vmA_x ((pc : Int) + 1) r r.a))
      have HFB := Lib.hid (HB6.out.setCell (p := ⟨M, 2, none⟩) (by show w.heap.size ≤ M; omega) (.int .u32 r.a))
      go_wp2_with (first
        | (refine wpList_load_row rfl 50 (.tmp 15) rfl M rfl 50 (vmA ((pc : Int) + 1) { r with x := r.a }) (0, 0) _ HF.out.n Try.underlying50 rfl (HI.out _ _ HSO.out) ?_; go_simp)
        | (refine wpList_store_row rfl 50 (.tmp 6) (.tmp 161) rfl (w.heap.size + 1 + 1) (vmA ((pc : Int) + 1) { r with x := r.a }) rfl rfl 50 _ HF.out.rows.o (HI.out _ _ HSO.out) (by rw [vmA_size _ _ HSO.out]; rfl) (vmA_one _ _) ?_; go_simp))
      exact bodyPost_ret (results_cell3 rfl _ _ (w.heap.size + 1 + 1) 50 (vmA ((pc : Int) + 1) { r with x := r.a }) (0, 0) _ rfl (setRow_heap _ _ _ _ _ _ HF.out.rows.o) Try.underlying50 rfl (HI.out _ _ HSO.out)) rfl ⟨by rw [HV.out]; rfl, below_row HFB.out (by omega) _⟩
    · have hT : tailIx y.code = 9 := by rw [hc]; rfl
      have hH : headIx y.code = 5 := by rw [hc]; rfl
      obtain ⟨_, t1, t2, t3, t4, t5⟩ := HPT.out
      obtain ⟨s0, s1, s2, s3, s4, s5, s6, s7, s8, s9, s10, s11⟩ := HPH.out
      rw [show tailIx y.code = 9 from hT] at t1 t2 t3 t4 t5
      rw [show headIx y.code = 5 from hH] at s0 s1 s2 s3 s4 s5 s6 s7 s8 s9 s10 s11
      simp only [Nat.reduceBEq] at t1 t2 t3 t4 t5 s0 s1 s2 s3 s4 s5 s6 s7 s8 s9 s10 s11
      clear hT hH
      have HV := Lib.hid (show stepV y (datL d) (pc : Int) r = .tuple #[.agg (vmA ((pc : Int) + 1) { r with a := r.x }), .int .u32 0, .bool false] by unfold stepV endsL effL offL; rw [hc]; rfl)
      have HSO := Lib.hid (show Rg.Ok { r with a := r.x } from HR.out.setA HR.out.x)
      have n1 := (cell_of_row _ _ 1 _ _ _ HT6.out.n).trans (vmA_1 _ _)
      have HF := Lib.hid (HT6.out.set (1) (.int .u32 r.x) (vmA_a ((pc : Int) + 1) r r.x))
      have HFB := Lib.hid (HB6.out.setCell (p := ⟨M, 1, none⟩) (by show w.heap.size ≤ M; omega) (.int .u32 r.x))
      go_wp2_with (first
        | (refine wpList_load_row rfl 50 (.tmp 15) rfl M rfl 50 (vmA ((pc : Int) + 1) { r with a := r.x }) (0, 0) _ HF.out.n Try.underlying50 rfl (HI.out _ _ HSO.out) ?_; go_simp)
        | (refine wpList_store_row rfl 50 (.tmp 6) (.tmp 161) rfl (w.heap.size + 1 + 1) (vmA ((pc : Int) + 1) { r with a := r.x }) rfl rfl 50 _ HF.out.rows.o (HI.out _ _ HSO.out) (by rw [vmA_size _ _ HSO.out]; rfl) (vmA_one _ _) ?_; go_simp))
      exact bodyPost_ret (results_cell3 rfl _ _ (w.heap.size + 1 + 1) 50 (vmA ((pc : Int) + 1) { r with a := r.x }) (0, 0) _ rfl (setRow_heap _ _ _ _ _ _ HF.out.rows.o) Try.underlying50 rfl (HI.out _ _ HSO.out)) rfl ⟨by rw [HV.out]; rfl, below_row HFB.out (by omega) _⟩

set_option maxRecDepth 100000 in
set_option maxHeartbeats 8000000 in
theorem rstep_x (b o cap n : Nat) (pc : Nat) (hpc : pc < n) (hn : n ≤ 64) (y : Insn) (hy : y.Ok) (hf : 0 ≤ form y.code) (hm : MemOk y) (d : Dt) (hd : d.Ok) (r : Rg) (hr : r.Ok) (w : World) (hh : Here b o pc y w) (hx : tailIx y.code = 0) :
    Calls Try.prog 36 #[.slice (some ⟨b, o, none⟩) n cap, (Value.agg #[.int .u32 d.nr, .int .u32 d.arch, .int .u64 d.ip, .int .u64 d.a0, .int .u64 d.a1, .int .u64 d.a2, .int .u64 d.a3, .int .u64 d.a4, .int .u64 d.a5]), .agg (vmA pc r)] w fun e w' => e = .returned (stepV y (datL d) pc r) ∧ Below w.heap.size w w' := by
  have t0 : ((tailB (nameOf y.code)).toList == [120]) = true := (tails_facts (parts hf).2).1.trans (by rw [hx]; rfl)
  have HR := Lib.hid hr
  have HI := Lib.hid (fun q (s : Rg) (h : s.Ok) => info_vm q s h)
  have HY := Lib.hid hy
  have HDt := Lib.hid hd
  have HMO := Lib.hid hm
  have HNM := Lib.hid (fun W => rname_any y.code hy.code W)
  have HSP := Lib.hid (fun W => rsplit_any (nameOf y.code) (name_len hf) W)
  have HPH := Lib.hid (heads_facts (parts hf).1)
  have HPT := Lib.hid (tails_facts (parts hf).2)
  have HW := Lib.hid (fun W => rword_any d hd y.k hy.k W)
  have HCF := Lib.hid (code_cls hf)
  have HJA := Lib.hid (ja_code hf)
  have HJX := Lib.hid (jx_code hf)
  obtain ⟨hb, x0, x1, x2, x3⟩ := hh
  have i1 : (0 : Int) ≤ (pc : Int) := by omega
  have i2 : (pc : Int) < (n : Int) := by omega
  have hb1 : b < w.heap.size + 1 := by omega
  have hb2 : b < w.heap.size + 1 + 1 := by omega
  have HK := Lib.hid hy.k
  have HSN := Lib.hid (SRows.new w y d (pc : Int) r)
  have HB4 := Lib.hid (show Below w.heap.size w ((((w.alloc (.cells #[.int .u32 d.nr, .int .u32 d.arch, .int .u64 d.ip, .int .u64 d.a0, .int .u64 d.a1, .int .u64 d.a2, .int .u64 d.a3, .int .u64 d.a4, .int .u64 d.a5] 47)).alloc (.cells (vmA pc r) 50)).alloc (.cells #[.int .i64 0, .int .u32 0, .int .u32 0, .int .u32 0, .int .u32 0, .int .u32 0, .int .u32 0, .int .u32 0, .int .u32 0, .int .u32 0, .int .u32 0, .int .u32 0, .int .u32 0, .int .u32 0, .int .u32 0, .int .u32 0, .int .u32 0, .int .u32 0, .int .u32 0] 50)).alloc (.cells #[.int .u16 y.code, .int .u8 y.jt, .int .u8 y.jf, .int .u32 y.k] 36)) by (repeat (first | with_reducible exact Below.refl _ _ | with_reducible assumption | ((with_reducible refine Below.setCell ?_ ?hp _); case hp => (first | omega | (simp only [World.size_alloc, World.size_setCell, World.size_drew]; omega) | (simp; done) | (simp; omega))) | ((with_reducible refine Below.alloc ?_ ?hp _); case hp => (first | omega | (simp only [World.size_alloc, World.size_setCell, World.size_drew]; omega) | (simp; done) | (simp; omega))) | with_reducible refine Below.drew ?_ | with_reducible refine below_drewN ?_ _)))
  generalize nameOf y.code = nm at *
  generalize headB nm = hB at *
  generalize tailB nm = tB at *
  have k0 := vmA_0 (pc : Int) r
  have k1 := vmA_1 (pc : Int) r
  have k2 := vmA_2 (pc : Int) r
  clear hy hd hr hm
  go_enter Try.func36, Try.ntmps36
  go_upto_region 9 with (first
    | (go_at_call 69; refine (HNM.out _).mono ?_; rintro e w1 ⟨rfl, hbn⟩; have HS1 := Lib.hid (HSN.out.below hbn); have HB1 := Lib.hid (HB4.out.trans (hbn.mono (by simp; omega))); clear hbn; have y0 := cell_of_row _ _ 0 _ _ _ HS1.out.x; have y1 := cell_of_row _ _ 1 _ _ _ HS1.out.x; have y2 := cell_of_row _ _ 2 _ _ _ HS1.out.x; have y3 := cell_of_row _ _ 3 _ _ _ HS1.out.x; have m0 := (cell_of_row _ _ 0 _ _ _ HS1.out.m).trans (vmA_0 _ _); have m1 := (cell_of_row _ _ 1 _ _ _ HS1.out.m).trans (vmA_1 _ _); have m2 := (cell_of_row _ _ 2 _ _ _ HS1.out.m).trans (vmA_2 _ _); simp at y0 y1 y2 y3; clear x0 x1 x2 x3 hb1 hb2)
    | (go_at_call 70; refine (HSP.out _).mono ?_; rintro e w2 ⟨rfl, nn, rfl⟩; have HS2 := Lib.hid (HS1.out.below (W' := w1.drewN nn) (by (repeat (first | with_reducible exact Below.refl _ _ | with_reducible assumption | ((with_reducible refine Below.setCell ?_ ?hp _); case hp => (first | omega | (simp only [World.size_alloc, World.size_setCell, World.size_drew]; omega) | (simp; done) | (simp; omega))) | ((with_reducible refine Below.alloc ?_ ?hp _); case hp => (first | omega | (simp only [World.size_alloc, World.size_setCell, World.size_drew]; omega) | (simp; done) | (simp; omega))) | with_reducible refine Below.drew ?_ | with_reducible refine below_drewN ?_ _)))))
    | (refine wpList_load_row rfl 50 (.tmp 5) rfl (w.heap.size + 1) rfl 50 (vmA pc r) (0, 0) _ HS2.out.m Try.underlying50 rfl (HI.out _ _ HR.out) ?_; go_simp)
    | (refine wpList_store_row rfl 50 (.tmp 15) (.tmp 41) rfl w1.heap.size (vmA pc r) rfl rfl 50 #[.int .i64 0, .int .u32 0, .int .u32 0, .int .u32 0, .int .u32 0, .int .u32 0, .int .u32 0, .int .u32 0, .int .u32 0, .int .u32 0, .int .u32 0, .int .u32 0, .int .u32 0, .int .u32 0, .int .u32 0, .int .u32 0, .int .u32 0, .int .u32 0, .int .u32 0] (heap_alloc_new (w1.drewN nn) _) (HI.out _ _ HR.out) (by rw [vmA_size _ _ HR.out]; rfl) (vmA_one pc r) ?_; have HT5 := Lib.hid (TRows.new nn HS1.out); have HB5 := Lib.hid (show Below w.heap.size w (((w1.drewN nn).alloc (.cells #[.int .i64 0, .int .u32 0, .int .u32 0, .int .u32 0, .int .u32 0, .int .u32 0, .int .u32 0, .int .u32 0, .int .u32 0, .int .u32 0, .int .u32 0, .int .u32 0, .int .u32 0, .int .u32 0, .int .u32 0, .int .u32 0, .int .u32 0, .int .u32 0, .int .u32 0] 50)).setRow w1.heap.size (vmA pc r)) from below_row ((below_drewN HB1.out nn).alloc HB1.out.size _) HB1.out.size _); generalize ((w1.drewN nn).alloc (.cells #[.int .i64 0, .int .u32 0, .int .u32 0, .int .u32 0, .int .u32 0, .int .u32 0, .int .u32 0, .int .u32 0, .int .u32 0, .int .u32 0, .int .u32 0, .int .u32 0, .int .u32 0, .int .u32 0, .int .u32 0, .int .u32 0, .int .u32 0, .int .u32 0, .int .u32 0] 50)).setRow w1.heap.size (vmA pc r) = W5 at HT5 HB5 ⊢; clear y0 y1 y2 y3 m0 m1 m2; obtain ⟨⟨y0, y1, y2, y3⟩, ⟨m0, m1, m2⟩, n0, fz⟩ := HT5.out.facts; have nz := HT5.out.z; go_simp))
  have HT6 := Lib.hid (HT5.out.set 0 (.int .i64 ((pc : Int) + 1)) (vmA_pc (pc : Int) ((pc : Int) + 1) r))
  have hwm := HB1.out.size
  have HB6 := Lib.hid (HB5.out.setCell (p := ⟨w1.heap.size, 0, none⟩) hwm (.int .i64 ((pc : Int) + 1)))
  generalize hMM : w1.heap.size = M at *
  generalize W5.setCell ⟨M, 0, none⟩ (.int .i64 ((pc : Int) + 1)) = W6 at *
  clear k0 k1 k2 y0 y1 y2 y3 m0 m1 m2 n0 fz nz HT5 HB5 HSN HB4 HS1 HB1 HNM HSP
  obtain ⟨⟨y0, y1, y2, y3⟩, ⟨m0, m1, m2⟩, n0, fz⟩ := HT6.out.facts
  have nz := HT6.out.z
  have HSRC := Lib.hid (src_x hx)
  obtain ⟨hc8, hSRC⟩ := HSRC.out
  have hTX := hx
  rcases hc8 with hc8 | hc8
  · have hc := hc8
    · have hT : tailIx y.code = 0 := hTX
      have hH : headIx y.code = 20 := by unfold headIx; rw [hc]; rfl
      obtain ⟨_, t1, t2, t3, t4, t5⟩ := HPT.out
      obtain ⟨s0, s1, s2, s3, s4, s5, s6, s7, s8, s9, s10, s11⟩ := HPH.out
      rw [show tailIx y.code = 0 from hT] at t1 t2 t3 t4 t5
      rw [show headIx y.code = 20 from hH] at s0 s1 s2 s3 s4 s5 s6 s7 s8 s9 s10 s11
      simp only [Nat.reduceBEq] at t1 t2 t3 t4 t5 s0 s1 s2 s3 s4 s5 s6 s7 s8 s9 s10 s11
      clear hT hH
      have HO := Lib.hid (show otherL y r = r.x by unfold otherL; rw [hSRC]; rfl)
      have HA := Lib.hid (fun W => ralu_any y.code r.a (r.x) HY.out.code HR.out.a (HR.out.x) W)
      cases hh : (aluL (y.code / 16 % 16) r.a (r.x)).2
      · have HV := Lib.hid (show stepV y (datL d) (pc : Int) r = .tuple #[.agg (vmA (pc : Int) r), .int .u32 0, .bool true] by unfold stepV endsL; rw [HO.out, hh, hc]; rfl)
        have HHH := Lib.hid hh
        clear hh
        go_wp2_with (first
          | (go_at_call 31; refine (HA.out _).mono ?_; rw [HHH.out]; rintro e w7 ⟨rfl, rfl⟩)
          | (refine wpList_load_row rfl 50 (.tmp 5) rfl (w.heap.size + 1) rfl 50 (vmA (pc : Int) r) (0, 0) _ HT6.out.rows.m Try.underlying50 rfl (HI.out _ _ HR.out) ?_; go_simp)
          | (refine wpList_store_row rfl 50 (.tmp 6) (.tmp 80) rfl (w.heap.size + 1 + 1) (vmA (pc : Int) r) rfl rfl 50 _ HT6.out.rows.o (HI.out _ _ HR.out) (by rw [vmA_size _ _ HR.out]; rfl) (vmA_one _ _) ?_; go_simp))
        exact bodyPost_ret (results_cell3 rfl _ _ (w.heap.size + 1 + 1) 50 (vmA (pc : Int) r) (0, 0) _ rfl (setRow_heap _ _ _ _ _ _ HT6.out.rows.o) Try.underlying50 rfl (HI.out _ _ HR.out)) rfl ⟨by rw [HV.out]; rfl, below_row HB6.out (by omega) _⟩
      · have HV := Lib.hid (show stepV y (datL d) (pc : Int) r = .tuple #[.agg (vmA ((pc : Int) + 1) { r with a := (aluL (y.code / 16 % 16) r.a (r.x)).1 }), .int .u32 0, .bool false] by unfold stepV endsL effL offL; rw [HO.out, hh, hc]; rfl)
        have HSO := Lib.hid (show Rg.Ok { r with a := (aluL (y.code / 16 % 16) r.a (r.x)).1 } from HR.out.setA (aluL_lt HR.out.a (HR.out.x)))
        have HHH := Lib.hid hh
        clear hh
        have n1 := (cell_of_row _ _ 1 _ _ _ HT6.out.n).trans (vmA_1 _ _)
        have HF := Lib.hid (HT6.out.set (1) (.int .u32 ((aluL (y.code / 16 % 16) r.a (r.x)).1 : Nat)) (vmA_a ((pc : Int) + 1) r (aluL (y.code / 16 % 16) r.a (r.x)).1))
        have HFB := Lib.hid (HB6.out.setCell (p := ⟨M, 1, none⟩) (by show w.heap.size ≤ M; omega) (.int .u32 ((aluL (y.code / 16 % 16) r.a (r.x)).1 : Nat)))
        go_wp2_with (first
          | (go_at_call 31; refine (HA.out _).mono ?_; rw [HHH.out]; rintro e w7 ⟨rfl, rfl⟩)
          | (refine wpList_load_row rfl 50 (.tmp 15) rfl M rfl 50 (vmA ((pc : Int) + 1) { r with a := (aluL (y.code / 16 % 16) r.a (r.x)).1 }) (0, 0) _ HF.out.n Try.underlying50 rfl (HI.out _ _ HSO.out) ?_; go_simp)
          | (refine wpList_store_row rfl 50 (.tmp 6) (.tmp 161) rfl (w.heap.size + 1 + 1) (vmA ((pc : Int) + 1) { r with a := (aluL (y.code / 16 % 16) r.a (r.x)).1 }) rfl rfl 50 _ HF.out.rows.o (HI.out _ _ HSO.out) (by rw [vmA_size _ _ HSO.out]; rfl) (vmA_one _ _) ?_; go_simp))
        exact bodyPost_ret (results_cell3 rfl _ _ (w.heap.size + 1 + 1) 50 (vmA ((pc : Int) + 1) { r with a := (aluL (y.code / 16 % 16) r.a (r.x)).1 }) (0, 0) _ rfl (setRow_heap _ _ _ _ _ _ HF.out.rows.o) Try.underlying50 rfl (HI.out _ _ HSO.out)) rfl ⟨by rw [HV.out]; rfl, below_row HFB.out (by omega) _⟩
  · have hc := hc8
    rcases (show y.code / 16 % 16 = 1 ∨ y.code / 16 % 16 = 2 ∨ y.code / 16 % 16 = 3 ∨ y.code / 16 % 16 = 4 by have := HCF.out.2.2.2.2.2.1 hc8; have := HJX.out hc8 hSRC; omega) with hi | hi | hi | hi
    · have hT : tailIx y.code = 0 := hTX
      have hH : headIx y.code = 7 := by unfold headIx; rw [hc, hi]; rfl
      obtain ⟨_, t1, t2, t3, t4, t5⟩ := HPT.out
      obtain ⟨s0, s1, s2, s3, s4, s5, s6, s7, s8, s9, s10, s11⟩ := HPH.out
      rw [show tailIx y.code = 0 from hT] at t1 t2 t3 t4 t5
      rw [show headIx y.code = 7 from hH] at s0 s1 s2 s3 s4 s5 s6 s7 s8 s9 s10 s11
      simp only [Nat.reduceBEq] at t1 t2 t3 t4 t5 s0 s1 s2 s3 s4 s5 s6 s7 s8 s9 s10 s11
      clear hT hH
      have HO := Lib.hid (show otherL y r = r.x by unfold otherL; rw [hSRC]; rfl)
      have HH := Lib.hid (fun W => rholds_any y.code r.a (r.x) HY.out.code HR.out.a (HR.out.x) W)
      have hjt := HY.out.jt
      have hjf := HY.out.jf
      have j1 : (0 : Int) ≤ (y.jt : Int) := by omega
      have j2 : (y.jt : Int) ≤ 255 := by omega
      have j3 : (0 : Int) ≤ (y.jf : Int) := by omega
      have j4 : (y.jf : Int) ≤ 255 := by omega
      have j5 : ((pc : Nat) : Int) ≤ 64 := by omega
      clear hjt hjf
      cases hh : holdsL (y.code / 16 % 16) r.a (r.x)
      · have HV := Lib.hid (show stepV y (datL d) (pc : Int) r = .tuple #[.agg (vmA ((pc : Int) + 1 + (y.jf : Int)) r), .int .u32 0, .bool false] by unfold stepV endsL effL offL; rw [HO.out, hh, hc, hi]; rfl)
        have HSO := Lib.hid (show Rg.Ok r from HR.out)
        have HHH := Lib.hid hh
        clear hh
        have HF := Lib.hid (HT6.out.set (0) (.int .i64 ((pc : Int) + 1 + (y.jf : Int))) (vmA_pc ((pc : Int) + 1) ((pc : Int) + 1 + (y.jf : Int)) r))
        have HFB := Lib.hid (HB6.out.setCell (p := ⟨M, 0, none⟩) (by show w.heap.size ≤ M; omega) (.int .i64 ((pc : Int) + 1 + (y.jf : Int))))
        go_wp2_with (first
          | (go_at_call 33; refine (HH.out _).mono ?_; rw [HHH.out]; rintro e w7 ⟨rfl, rfl⟩)
          | (refine wpList_load_row rfl 50 (.tmp 15) rfl M rfl 50 (vmA ((pc : Int) + 1 + (y.jf : Int)) r) (0, 0) _ HF.out.n Try.underlying50 rfl (HI.out _ _ HSO.out) ?_; go_simp)
          | (refine wpList_store_row rfl 50 (.tmp 6) (.tmp 161) rfl (w.heap.size + 1 + 1) (vmA ((pc : Int) + 1 + (y.jf : Int)) r) rfl rfl 50 _ HF.out.rows.o (HI.out _ _ HSO.out) (by rw [vmA_size _ _ HSO.out]; rfl) (vmA_one _ _) ?_; go_simp))
        exact bodyPost_ret (results_cell3 rfl _ _ (w.heap.size + 1 + 1) 50 (vmA ((pc : Int) + 1 + (y.jf : Int)) r) (0, 0) _ rfl (setRow_heap _ _ _ _ _ _ HF.out.rows.o) Try.underlying50 rfl (HI.out _ _ HSO.out)) rfl ⟨by rw [HV.out]; rfl, below_row HFB.out (by omega) _⟩
      · have HV := Lib.hid (show stepV y (datL d) (pc : Int) r = .tuple #[.agg (vmA ((pc : Int) + 1 + (y.jt : Int)) r), .int .u32 0, .bool false] by unfold stepV endsL effL offL; rw [HO.out, hh, hc, hi]; rfl)
        have HSO := Lib.hid (show Rg.Ok r from HR.out)
        have HHH := Lib.hid hh
        clear hh
        have HF := Lib.hid (HT6.out.set (0) (.int .i64 ((pc : Int) + 1 + (y.jt : Int))) (vmA_pc ((pc : Int) + 1) ((pc : Int) + 1 + (y.jt : Int)) r))
        have HFB := Lib.hid (HB6.out.setCell (p := ⟨M, 0, none⟩) (by show w.heap.size ≤ M; omega) (.int .i64 ((pc : Int) + 1 + (y.jt : Int))))
        go_wp2_with (first
          | (go_at_call 33; refine (HH.out _).mono ?_; rw [HHH.out]; rintro e w7 ⟨rfl, rfl⟩)
          | (refine wpList_load_row rfl 50 (.tmp 15) rfl M rfl 50 (vmA ((pc : Int) + 1 + (y.jt : Int)) r) (0, 0) _ HF.out.n Try.underlying50 rfl (HI.out _ _ HSO.out) ?_; go_simp)
          | (refine wpList_store_row rfl 50 (.tmp 6) (.tmp 161) rfl (w.heap.size + 1 + 1) (vmA ((pc : Int) + 1 + (y.jt : Int)) r) rfl rfl 50 _ HF.out.rows.o (HI.out _ _ HSO.out) (by rw [vmA_size _ _ HSO.out]; rfl) (vmA_one _ _) ?_; go_simp))
        exact bodyPost_ret (results_cell3 rfl _ _ (w.heap.size + 1 + 1) 50 (vmA ((pc : Int) + 1 + (y.jt : Int)) r) (0, 0) _ rfl (setRow_heap _ _ _ _ _ _ HF.out.rows.o) Try.underlying50 rfl (HI.out _ _ HSO.out)) rfl ⟨by rw [HV.out]; rfl, below_row HFB.out (by omega) _⟩
    · have hT : tailIx y.code = 0 := hTX
      have hH : headIx y.code = 8 := by unfold headIx; rw [hc, hi]; rfl
      obtain ⟨_, t1, t2, t3, t4, t5⟩ := HPT.out
      obtain ⟨s0, s1, s2, s3, s4, s5, s6, s7, s8, s9, s10, s11⟩ := HPH.out
      rw [show tailIx y.code = 0 from hT] at t1 t2 t3 t4 t5
      rw [show headIx y.code = 8 from hH] at s0 s1 s2 s3 s4 s5 s6 s7 s8 s9 s10 s11
      simp only [Nat.reduceBEq] at t1 t2 t3 t4 t5 s0 s1 s2 s3 s4 s5 s6 s7 s8 s9 s10 s11
      clear hT hH
      have HO := Lib.hid (show otherL y r = r.x by unfold otherL; rw [hSRC]; rfl)
      have HH := Lib.hid (fun W => rholds_any y.code r.a (r.x) HY.out.code HR.out.a (HR.out.x) W)
      have hjt := HY.out.jt
      have hjf := HY.out.jf
      have j1 : (0 : Int) ≤ (y.jt : Int) := by omega
      have j2 : (y.jt : Int) ≤ 255 := by omega
      have j3 : (0 : Int) ≤ (y.jf : Int) := by omega
      have j4 : (y.jf : Int) ≤ 255 := by omega
      have j5 : ((pc : Nat) : Int) ≤ 64 := by omega
      clear hjt hjf
      cases hh : holdsL (y.code / 16 % 16) r.a (r.x)
      · have HV := Lib.hid (show stepV y (datL d) (pc : Int) r = .tuple #[.agg (vmA ((pc : Int) + 1 + (y.jf : Int)) r), .int .u32 0, .bool false] by unfold stepV endsL effL offL; rw [HO.out, hh, hc, hi]; rfl)
        have HSO := Lib.hid (show Rg.Ok r from HR.out)
        have HHH := Lib.hid hh
        clear hh
        have HF := Lib.hid (HT6.out.set (0) (.int .i64 ((pc : Int) + 1 + (y.jf : Int))) (vmA_pc ((pc : Int) + 1) ((pc : Int) + 1 + (y.jf : Int)) r))
        have HFB := Lib.hid (HB6.out.setCell (p := ⟨M, 0, none⟩) (by show w.heap.size ≤ M; omega) (.int .i64 ((pc : Int) + 1 + (y.jf : Int))))
        go_wp2_with (first
          | (go_at_call 33; refine (HH.out _).mono ?_; rw [HHH.out]; rintro e w7 ⟨rfl, rfl⟩)
          | (refine wpList_load_row rfl 50 (.tmp 15) rfl M rfl 50 (vmA ((pc : Int) + 1 + (y.jf : Int)) r) (0, 0) _ HF.out.n Try.underlying50 rfl (HI.out _ _ HSO.out) ?_; go_simp)
          | (refine wpList_store_row rfl 50 (.tmp 6) (.tmp 161) rfl (w.heap.size + 1 + 1) (vmA ((pc : Int) + 1 + (y.jf : Int)) r) rfl rfl 50 _ HF.out.rows.o (HI.out _ _ HSO.out) (by rw [vmA_size _ _ HSO.out]; rfl) (vmA_one _ _) ?_; go_simp))
        exact bodyPost_ret (results_cell3 rfl _ _ (w.heap.size + 1 + 1) 50 (vmA ((pc : Int) + 1 + (y.jf : Int)) r) (0, 0) _ rfl (setRow_heap _ _ _ _ _ _ HF.out.rows.o) Try.underlying50 rfl (HI.out _ _ HSO.out)) rfl ⟨by rw [HV.out]; rfl, below_row HFB.out (by omega) _⟩
      · have HV := Lib.hid (show stepV y (datL d) (pc : Int) r = .tuple #[.agg (vmA ((pc : Int) + 1 + (y.jt : Int)) r), .int .u32 0, .bool false] by unfold stepV endsL effL offL; rw [HO.out, hh, hc, hi]; rfl)
        have HSO := Lib.hid (show Rg.Ok r from HR.out)
        have HHH := Lib.hid hh
        clear hh
        have HF := Lib.hid (HT6.out.set (0) (.int .i64 ((pc : Int) + 1 + (y.jt : Int))) (vmA_pc ((pc : Int) + 1) ((pc : Int) + 1 + (y.jt : Int)) r))
        have HFB := Lib.hid (HB6.out.setCell (p := ⟨M, 0, none⟩) (by show w.heap.size ≤ M; omega) (.int .i64 ((pc : Int) + 1 + (y.jt : Int))))
        go_wp2_with (first
          | (go_at_call 33; refine (HH.out _).mono ?_; rw [HHH.out]; rintro e w7 ⟨rfl, rfl⟩)
          | (refine wpList_load_row rfl 50 (.tmp 15) rfl M rfl 50 (vmA ((pc : Int) + 1 + (y.jt : Int)) r) (0, 0) _ HF.out.n Try.underlying50 rfl (HI.out _ _ HSO.out) ?_; go_simp)
          | (refine wpList_store_row rfl 50 (.tmp 6) (.tmp 161) rfl (w.heap.size + 1 + 1) (vmA ((pc : Int) + 1 + (y.jt : Int)) r) rfl rfl 50 _ HF.out.rows.o (HI.out _ _ HSO.out) (by rw [vmA_size _ _ HSO.out]; rfl) (vmA_one _ _) ?_; go_simp))
        exact bodyPost_ret (results_cell3 rfl _ _ (w.heap.size + 1 + 1) 50 (vmA ((pc : Int) + 1 + (y.jt : Int)) r) (0, 0) _ rfl (setRow_heap _ _ _ _ _ _ HF.out.rows.o) Try.underlying50 rfl (HI.out _ _ HSO.out)) rfl ⟨by rw [HV.out]; rfl, below_row HFB.out (by omega) _⟩
    · have hT : tailIx y.code = 0 := hTX
      have hH : headIx y.code = 9 := by unfold headIx; rw [hc, hi]; rfl
      obtain ⟨_, t1, t2, t3, t4, t5⟩ := HPT.out
      obtain ⟨s0, s1, s2, s3, s4, s5, s6, s7, s8, s9, s10, s11⟩ := HPH.out
      rw [show tailIx y.code = 0 from hT] at t1 t2 t3 t4 t5
      rw [show headIx y.code = 9 from hH] at s0 s1 s2 s3 s4 s5 s6 s7 s8 s9 s10 s11
      simp only [Nat.reduceBEq] at t1 t2 t3 t4 t5 s0 s1 s2 s3 s4 s5 s6 s7 s8 s9 s10 s11
      clear hT hH
      have HO := Lib.hid (show otherL y r = r.x by unfold otherL; rw [hSRC]; rfl)
      have HH := Lib.hid (fun W => rholds_any y.code r.a (r.x) HY.out.code HR.out.a (HR.out.x) W)
      have hjt := HY.out.jt
      have hjf := HY.out.jf
      have j1 : (0 : Int) ≤ (y.jt : Int) := by omega
      have j2 : (y.jt : Int) ≤ 255 := by omega
      have j3 : (0 : Int) ≤ (y.jf : Int) := by omega
      have j4 : (y.jf : Int) ≤ 255 := by omega
      have j5 : ((pc : Nat) : Int) ≤ 64 := by omega
      clear hjt hjf
      cases hh : holdsL (y.code / 16 % 16) r.a (r.x)
      · have HV := Lib.hid (show stepV y (datL d) (pc : Int) r = .tuple #[.agg (vmA ((pc : Int) + 1 + (y.jf : Int)) r), .int .u32 0, .bool false] by unfold stepV endsL effL offL; rw [HO.out, hh, hc, hi]; rfl)
        have HSO := Lib.hid (show Rg.Ok r from HR.out)
        have HHH := Lib.hid hh
        clear hh
        have HF := Lib.hid (HT6.out.set (0) (.int .i64 ((pc : Int) + 1 + (y.jf : Int))) (vmA_pc ((pc : Int) + 1) ((pc : Int) + 1 + (y.jf : Int)) r))
        have HFB := Lib.hid (HB6.out.setCell (p := ⟨M, 0, none⟩) (by show w.heap.size ≤ M; omega) (.int .i64 ((pc : Int) + 1 + (y.jf : Int))))
        go_wp2_with (first
          | (go_at_call 33; refine (HH.out _).mono ?_; rw [HHH.out]; rintro e w7 ⟨rfl, rfl⟩)
          | (refine wpList_load_row rfl 50 (.tmp 15) rfl M rfl 50 (vmA ((pc : Int) + 1 + (y.jf : Int)) r) (0, 0) _ HF.out.n Try.underlying50 rfl (HI.out _ _ HSO.out) ?_; go_simp)
          | (refine wpList_store_row rfl 50 (.tmp 6) (.tmp 161) rfl (w.heap.size + 1 + 1) (vmA ((pc : Int) + 1 + (y.jf : Int)) r) rfl rfl 50 _ HF.out.rows.o (HI.out _ _ HSO.out) (by rw [vmA_size _ _ HSO.out]; rfl) (vmA_one _ _) ?_; go_simp))
        exact bodyPost_ret (results_cell3 rfl _ _ (w.heap.size + 1 + 1) 50 (vmA ((pc : Int) + 1 + (y.jf : Int)) r) (0, 0) _ rfl (setRow_heap _ _ _ _ _ _ HF.out.rows.o) Try.underlying50 rfl (HI.out _ _ HSO.out)) rfl ⟨by rw [HV.out]; rfl, below_row HFB.out (by omega) _⟩
      · have HV := Lib.hid (show stepV y (datL d) (pc : Int) r = .tuple #[.agg (vmA ((pc : Int) + 1 + (y.jt : Int)) r), .int .u32 0, .bool false] by unfold stepV endsL effL offL; rw [HO.out, hh, hc, hi]; rfl)
        have HSO := Lib.hid (show Rg.Ok r from HR.out)
        have HHH := Lib.hid hh
        clear hh
        have HF := Lib.hid (HT6.out.set (0) (.int .i64 ((pc : Int) + 1 + (y.jt : Int))) (vmA_pc ((pc : Int) + 1) ((pc : Int) + 1 + (y.jt : Int)) r))
        have HFB := Lib.hid (HB6.out.setCell (p := ⟨M, 0, none⟩) (by show w.heap.size ≤ M; omega) (.int .i64 ((pc : Int) + 1 + (y.jt : Int))))
        go_wp2_with (first
          | (go_at_call 33; refine (HH.out _).mono ?_; rw [HHH.out]; rintro e w7 ⟨rfl, rfl⟩)
          | (refine wpList_load_row rfl 50 (.tmp 15) rfl M rfl 50 (vmA ((pc : Int) + 1 + (y.jt : Int)) r) (0, 0) _ HF.out.n Try.underlying50 rfl (HI.out _ _ HSO.out) ?_; go_simp)
          | (refine wpList_store_row rfl 50 (.tmp 6) (.tmp 161) rfl (w.heap.size + 1 + 1) (vmA ((pc : Int) + 1 + (y.jt : Int)) r) rfl rfl 50 _ HF.out.rows.o (HI.out _ _ HSO.out) (by rw [vmA_size _ _ HSO.out]; rfl) (vmA_one _ _) ?_; go_simp))
        exact bodyPost_ret (results_cell3 rfl _ _ (w.heap.size + 1 + 1) 50 (vmA ((pc : Int) + 1 + (y.jt : Int)) r) (0, 0) _ rfl (setRow_heap _ _ _ _ _ _ HF.out.rows.o) Try.underlying50 rfl (HI.out _ _ HSO.out)) rfl ⟨by rw [HV.out]; rfl, below_row HFB.out (by omega) _⟩
    · have hT : tailIx y.code = 0 := hTX
      have hH : headIx y.code = 10 := by unfold headIx; rw [hc, hi]; rfl
      obtain ⟨_, t1, t2, t3, t4, t5⟩ := HPT.out
      obtain ⟨s0, s1, s2, s3, s4, s5, s6, s7, s8, s9, s10, s11⟩ := HPH.out
      rw [show tailIx y.code = 0 from hT] at t1 t2 t3 t4 t5
      rw [show headIx y.code = 10 from hH] at s0 s1 s2 s3 s4 s5 s6 s7 s8 s9 s10 s11
      simp only [Nat.reduceBEq] at t1 t2 t3 t4 t5 s0 s1 s2 s3 s4 s5 s6 s7 s8 s9 s10 s11
      clear hT hH
      have HO := Lib.hid (show otherL y r = r.x by unfold otherL; rw [hSRC]; rfl)
      have HH := Lib.hid (fun W => rholds_any y.code r.a (r.x) HY.out.code HR.out.a (HR.out.x) W)
      have hjt := HY.out.jt
      have hjf := HY.out.jf
      have j1 : (0 : Int) ≤ (y.jt : Int) := by omega
      have j2 : (y.jt : Int) ≤ 255 := by omega
      have j3 : (0 : Int) ≤ (y.jf : Int) := by omega
      have j4 : (y.jf : Int) ≤ 255 := by omega
      have j5 : ((pc : Nat) : Int) ≤ 64 := by omega
      clear hjt hjf
      cases hh : holdsL (y.code / 16 % 16) r.a (r.x)
      · have HV := Lib.hid (show stepV y (datL d) (pc : Int) r = .tuple #[.agg (vmA ((pc : Int) + 1 + (y.jf : Int)) r), .int .u32 0, .bool false] by unfold stepV endsL effL offL; rw [HO.out, hh, hc, hi]; rfl)
        have HSO := Lib.hid (show Rg.Ok r from HR.out)
        have HHH := Lib.hid hh
        clear hh
        have HF := Lib.hid (HT6.out.set (0) (.int .i64 ((pc : Int) + 1 + (y.jf : Int))) (vmA_pc ((pc : Int) + 1) ((pc : Int) + 1 + (y.jf : Int)) r))
        have HFB := Lib.hid (HB6.out.setCell (p := ⟨M, 0, none⟩) (by show w.heap.size ≤ M; omega) (.int .i64 ((pc : Int) + 1 + (y.jf : Int))))
        go_wp2_with (first
          | (go_at_call 33; refine (HH.out _).mono ?_; rw [HHH.out]; rintro e w7 ⟨rfl, rfl⟩)
          | (refine wpList_load_row rfl 50 (.tmp 15) rfl M rfl 50 (vmA ((pc : Int) + 1 + (y.jf : Int)) r) (0, 0) _ HF.out.n Try.underlying50 rfl (HI.out _ _ HSO.out) ?_; go_simp)
          | (refine wpList_store_row rfl 50 (.tmp 6) (.tmp 161) rfl (w.heap.size + 1 + 1) (vmA ((pc : Int) + 1 + (y.jf : Int)) r) rfl rfl 50 _ HF.out.rows.o (HI.out _ _ HSO.out) (by rw [vmA_size _ _ HSO.out]; rfl) (vmA_one _ _) ?_; go_simp))
        exact bodyPost_ret (results_cell3 rfl _ _ (w.heap.size + 1 + 1) 50 (vmA ((pc : Int) + 1 + (y.jf : Int)) r) (0, 0) _ rfl (setRow_heap _ _ _ _ _ _ HF.out.rows.o) Try.underlying50 rfl (HI.out _ _ HSO.out)) rfl ⟨by rw [HV.out]; rfl, below_row HFB.out (by omega) _⟩
      · have HV := Lib.hid (show stepV y (datL d) (pc : Int) r = .tuple #[.agg (vmA ((pc : Int) + 1 + (y.jt : Int)) r), .int .u32 0, .bool false] by unfold stepV endsL effL offL; rw [HO.out, hh, hc, hi]; rfl)
        have HSO := Lib.hid (show Rg.Ok r from HR.out)
        have HHH := Lib.hid hh
        clear hh
        have HF := Lib.hid (HT6.out.set (0) (.int .i64 ((pc : Int) + 1 + (y.jt : Int))) (vmA_pc ((pc : Int) + 1) ((pc : Int) + 1 + (y.jt : Int)) r))
        have HFB := Lib.hid (HB6.out.setCell (p := ⟨M, 0, none⟩) (by show w.heap.size ≤ M; omega) (.int .i64 ((pc : Int) + 1 + (y.jt : Int))))
        go_wp2_with (first
          | (go_at_call 33; refine (HH.out _).mono ?_; rw [HHH.out]; rintro e w7 ⟨rfl, rfl⟩)
          | (refine wpList_load_row rfl 50 (.tmp 15) rfl M rfl 50 (vmA ((pc : Int) + 1 + (y.jt : Int)) r) (0, 0) _ HF.out.n Try.underlying50 rfl (HI.out _ _ HSO.out) ?_; go_simp)
          | (refine wpList_store_row rfl 50 (.tmp 6) (.tmp 161) rfl (w.heap.size + 1 + 1) (vmA ((pc : Int) + 1 + (y.jt : Int)) r) rfl rfl 50 _ HF.out.rows.o (HI.out _ _ HSO.out) (by rw [vmA_size _ _ HSO.out]; rfl) (vmA_one _ _) ?_; go_simp))
        exact bodyPost_ret (results_cell3 rfl _ _ (w.heap.size + 1 + 1) 50 (vmA ((pc : Int) + 1 + (y.jt : Int)) r) (0, 0) _ rfl (setRow_heap _ _ _ _ _ _ HF.out.rows.o) Try.underlying50 rfl (HI.out _ _ HSO.out)) rfl ⟨by rw [HV.out]; rfl, below_row HFB.out (by omega) _⟩

end Go.Proofs.Ytfjbanfibmpalaa

/- Contracts: data as bytes. -/
import Derived.Test.YtfjbanfibmpalaaK50
import Derived.Deep.RegionHeld3
import Derived.Test.YtfjbanfibmpalaaKT
set_option linter.unusedVariables false
set_option linter.unusedSimpArgs false
namespace Go.Proofs.Ytfjbanfibmpalaa
open Go.RowKit Go.Shelf

set_option maxRecDepth 100000 in
set_option maxHeartbeats 1000000 in
theorem encode_any (d : Dt) (hd : d.Ok) (w : World) :
    Calls Try.prog 126 #[(Value.agg #[.int .u32 d.nr, .int .u32 d.arch, .int .u64 d.ip, .int .u64 d.a0, .int .u64 d.a1, .int .u64 d.a2, .int .u64 d.a3, .int .u64 d.a4, .int .u64 d.a5])] w fun e w' => ∃ A c, e = .returned (.slice A 64 c) ∧ EY.Own 5 w' w.heap.size A c (encL d) ∧ Below w.heap.size w w' := by
  obtain ⟨q0, q1, q2, q3, q4, q5, q6, q7, q8⟩ := hd
  have P32 := Lib.hid (fun (A : Option Addr) (c : Nat) (l : List Nat) (x : Nat) (w : World) => put32_any A c l x w)
  have P64 := Lib.hid (fun (A : Option Addr) (c : Nat) (l : List Nat) (x : Nat) (w : World) => put64_any A c l x w)
  have hwf : ∀ k, Fence.wide.fn k := fun _ => trivial
  have hwd : Fence.wide.depth = none := rfl
  have Q := Lib.hid (And.intro q0 (And.intro q1 (And.intro q2 (And.intro q3 (And.intro q4 (And.intro q5 (And.intro q6 (And.intro q7 q8))))))))
  obtain ⟨nr, arch, ip, a0, a1, a2, a3, a4, a5⟩ := d
  have f0 : ∀ w, (Instr.index 45 (.agg #[.int .u64 a0, .int .u64 a1, .int .u64 a2, .int .u64 a3, .int .u64 a4, .int .u64 a5]) (.int .i64 0)).run Try.prog w = .ok (.int .u64 a0) w := fun _ => by kernel_rfl
  have f1 : ∀ w, (Instr.index 45 (.agg #[.int .u64 a0, .int .u64 a1, .int .u64 a2, .int .u64 a3, .int .u64 a4, .int .u64 a5]) (.int .i64 1)).run Try.prog w = .ok (.int .u64 a1) w := fun _ => by kernel_rfl
  have f2 : ∀ w, (Instr.index 45 (.agg #[.int .u64 a0, .int .u64 a1, .int .u64 a2, .int .u64 a3, .int .u64 a4, .int .u64 a5]) (.int .i64 2)).run Try.prog w = .ok (.int .u64 a2) w := fun _ => by kernel_rfl
  have f3 : ∀ w, (Instr.index 45 (.agg #[.int .u64 a0, .int .u64 a1, .int .u64 a2, .int .u64 a3, .int .u64 a4, .int .u64 a5]) (.int .i64 3)).run Try.prog w = .ok (.int .u64 a3) w := fun _ => by kernel_rfl
  have f4 : ∀ w, (Instr.index 45 (.agg #[.int .u64 a0, .int .u64 a1, .int .u64 a2, .int .u64 a3, .int .u64 a4, .int .u64 a5]) (.int .i64 4)).run Try.prog w = .ok (.int .u64 a4) w := fun _ => by kernel_rfl
  have f5 : ∀ w, (Instr.index 45 (.agg #[.int .u64 a0, .int .u64 a1, .int .u64 a2, .int .u64 a3, .int .u64 a4, .int .u64 a5]) (.int .i64 5)).run Try.prog w = .ok (.int .u64 a5) w := fun _ => by kernel_rfl
  clear q0 q1 q2 q3 q4 q5 q6 q7 q8
  go_enter Try.func126, Try.ntmps126
  go_wp2
  obtain ⟨w0, hw0⟩ : ∃ w0, w.alloc (.cells #[.int .u32 nr, .int .u32 arch, .int .u64 ip, .int .u64 a0, .int .u64 a1, .int .u64 a2, .int .u64 a3, .int .u64 a4, .int .u64 a5] 47) = w0 := ⟨_, rfl⟩
  have hbx : w0.heap[w.heap.size]? = some (.cells #[.int .u32 nr, .int .u32 arch, .int .u64 ip, .int .u64 a0, .int .u64 a1, .int .u64 a2, .int .u64 a3, .int .u64 a4, .int .u64 a5] 47 (0, 0)) := by rw [← hw0]; exact heap_alloc_new w _
  have hs0 : w0.heap.size = w.heap.size + 1 := by rw [← hw0]; simp
  have hb0 : Below w.heap.size w w0 := by rw [← hw0]; (repeat (first | with_reducible exact Below.refl _ _ | with_reducible assumption | ((with_reducible refine Below.setCell ?_ ?hp _); case hp => (first | omega | (simp only [World.size_alloc, World.size_setCell, World.size_drew]; omega) | (simp; done) | (simp; omega))) | ((with_reducible refine Below.alloc ?_ ?hp _); case hp => (first | omega | (simp only [World.size_alloc, World.size_setCell, World.size_drew]; omega) | (simp; done) | (simp; omega))) | with_reducible refine Below.drew ?_ | with_reducible refine below_drewN ?_ _))
  have HS := Lib.hid (fun W (h : Below w0.heap.size w0 W) => (show W.cell? ⟨w.heap.size, 0, none⟩ = some (.int .u32 nr) ∧ W.cell? ⟨w.heap.size, 1, none⟩ = some (.int .u32 arch) ∧ W.cell? ⟨w.heap.size, 2, none⟩ = some (.int .u64 ip) from
    ⟨cell_of_row _ _ _ _ _ _ ((h.block _ (by omega)).trans hbx), cell_of_row _ _ _ _ _ _ ((h.block _ (by omega)).trans hbx), cell_of_row _ _ _ _ _ _ ((h.block _ (by omega)).trans hbx)⟩))
  have HBX := Lib.hid hbx
  have HB0 := Lib.hid hb0
  clear hbx hb0
  rw [hw0]
  clear hw0
  have HD := Lib.hid (HS.out w0.drew (by (repeat (first | with_reducible exact Below.refl _ _ | with_reducible assumption | ((with_reducible refine Below.setCell ?_ ?hp _); case hp => (first | omega | (simp only [World.size_alloc, World.size_setCell, World.size_drew]; omega) | (simp; done) | (simp; omega))) | ((with_reducible refine Below.alloc ?_ ?hp _); case hp => (first | omega | (simp only [World.size_alloc, World.size_setCell, World.size_drew]; omega) | (simp; done) | (simp; omega))) | with_reducible refine Below.drew ?_ | with_reducible refine below_drewN ?_ _))))
  have hz0 : w.heap.size < w0.heap.size := by omega
  refine wp_region_noPanic ?_
  refine (wpIn_wide (n := 0)).1 ?_
  (refine region_at 8 (fun W => W.cell? ⟨w.heap.size, 0, none⟩ = some (.int .u32 nr) ∧ W.cell? ⟨w.heap.size, 1, none⟩ = some (.int .u32 arch) ∧ W.cell? ⟨w.heap.size, 2, none⟩ = some (.int .u64 ip)) (fun _ => trivial) (by kernel_rfl) (by kernel_rfl) (by kernel_rfl) (by kernel_rfl) (by kernel_rfl) (by kernel_rfl) (fun _ _ _ _ h => h) ?_)
  (refine At.take 0 (v := .pointer (some ⟨w.heap.size, 0, none⟩)) rfl (by decide) (by kernel_rfl) (by kernel_rfl) HD.out (Or.inl ⟨by rfl, fun w hw => (by (repeat (obtain ⟨hw0, hw⟩ := hw)); go_simp; try (simp (disch := omega) only [IntWalk.i64_in, IntWalk.u8_in, IntWalk.u16_in, IntWalk.u32_in, IntWalk.u64_in]); try omega)⟩) ?_; simp only [Act.put, List.setIfInBounds_toArray, List.set_cons_zero, List.set_cons_succ])
  (refine At.take 1 (v := .int .u32 nr) rfl (by decide) (by kernel_rfl) (by kernel_rfl) HD.out (Or.inl ⟨by rfl, fun w hw => (by (repeat (obtain ⟨hw0, hw⟩ := hw)); go_simp; try (simp (disch := omega) only [IntWalk.i64_in, IntWalk.u8_in, IntWalk.u16_in, IntWalk.u32_in, IntWalk.u64_in]); try omega)⟩) ?_; simp only [Act.put, List.setIfInBounds_toArray, List.set_cons_zero, List.set_cons_succ])
  (refine At.take 3 (v := .pointer (some ⟨w.heap.size, 1, none⟩)) rfl (by decide) (by kernel_rfl) (by kernel_rfl) HD.out (Or.inl ⟨by rfl, fun w hw => (by (repeat (obtain ⟨hw0, hw⟩ := hw)); go_simp; try (simp (disch := omega) only [IntWalk.i64_in, IntWalk.u8_in, IntWalk.u16_in, IntWalk.u32_in, IntWalk.u64_in]); try omega)⟩) ?_; simp only [Act.put, List.setIfInBounds_toArray, List.set_cons_zero, List.set_cons_succ])
  (refine At.take 4 (v := .int .u32 arch) rfl (by decide) (by kernel_rfl) (by kernel_rfl) HD.out (Or.inl ⟨by rfl, fun w hw => (by (repeat (obtain ⟨hw0, hw⟩ := hw)); go_simp; try (simp (disch := omega) only [IntWalk.i64_in, IntWalk.u8_in, IntWalk.u16_in, IntWalk.u32_in, IntWalk.u64_in]); try omega)⟩) ?_; simp only [Act.put, List.setIfInBounds_toArray, List.set_cons_zero, List.set_cons_succ])
  (refine At.take 6 (v := .pointer (some ⟨w.heap.size, 2, none⟩)) rfl (by decide) (by kernel_rfl) (by kernel_rfl) HD.out (Or.inl ⟨by rfl, fun w hw => (by (repeat (obtain ⟨hw0, hw⟩ := hw)); go_simp; try (simp (disch := omega) only [IntWalk.i64_in, IntWalk.u8_in, IntWalk.u16_in, IntWalk.u32_in, IntWalk.u64_in]); try omega)⟩) ?_; simp only [Act.put, List.setIfInBounds_toArray, List.set_cons_zero, List.set_cons_succ])
  (refine At.take 7 (v := .int .u64 ip) rfl (by decide) (by kernel_rfl) (by kernel_rfl) HD.out (Or.inl ⟨by rfl, fun w hw => (by (repeat (obtain ⟨hw0, hw⟩ := hw)); go_simp; try (simp (disch := omega) only [IntWalk.i64_in, IntWalk.u8_in, IntWalk.u16_in, IntWalk.u32_in, IntWalk.u64_in]); try omega)⟩) ?_; simp only [Act.put, List.setIfInBounds_toArray, List.set_cons_zero, List.set_cons_succ])
  (refine At.force 2 rfl (by decide) (by kernel_rfl) ?_)
  gi_wp2_with (gi_at_call 80; refine (callsIn_wide.2 (P32.out none 0 [] nr _ ⟨fun h => absurd rfl h⟩ (by decide) Q.out.1)).mono ?_; rintro e w1 ⟨R1, c1, rfl, ho, hb⟩; have HO1 := Lib.hid ho; have HB1 := Lib.hid (Below.trans (show Below w0.heap.size w0 w0.drew by (repeat (first | with_reducible exact Below.refl _ _ | with_reducible assumption | ((with_reducible refine Below.setCell ?_ ?hp _); case hp => (first | omega | (simp only [World.size_alloc, World.size_setCell, World.size_drew]; omega) | (simp; done) | (simp; omega))) | ((with_reducible refine Below.alloc ?_ ?hp _); case hp => (first | omega | (simp only [World.size_alloc, World.size_setCell, World.size_drew]; omega) | (simp; done) | (simp; omega))) | with_reducible refine Below.drew ?_ | with_reducible refine below_drewN ?_ _))) (hb.mono (by (first | omega | (simp only [World.size_alloc, World.size_setCell, World.size_drew]; omega) | (simp; done) | (simp; omega))))); clear ho hb)
  refine thenS_normal (HS.out _ HB1.out) (fun _ => ?_)
  (refine At.force 5 rfl (by decide) (by kernel_rfl) ?_)
  gi_wp2_with (gi_at_call 80; refine (callsIn_wide.2 (P32.out R1 c1 _ arch _ HO1.out.rd (by simp [lowL_len]) Q.out.2.1)).mono ?_; rintro e w2 ⟨R2, c2, rfl, ho, hb⟩; have HO2 := Lib.hid (ho.mono HB1.out.size); have HB2 := Lib.hid (HB1.out.trans (hb.mono HB1.out.size)); clear ho hb)
  refine thenS_normal (HS.out _ HB2.out) (fun _ => ?_)
  refine At.tail (by kernel_rfl) ?_
  simp only [List.drop_succ_cons, List.drop_zero]
  gi_wp2_with (gi_at_call 150; refine (callsIn_wide.2 (P64.out R2 c2 _ ip _ HO2.out.rd (by simp [lowL_len]) Q.out.2.2.1)).mono ?_; rintro e w3 ⟨R3, c3, rfl, ho, hb⟩; have HO3 := Lib.hid (ho.mono HB2.out.size); have HB3 := Lib.hid (HB2.out.trans (hb.mono HB2.out.size)); clear ho hb)
  refine NoPanic.normal ?_
  have hb3 := (HB3.out.block _ hz0).trans HBX.out
  have k3 : w3.cell? ⟨w.heap.size, 3, none⟩ = some (.int .u64 a0) := cell_of_row _ _ _ _ _ _ hb3
  have k4 : w3.cell? ⟨w.heap.size, 4, none⟩ = some (.int .u64 a1) := cell_of_row _ _ _ _ _ _ hb3
  have k5 : w3.cell? ⟨w.heap.size, 5, none⟩ = some (.int .u64 a2) := cell_of_row _ _ _ _ _ _ hb3
  have k6 : w3.cell? ⟨w.heap.size, 6, none⟩ = some (.int .u64 a3) := cell_of_row _ _ _ _ _ _ hb3
  have k7 : w3.cell? ⟨w.heap.size, 7, none⟩ = some (.int .u64 a4) := cell_of_row _ _ _ _ _ _ hb3
  have k8 : w3.cell? ⟨w.heap.size, 8, none⟩ = some (.int .u64 a5) := cell_of_row _ _ _ _ _ _ hb3
  clear hb3
  go_wp2
  refine wp_loop_rounds 7 ?_
  rw [rounds_succ]
  go_wp2_with (go_at_call 150; refine (P64.out R3 c3 _ a0 _ HO3.out.rd (by simp [lowL_len]) Q.out.2.2.2.1).mono ?_; rintro e w4 ⟨R4, c4, rfl, ho, hb⟩; have HO4 := Lib.hid (ho.mono HB3.out.size); have HB4 := Lib.hid (HB3.out.trans (hb.mono HB3.out.size)); clear ho hb)
  rw [rounds_succ]
  go_wp2_with (go_at_call 150; refine (P64.out R4 c4 _ a1 _ HO4.out.rd (by simp [lowL_len]) Q.out.2.2.2.2.1).mono ?_; rintro e w5 ⟨R5, c5, rfl, ho, hb⟩; have HO5 := Lib.hid (ho.mono HB4.out.size); have HB5 := Lib.hid (HB4.out.trans (hb.mono HB4.out.size)); clear ho hb)
  rw [rounds_succ]
  go_wp2_with (go_at_call 150; refine (P64.out R5 c5 _ a2 _ HO5.out.rd (by simp [lowL_len]) Q.out.2.2.2.2.2.1).mono ?_; rintro e w6 ⟨R6, c6, rfl, ho, hb⟩; have HO6 := Lib.hid (ho.mono HB5.out.size); have HB6 := Lib.hid (HB5.out.trans (hb.mono HB5.out.size)); clear ho hb)
  rw [rounds_succ]
  go_wp2_with (go_at_call 150; refine (P64.out R6 c6 _ a3 _ HO6.out.rd (by simp [lowL_len]) Q.out.2.2.2.2.2.2.1).mono ?_; rintro e w7 ⟨R7, c7, rfl, ho, hb⟩; have HO7 := Lib.hid (ho.mono HB6.out.size); have HB7 := Lib.hid (HB6.out.trans (hb.mono HB6.out.size)); clear ho hb)
  rw [rounds_succ]
  go_wp2_with (go_at_call 150; refine (P64.out R7 c7 _ a4 _ HO7.out.rd (by simp [lowL_len]) Q.out.2.2.2.2.2.2.2.1).mono ?_; rintro e w8 ⟨R8, c8, rfl, ho, hb⟩; have HO8 := Lib.hid (ho.mono HB7.out.size); have HB8 := Lib.hid (HB7.out.trans (hb.mono HB7.out.size)); clear ho hb)
  rw [rounds_succ]
  go_wp2_with (go_at_call 150; refine (P64.out R8 c8 _ a5 _ HO8.out.rd (by simp [lowL_len]) Q.out.2.2.2.2.2.2.2.2).mono ?_; rintro e w9 ⟨R9, c9, rfl, ho, hb⟩; have HO9 := Lib.hid (ho.mono HB8.out.size); have HB9 := Lib.hid (HB8.out.trans (hb.mono HB8.out.size)); clear ho hb)
  rw [rounds_succ]
  go_wp2
  go_ret
  refine ⟨R9, c9, ?_, ?_, HB0.out.trans (HB9.out.mono (by omega))⟩
  · simp [lowL_len]
  · have := HO9.out.mono (show w.heap.size ≤ w0.heap.size by omega)
    rw [List.nil_append] at this
    exact this
end Go.Proofs.Ytfjbanfibmpalaa

/- Contracts: wicketgateref02.Bare; wicketgateref22.ahead. -/
import Derived.Test.YtfjbanfibmpalaaK33
set_option linter.unusedVariables false
set_option linter.unusedSimpArgs false
namespace Go.Proofs.Ytfjbanfibmpalaa
open Go.RowKit Go.Shelf
attribute [local go_sem ↓] Go.wp_at_zero Go.wp_at_succ

set_option maxHeartbeats 400000 in
theorem rbare_m1 (x : Insn) (hc : x.code < 65536) (hf : form x.code = -1) (w : World) :
    Calls Try.prog 63 #[(Value.agg #[.int .u16 x.code, .int .u8 x.jt, .int .u8 x.jf, .int .u32 x.k])] w fun e w' => e = .returned (.agg #[.int .u16 x.code, .int .u8 x.jt, .int .u8 x.jf, .int .u32 x.k]) ∧ Below w.heap.size w w' := by
  have HF := Lib.hid hf
  clear hf
  go_enter Try.func63, Try.ntmps63
  go_wp2_with (go_at_call 97; refine (rform_any x.code hc _).mono ?_; rw [HF.out]; rintro e w' ⟨rfl, hb⟩; (obtain ⟨hb_c, hb_f⟩ := bcell hb; have hb_z := (hb).size; have hb_0 : Below w.heap.size w _ := Below.trans (by (repeat (first | with_reducible exact Below.refl _ _ | with_reducible assumption | ((with_reducible refine Below.setCell ?_ ?hp _); case hp => (first | omega | (simp only [World.size_alloc, World.size_setCell, World.size_drew]; omega) | (simp; done) | (simp; omega))) | ((with_reducible refine Below.alloc ?_ ?hp _); case hp => (first | omega | (simp only [World.size_alloc, World.size_setCell, World.size_drew]; omega) | (simp; done) | (simp; omega))) | with_reducible refine Below.drew ?_ | with_reducible refine below_drewN ?_ _))) ((hb).mono (by (first | omega | (simp only [World.size_alloc, World.size_setCell, World.size_drew]; omega) | (simp; done) | (simp; omega)))); (try simp only [World.size_alloc, World.size_setCell, World.size_drew] at hb_z hb_c hb_f); clear hb); (have hb_k0 := hb_c (w.heap.size) 0 (by omega); simp [go_sem] at hb_k0; have hb_k1 := hb_c (w.heap.size) 1 (by omega); simp [go_sem] at hb_k1; have hb_k2 := hb_c (w.heap.size) 2 (by omega); simp [go_sem] at hb_k2; have hb_k3 := hb_c (w.heap.size) 3 (by omega); simp [go_sem] at hb_k3); (have hb_r0 := hb_c (w.heap.size+1) 0 (by omega); simp [go_sem] at hb_r0; have hb_r1 := hb_c (w.heap.size+1) 1 (by omega); simp [go_sem] at hb_r1; have hb_r2 := hb_c (w.heap.size+1) 2 (by omega); simp [go_sem] at hb_r2; have hb_r3 := hb_c (w.heap.size+1) 3 (by omega); simp [go_sem] at hb_r3))
  refine bodyPost_ret (by simp [results, Try.results63, go_sem, hb_k0, hb_k1, hb_k2, hb_k3, hb_r0, hb_r1, hb_r2, hb_r3]) rfl ⟨rfl, ?_⟩
  (repeat (first | with_reducible exact Below.refl _ _ | with_reducible assumption | ((with_reducible refine Below.setCell ?_ ?hp _); case hp => (first | omega | (simp only [World.size_alloc, World.size_setCell, World.size_drew]; omega) | (simp; done) | (simp; omega))) | ((with_reducible refine Below.alloc ?_ ?hp _); case hp => (first | omega | (simp only [World.size_alloc, World.size_setCell, World.size_drew]; omega) | (simp; done) | (simp; omega))) | with_reducible refine Below.drew ?_ | with_reducible refine below_drewN ?_ _))

set_option maxHeartbeats 400000 in
theorem rbare_0 (x : Insn) (hc : x.code < 65536) (hf : form x.code = 0) (w : World) :
    Calls Try.prog 63 #[(Value.agg #[.int .u16 x.code, .int .u8 x.jt, .int .u8 x.jf, .int .u32 x.k])] w fun e w' => e = .returned (.agg #[.int .u16 x.code, .int .u8 0, .int .u8 0, .int .u32 0]) ∧ Below w.heap.size w w' := by
  have HF := Lib.hid hf
  clear hf
  go_enter Try.func63, Try.ntmps63
  go_wp2_with (go_at_call 97; refine (rform_any x.code hc _).mono ?_; rw [HF.out]; rintro e w' ⟨rfl, hb⟩; (obtain ⟨hb_c, hb_f⟩ := bcell hb; have hb_z := (hb).size; have hb_0 : Below w.heap.size w _ := Below.trans (by (repeat (first | with_reducible exact Below.refl _ _ | with_reducible assumption | ((with_reducible refine Below.setCell ?_ ?hp _); case hp => (first | omega | (simp only [World.size_alloc, World.size_setCell, World.size_drew]; omega) | (simp; done) | (simp; omega))) | ((with_reducible refine Below.alloc ?_ ?hp _); case hp => (first | omega | (simp only [World.size_alloc, World.size_setCell, World.size_drew]; omega) | (simp; done) | (simp; omega))) | with_reducible refine Below.drew ?_ | with_reducible refine below_drewN ?_ _))) ((hb).mono (by (first | omega | (simp only [World.size_alloc, World.size_setCell, World.size_drew]; omega) | (simp; done) | (simp; omega)))); (try simp only [World.size_alloc, World.size_setCell, World.size_drew] at hb_z hb_c hb_f); clear hb); (have hb_k0 := hb_c (w.heap.size) 0 (by omega); simp [go_sem] at hb_k0; have hb_k1 := hb_c (w.heap.size) 1 (by omega); simp [go_sem] at hb_k1; have hb_k2 := hb_c (w.heap.size) 2 (by omega); simp [go_sem] at hb_k2; have hb_k3 := hb_c (w.heap.size) 3 (by omega); simp [go_sem] at hb_k3); (have hb_r0 := hb_c (w.heap.size+1) 0 (by omega); simp [go_sem] at hb_r0; have hb_r1 := hb_c (w.heap.size+1) 1 (by omega); simp [go_sem] at hb_r1; have hb_r2 := hb_c (w.heap.size+1) 2 (by omega); simp [go_sem] at hb_r2; have hb_r3 := hb_c (w.heap.size+1) 3 (by omega); simp [go_sem] at hb_r3))
  refine bodyPost_ret (by simp [results, Try.results63, go_sem, hb_k0, hb_k1, hb_k2, hb_k3, hb_r0, hb_r1, hb_r2, hb_r3]) rfl ⟨rfl, ?_⟩
  (repeat (first | with_reducible exact Below.refl _ _ | with_reducible assumption | ((with_reducible refine Below.setCell ?_ ?hp _); case hp => (first | omega | (simp only [World.size_alloc, World.size_setCell, World.size_drew]; omega) | (simp; done) | (simp; omega))) | ((with_reducible refine Below.alloc ?_ ?hp _); case hp => (first | omega | (simp only [World.size_alloc, World.size_setCell, World.size_drew]; omega) | (simp; done) | (simp; omega))) | with_reducible refine Below.drew ?_ | with_reducible refine below_drewN ?_ _))

set_option maxHeartbeats 400000 in
theorem rbare_1 (x : Insn) (hc : x.code < 65536) (hf : form x.code = 1) (w : World) :
    Calls Try.prog 63 #[(Value.agg #[.int .u16 x.code, .int .u8 x.jt, .int .u8 x.jf, .int .u32 x.k])] w fun e w' => e = .returned (.agg #[.int .u16 x.code, .int .u8 0, .int .u8 0, .int .u32 x.k]) ∧ Below w.heap.size w w' := by
  have HF := Lib.hid hf
  clear hf
  go_enter Try.func63, Try.ntmps63
  go_wp2_with (go_at_call 97; refine (rform_any x.code hc _).mono ?_; rw [HF.out]; rintro e w' ⟨rfl, hb⟩; (obtain ⟨hb_c, hb_f⟩ := bcell hb; have hb_z := (hb).size; have hb_0 : Below w.heap.size w _ := Below.trans (by (repeat (first | with_reducible exact Below.refl _ _ | with_reducible assumption | ((with_reducible refine Below.setCell ?_ ?hp _); case hp => (first | omega | (simp only [World.size_alloc, World.size_setCell, World.size_drew]; omega) | (simp; done) | (simp; omega))) | ((with_reducible refine Below.alloc ?_ ?hp _); case hp => (first | omega | (simp only [World.size_alloc, World.size_setCell, World.size_drew]; omega) | (simp; done) | (simp; omega))) | with_reducible refine Below.drew ?_ | with_reducible refine below_drewN ?_ _))) ((hb).mono (by (first | omega | (simp only [World.size_alloc, World.size_setCell, World.size_drew]; omega) | (simp; done) | (simp; omega)))); (try simp only [World.size_alloc, World.size_setCell, World.size_drew] at hb_z hb_c hb_f); clear hb); (have hb_k0 := hb_c (w.heap.size) 0 (by omega); simp [go_sem] at hb_k0; have hb_k1 := hb_c (w.heap.size) 1 (by omega); simp [go_sem] at hb_k1; have hb_k2 := hb_c (w.heap.size) 2 (by omega); simp [go_sem] at hb_k2; have hb_k3 := hb_c (w.heap.size) 3 (by omega); simp [go_sem] at hb_k3); (have hb_r0 := hb_c (w.heap.size+1) 0 (by omega); simp [go_sem] at hb_r0; have hb_r1 := hb_c (w.heap.size+1) 1 (by omega); simp [go_sem] at hb_r1; have hb_r2 := hb_c (w.heap.size+1) 2 (by omega); simp [go_sem] at hb_r2; have hb_r3 := hb_c (w.heap.size+1) 3 (by omega); simp [go_sem] at hb_r3))
  refine bodyPost_ret (by simp [results, Try.results63, go_sem, hb_k0, hb_k1, hb_k2, hb_k3, hb_r0, hb_r1, hb_r2, hb_r3]) rfl ⟨rfl, ?_⟩
  (repeat (first | with_reducible exact Below.refl _ _ | with_reducible assumption | ((with_reducible refine Below.setCell ?_ ?hp _); case hp => (first | omega | (simp only [World.size_alloc, World.size_setCell, World.size_drew]; omega) | (simp; done) | (simp; omega))) | ((with_reducible refine Below.alloc ?_ ?hp _); case hp => (first | omega | (simp only [World.size_alloc, World.size_setCell, World.size_drew]; omega) | (simp; done) | (simp; omega))) | with_reducible refine Below.drew ?_ | with_reducible refine below_drewN ?_ _))

set_option maxHeartbeats 400000 in
theorem rbare_2 (x : Insn) (hc : x.code < 65536) (hf : form x.code = 2) (w : World) :
    Calls Try.prog 63 #[(Value.agg #[.int .u16 x.code, .int .u8 x.jt, .int .u8 x.jf, .int .u32 x.k])] w fun e w' => e = .returned (.agg #[.int .u16 x.code, .int .u8 0, .int .u8 0, .int .u32 x.k]) ∧ Below w.heap.size w w' := by
  have HF := Lib.hid hf
  clear hf
  go_enter Try.func63, Try.ntmps63
  go_wp2_with (go_at_call 97; refine (rform_any x.code hc _).mono ?_; rw [HF.out]; rintro e w' ⟨rfl, hb⟩; (obtain ⟨hb_c, hb_f⟩ := bcell hb; have hb_z := (hb).size; have hb_0 : Below w.heap.size w _ := Below.trans (by (repeat (first | with_reducible exact Below.refl _ _ | with_reducible assumption | ((with_reducible refine Below.setCell ?_ ?hp _); case hp => (first | omega | (simp only [World.size_alloc, World.size_setCell, World.size_drew]; omega) | (simp; done) | (simp; omega))) | ((with_reducible refine Below.alloc ?_ ?hp _); case hp => (first | omega | (simp only [World.size_alloc, World.size_setCell, World.size_drew]; omega) | (simp; done) | (simp; omega))) | with_reducible refine Below.drew ?_ | with_reducible refine below_drewN ?_ _))) ((hb).mono (by (first | omega | (simp only [World.size_alloc, World.size_setCell, World.size_drew]; omega) | (simp; done) | (simp; omega)))); (try simp only [World.size_alloc, World.size_setCell, World.size_drew] at hb_z hb_c hb_f); clear hb); (have hb_k0 := hb_c (w.heap.size) 0 (by omega); simp [go_sem] at hb_k0; have hb_k1 := hb_c (w.heap.size) 1 (by omega); simp [go_sem] at hb_k1; have hb_k2 := hb_c (w.heap.size) 2 (by omega); simp [go_sem] at hb_k2; have hb_k3 := hb_c (w.heap.size) 3 (by omega); simp [go_sem] at hb_k3); (have hb_r0 := hb_c (w.heap.size+1) 0 (by omega); simp [go_sem] at hb_r0; have hb_r1 := hb_c (w.heap.size+1) 1 (by omega); simp [go_sem] at hb_r1; have hb_r2 := hb_c (w.heap.size+1) 2 (by omega); simp [go_sem] at hb_r2; have hb_r3 := hb_c (w.heap.size+1) 3 (by omega); simp [go_sem] at hb_r3))
  refine bodyPost_ret (by simp [results, Try.results63, go_sem, hb_k0, hb_k1, hb_k2, hb_k3, hb_r0, hb_r1, hb_r2, hb_r3]) rfl ⟨rfl, ?_⟩
  (repeat (first | with_reducible exact Below.refl _ _ | with_reducible assumption | ((with_reducible refine Below.setCell ?_ ?hp _); case hp => (first | omega | (simp only [World.size_alloc, World.size_setCell, World.size_drew]; omega) | (simp; done) | (simp; omega))) | ((with_reducible refine Below.alloc ?_ ?hp _); case hp => (first | omega | (simp only [World.size_alloc, World.size_setCell, World.size_drew]; omega) | (simp; done) | (simp; omega))) | with_reducible refine Below.drew ?_ | with_reducible refine below_drewN ?_ _))

set_option maxHeartbeats 400000 in
theorem rbare_3 (x : Insn) (hc : x.code < 65536) (hf : form x.code = 3) (w : World) :
    Calls Try.prog 63 #[(Value.agg #[.int .u16 x.code, .int .u8 x.jt, .int .u8 x.jf, .int .u32 x.k])] w fun e w' => e = .returned (.agg #[.int .u16 x.code, .int .u8 0, .int .u8 0, .int .u32 x.k]) ∧ Below w.heap.size w w' := by
  have HF := Lib.hid hf
  clear hf
  go_enter Try.func63, Try.ntmps63
  go_wp2_with (go_at_call 97; refine (rform_any x.code hc _).mono ?_; rw [HF.out]; rintro e w' ⟨rfl, hb⟩; (obtain ⟨hb_c, hb_f⟩ := bcell hb; have hb_z := (hb).size; have hb_0 : Below w.heap.size w _ := Below.trans (by (repeat (first | with_reducible exact Below.refl _ _ | with_reducible assumption | ((with_reducible refine Below.setCell ?_ ?hp _); case hp => (first | omega | (simp only [World.size_alloc, World.size_setCell, World.size_drew]; omega) | (simp; done) | (simp; omega))) | ((with_reducible refine Below.alloc ?_ ?hp _); case hp => (first | omega | (simp only [World.size_alloc, World.size_setCell, World.size_drew]; omega) | (simp; done) | (simp; omega))) | with_reducible refine Below.drew ?_ | with_reducible refine below_drewN ?_ _))) ((hb).mono (by (first | omega | (simp only [World.size_alloc, World.size_setCell, World.size_drew]; omega) | (simp; done) | (simp; omega)))); (try simp only [World.size_alloc, World.size_setCell, World.size_drew] at hb_z hb_c hb_f); clear hb); (have hb_k0 := hb_c (w.heap.size) 0 (by omega); simp [go_sem] at hb_k0; have hb_k1 := hb_c (w.heap.size) 1 (by omega); simp [go_sem] at hb_k1; have hb_k2 := hb_c (w.heap.size) 2 (by omega); simp [go_sem] at hb_k2; have hb_k3 := hb_c (w.heap.size) 3 (by omega); simp [go_sem] at hb_k3); (have hb_r0 := hb_c (w.heap.size+1) 0 (by omega); simp [go_sem] at hb_r0; have hb_r1 := hb_c (w.heap.size+1) 1 (by omega); simp [go_sem] at hb_r1; have hb_r2 := hb_c (w.heap.size+1) 2 (by omega); simp [go_sem] at hb_r2; have hb_r3 := hb_c (w.heap.size+1) 3 (by omega); simp [go_sem] at hb_r3))
  refine bodyPost_ret (by simp [results, Try.results63, go_sem, hb_k0, hb_k1, hb_k2, hb_k3, hb_r0, hb_r1, hb_r2, hb_r3]) rfl ⟨rfl, ?_⟩
  (repeat (first | with_reducible exact Below.refl _ _ | with_reducible assumption | ((with_reducible refine Below.setCell ?_ ?hp _); case hp => (first | omega | (simp only [World.size_alloc, World.size_setCell, World.size_drew]; omega) | (simp; done) | (simp; omega))) | ((with_reducible refine Below.alloc ?_ ?hp _); case hp => (first | omega | (simp only [World.size_alloc, World.size_setCell, World.size_drew]; omega) | (simp; done) | (simp; omega))) | with_reducible refine Below.drew ?_ | with_reducible refine below_drewN ?_ _))

set_option maxHeartbeats 400000 in
theorem rbare_4 (x : Insn) (hc : x.code < 65536) (hf : form x.code = 4) (w : World) :
    Calls Try.prog 63 #[(Value.agg #[.int .u16 x.code, .int .u8 x.jt, .int .u8 x.jf, .int .u32 x.k])] w fun e w' => e = .returned (.agg #[.int .u16 x.code, .int .u8 0, .int .u8 0, .int .u32 x.k]) ∧ Below w.heap.size w w' := by
  have HF := Lib.hid hf
  clear hf
  go_enter Try.func63, Try.ntmps63
  go_wp2_with (go_at_call 97; refine (rform_any x.code hc _).mono ?_; rw [HF.out]; rintro e w' ⟨rfl, hb⟩; (obtain ⟨hb_c, hb_f⟩ := bcell hb; have hb_z := (hb).size; have hb_0 : Below w.heap.size w _ := Below.trans (by (repeat (first | with_reducible exact Below.refl _ _ | with_reducible assumption | ((with_reducible refine Below.setCell ?_ ?hp _); case hp => (first | omega | (simp only [World.size_alloc, World.size_setCell, World.size_drew]; omega) | (simp; done) | (simp; omega))) | ((with_reducible refine Below.alloc ?_ ?hp _); case hp => (first | omega | (simp only [World.size_alloc, World.size_setCell, World.size_drew]; omega) | (simp; done) | (simp; omega))) | with_reducible refine Below.drew ?_ | with_reducible refine below_drewN ?_ _))) ((hb).mono (by (first | omega | (simp only [World.size_alloc, World.size_setCell, World.size_drew]; omega) | (simp; done) | (simp; omega)))); (try simp only [World.size_alloc, World.size_setCell, World.size_drew] at hb_z hb_c hb_f); clear hb); (have hb_k0 := hb_c (w.heap.size) 0 (by omega); simp [go_sem] at hb_k0; have hb_k1 := hb_c (w.heap.size) 1 (by omega); simp [go_sem] at hb_k1; have hb_k2 := hb_c (w.heap.size) 2 (by omega); simp [go_sem] at hb_k2; have hb_k3 := hb_c (w.heap.size) 3 (by omega); simp [go_sem] at hb_k3); (have hb_r0 := hb_c (w.heap.size+1) 0 (by omega); simp [go_sem] at hb_r0; have hb_r1 := hb_c (w.heap.size+1) 1 (by omega); simp [go_sem] at hb_r1; have hb_r2 := hb_c (w.heap.size+1) 2 (by omega); simp [go_sem] at hb_r2; have hb_r3 := hb_c (w.heap.size+1) 3 (by omega); simp [go_sem] at hb_r3))
  refine bodyPost_ret (by simp [results, Try.results63, go_sem, hb_k0, hb_k1, hb_k2, hb_k3, hb_r0, hb_r1, hb_r2, hb_r3]) rfl ⟨rfl, ?_⟩
  (repeat (first | with_reducible exact Below.refl _ _ | with_reducible assumption | ((with_reducible refine Below.setCell ?_ ?hp _); case hp => (first | omega | (simp only [World.size_alloc, World.size_setCell, World.size_drew]; omega) | (simp; done) | (simp; omega))) | ((with_reducible refine Below.alloc ?_ ?hp _); case hp => (first | omega | (simp only [World.size_alloc, World.size_setCell, World.size_drew]; omega) | (simp; done) | (simp; omega))) | with_reducible refine Below.drew ?_ | with_reducible refine below_drewN ?_ _))

set_option maxHeartbeats 400000 in
theorem rbare_5 (x : Insn) (hc : x.code < 65536) (hf : form x.code = 5) (w : World) :
    Calls Try.prog 63 #[(Value.agg #[.int .u16 x.code, .int .u8 x.jt, .int .u8 x.jf, .int .u32 x.k])] w fun e w' => e = .returned (.agg #[.int .u16 x.code, .int .u8 x.jt, .int .u8 x.jf, .int .u32 x.k]) ∧ Below w.heap.size w w' := by
  have HF := Lib.hid hf
  clear hf
  go_enter Try.func63, Try.ntmps63
  go_wp2_with (go_at_call 97; refine (rform_any x.code hc _).mono ?_; rw [HF.out]; rintro e w' ⟨rfl, hb⟩; (obtain ⟨hb_c, hb_f⟩ := bcell hb; have hb_z := (hb).size; have hb_0 : Below w.heap.size w _ := Below.trans (by (repeat (first | with_reducible exact Below.refl _ _ | with_reducible assumption | ((with_reducible refine Below.setCell ?_ ?hp _); case hp => (first | omega | (simp only [World.size_alloc, World.size_setCell, World.size_drew]; omega) | (simp; done) | (simp; omega))) | ((with_reducible refine Below.alloc ?_ ?hp _); case hp => (first | omega | (simp only [World.size_alloc, World.size_setCell, World.size_drew]; omega) | (simp; done) | (simp; omega))) | with_reducible refine Below.drew ?_ | with_reducible refine below_drewN ?_ _))) ((hb).mono (by (first | omega | (simp only [World.size_alloc, World.size_setCell, World.size_drew]; omega) | (simp; done) | (simp; omega)))); (try simp only [World.size_alloc, World.size_setCell, World.size_drew] at hb_z hb_c hb_f); clear hb); (have hb_k0 := hb_c (w.heap.size) 0 (by omega); simp [go_sem] at hb_k0; have hb_k1 := hb_c (w.heap.size) 1 (by omega); simp [go_sem] at hb_k1; have hb_k2 := hb_c (w.heap.size) 2 (by omega); simp [go_sem] at hb_k2; have hb_k3 := hb_c (w.heap.size) 3 (by omega); simp [go_sem] at hb_k3); (have hb_r0 := hb_c (w.heap.size+1) 0 (by omega); simp [go_sem] at hb_r0; have hb_r1 := hb_c (w.heap.size+1) 1 (by omega); simp [go_sem] at hb_r1; have hb_r2 := hb_c (w.heap.size+1) 2 (by omega); simp [go_sem] at hb_r2; have hb_r3 := hb_c (w.heap.size+1) 3 (by omega); simp [go_sem] at hb_r3))
  refine bodyPost_ret (by simp [results, Try.results63, go_sem, hb_k0, hb_k1, hb_k2, hb_k3, hb_r0, hb_r1, hb_r2, hb_r3]) rfl ⟨rfl, ?_⟩
  (repeat (first | with_reducible exact Below.refl _ _ | with_reducible assumption | ((with_reducible refine Below.setCell ?_ ?hp _); case hp => (first | omega | (simp only [World.size_alloc, World.size_setCell, World.size_drew]; omega) | (simp; done) | (simp; omega))) | ((with_reducible refine Below.alloc ?_ ?hp _); case hp => (first | omega | (simp only [World.size_alloc, World.size_setCell, World.size_drew]; omega) | (simp; done) | (simp; omega))) | with_reducible refine Below.drew ?_ | with_reducible refine below_drewN ?_ _))

set_option maxHeartbeats 400000 in
theorem rbare_6 (x : Insn) (hc : x.code < 65536) (hf : form x.code = 6) (w : World) :
    Calls Try.prog 63 #[(Value.agg #[.int .u16 x.code, .int .u8 x.jt, .int .u8 x.jf, .int .u32 x.k])] w fun e w' => e = .returned (.agg #[.int .u16 x.code, .int .u8 x.jt, .int .u8 x.jf, .int .u32 0]) ∧ Below w.heap.size w w' := by
  have HF := Lib.hid hf
  clear hf
  go_enter Try.func63, Try.ntmps63
  go_wp2_with (go_at_call 97; refine (rform_any x.code hc _).mono ?_; rw [HF.out]; rintro e w' ⟨rfl, hb⟩; (obtain ⟨hb_c, hb_f⟩ := bcell hb; have hb_z := (hb).size; have hb_0 : Below w.heap.size w _ := Below.trans (by (repeat (first | with_reducible exact Below.refl _ _ | with_reducible assumption | ((with_reducible refine Below.setCell ?_ ?hp _); case hp => (first | omega | (simp only [World.size_alloc, World.size_setCell, World.size_drew]; omega) | (simp; done) | (simp; omega))) | ((with_reducible refine Below.alloc ?_ ?hp _); case hp => (first | omega | (simp only [World.size_alloc, World.size_setCell, World.size_drew]; omega) | (simp; done) | (simp; omega))) | with_reducible refine Below.drew ?_ | with_reducible refine below_drewN ?_ _))) ((hb).mono (by (first | omega | (simp only [World.size_alloc, World.size_setCell, World.size_drew]; omega) | (simp; done) | (simp; omega)))); (try simp only [World.size_alloc, World.size_setCell, World.size_drew] at hb_z hb_c hb_f); clear hb); (have hb_k0 := hb_c (w.heap.size) 0 (by omega); simp [go_sem] at hb_k0; have hb_k1 := hb_c (w.heap.size) 1 (by omega); simp [go_sem] at hb_k1; have hb_k2 := hb_c (w.heap.size) 2 (by omega); simp [go_sem] at hb_k2; have hb_k3 := hb_c (w.heap.size) 3 (by omega); simp [go_sem] at hb_k3); (have hb_r0 := hb_c (w.heap.size+1) 0 (by omega); simp [go_sem] at hb_r0; have hb_r1 := hb_c (w.heap.size+1) 1 (by omega); simp [go_sem] at hb_r1; have hb_r2 := hb_c (w.heap.size+1) 2 (by omega); simp [go_sem] at hb_r2; have hb_r3 := hb_c (w.heap.size+1) 3 (by omega); simp [go_sem] at hb_r3))
  refine bodyPost_ret (by simp [results, Try.results63, go_sem, hb_k0, hb_k1, hb_k2, hb_k3, hb_r0, hb_r1, hb_r2, hb_r3]) rfl ⟨rfl, ?_⟩
  (repeat (first | with_reducible exact Below.refl _ _ | with_reducible assumption | ((with_reducible refine Below.setCell ?_ ?hp _); case hp => (first | omega | (simp only [World.size_alloc, World.size_setCell, World.size_drew]; omega) | (simp; done) | (simp; omega))) | ((with_reducible refine Below.alloc ?_ ?hp _); case hp => (first | omega | (simp only [World.size_alloc, World.size_setCell, World.size_drew]; omega) | (simp; done) | (simp; omega))) | with_reducible refine Below.drew ?_ | with_reducible refine below_drewN ?_ _))

theorem rbare_any (x : Insn) (hx : x.Ok) (w : World) :
    Calls Try.prog 63 #[(Value.agg #[.int .u16 x.code, .int .u8 x.jt, .int .u8 x.jf, .int .u32 x.k])] w fun e w' => e = .returned (Value.agg #[.int .u16 (bare x).code, .int .u8 (bare x).jt, .int .u8 (bare x).jf, .int .u32 (bare x).k]) ∧ Below w.heap.size w w' := by
  have hc := hx.code
  rcases form_vals x.code with hf | hf | hf | hf | hf | hf | hf | hf
  · have e : bare x = ⟨x.code, x.jt, x.jf, x.k⟩ := by unfold bare; rw [hf]; rfl
    rw [e]; exact rbare_m1 x hc hf w
  · have e : bare x = ⟨x.code, 0, 0, 0⟩ := by unfold bare; rw [hf]; rfl
    rw [e]; exact rbare_0 x hc hf w
  · have e : bare x = ⟨x.code, 0, 0, x.k⟩ := by unfold bare; rw [hf]; rfl
    rw [e]; exact rbare_1 x hc hf w
  · have e : bare x = ⟨x.code, 0, 0, x.k⟩ := by unfold bare; rw [hf]; rfl
    rw [e]; exact rbare_2 x hc hf w
  · have e : bare x = ⟨x.code, 0, 0, x.k⟩ := by unfold bare; rw [hf]; rfl
    rw [e]; exact rbare_3 x hc hf w
  · have e : bare x = ⟨x.code, 0, 0, x.k⟩ := by unfold bare; rw [hf]; rfl
    rw [e]; exact rbare_4 x hc hf w
  · have e : bare x = ⟨x.code, x.jt, x.jf, x.k⟩ := by unfold bare; rw [hf]; rfl
    rw [e]; exact rbare_5 x hc hf w
  · have e : bare x = ⟨x.code, x.jt, x.jf, 0⟩ := by unfold bare; rw [hf]; rfl
    rw [e]; exact rbare_6 x hc hf w

set_option maxHeartbeats 400000 in
theorem rahead_any (sg c n i : Nat) (f : Nat → Bool) (w : World) (hn : n ≤ 1000) (hi : i ≤ n) (hs : ∀ j, j < n → w.cell? ⟨sg, j, none⟩ = some (.bool (f j))) :
    Calls Try.prog 99 #[.slice (some ⟨sg, 0, none⟩) n c, .int .i64 i] w fun e w' => e = .returned (.int .i64 (ahead f i : Int)) ∧ w = w' := by
  have HS := Lib.hid hs
  clear hs
  go_enter Try.func99, Try.ntmps99
  go_wp2
  go_loop [5, 8] (fun a k => ∃ q : Nat, q ≤ i ∧ k = .int .i64 q ∧ a = .int .i64 (ahead f q : Int)) (fun _ k => i - (intOf k).toNat)
  case atStart => exact ⟨0, by omega, rfl, rfl⟩
  case round =>
    obtain ⟨q, hq, rfl, rfl⟩ := hrel
    have hal := ahead_le f q
    by_cases hlt : q < i
    · have hc := HS.out q (by omega)
      have HA := Lib.hid (aheadS f q)
      have i1 : (0 : Int) ≤ (q : Int) := by omega
      have i2 : (q : Int) < (n : Int) := by omega
      generalize ahead f q = p at *
      cases hf : f q
      all_goals
        rw [hf] at hc HA
        clear hf
        go_wp2
        go_round
        case rel => exact ⟨q + 1, by omega, by go_num, by rw [HA.out]; first | rfl | go_num⟩
        case measure => simp [intOf]; omega
    · obtain rfl : q = i := by omega
      go_wp2
      go_ret
      exact ⟨rfl, rfl⟩
end Go.Proofs.Ytfjbanfibmpalaa

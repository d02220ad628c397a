/- Contracts of layer 2: insn.Form, insn.Bare. -/
import Derived.Test.YtfjbanfibmpalaaK1
set_option linter.unusedVariables false
set_option linter.unusedSimpArgs false
namespace Go.Proofs.Ytfjbanfibmpalaa
open Go.RowKit

theorem side_facts (c : Nat) (hc : c < 256) (h : c % 16 = 4 ∨ c % 16 = 12 ∨ c % 16 = 5 ∨ c % 16 = 13) (hs : (single c).2 < 0) :
    ((sideName c).toList.isEmpty = true → form c = -1) ∧ ((sideName c).toList.isEmpty = false → form c = sideForm c) := by
  have : ∀ c : Fin 256, (c.val % 16 = 4 ∨ c.val % 16 = 12 ∨ c.val % 16 = 5 ∨ c.val % 16 = 13) → (single c.val).2 < 0 →
      ((sideName c.val).toList.isEmpty = true → form c.val = -1) ∧ ((sideName c.val).toList.isEmpty = false → form c.val = sideForm c.val) := by decide +kernel
  exact this ⟨c, hc⟩ h hs

set_option maxHeartbeats 400000 in
theorem form_any (c : Nat) (hc : c < 65536) (w : World) :
    Calls Try.prog 105 #[.int .u16 c] w fun e w' => e = .returned (.int .i64 (form c)) ∧ Below w.heap.size w w' := by
  by_cases hs : 0 ≤ (single c).2
  · have hf : form c = (single c).2 := by unfold form; rw [if_pos hs]
    have HF := Lib.hid hf
    clear hf
    go_enter Try.func105, Try.ntmps105
    go_wp2_with (go_at_call 144; refine (single_any c _).mono ?_; rintro e w' ⟨rfl, rfl⟩)
    go_ret
    exact ⟨by rw [HF.out]; rfl, by (repeat (first | with_reducible exact Below.refl _ _ | with_reducible assumption | ((with_reducible refine Below.setCell ?_ ?hp _); case hp => (first | omega | (simp only [World.size_alloc, World.size_setCell, World.size_drew]; omega) | (simp; done) | (simp; omega))) | ((with_reducible refine Below.alloc ?_ ?hp _); case hp => (first | omega | (simp only [World.size_alloc, World.size_setCell, World.size_drew]; omega) | (simp; done) | (simp; omega))) | with_reducible refine Below.drew ?_ | with_reducible refine below_drewN ?_ _))⟩
  · have hs' : (single c).2 < 0 := by omega
    by_cases hb : 256 ≤ c
    · have hf : form c = (single c).2 := by unfold form; rw [if_neg hs, if_pos hb, single_big c hb]
      have HF := Lib.hid hf
      clear hf
      go_enter Try.func105, Try.ntmps105
      go_wp2_with (go_at_call 144; refine (single_any c _).mono ?_; rintro e w' ⟨rfl, rfl⟩)
      go_ret
      exact ⟨by rw [HF.out]; rfl, by (repeat (first | with_reducible exact Below.refl _ _ | with_reducible assumption | ((with_reducible refine Below.setCell ?_ ?hp _); case hp => (first | omega | (simp only [World.size_alloc, World.size_setCell, World.size_drew]; omega) | (simp; done) | (simp; omega))) | ((with_reducible refine Below.alloc ?_ ?hp _); case hp => (first | omega | (simp only [World.size_alloc, World.size_setCell, World.size_drew]; omega) | (simp; done) | (simp; omega))) | with_reducible refine Below.drew ?_ | with_reducible refine below_drewN ?_ _))⟩
    · by_cases h : c % 16 = 4 ∨ c % 16 = 12 ∨ c % 16 = 5 ∨ c % 16 = 13
      · have HX := Lib.hid (side_facts c (by omega) h hs')
        go_enter Try.func105, Try.ntmps105
        go_wp2_with (first
          | (go_at_call 144; refine (single_any c _).mono ?_; rintro e w' ⟨rfl, rfl⟩)
          | (go_at_call 145; refine (sided_some c (by omega) h _).mono ?_; rintro e w' ⟨rfl, hcell, hbel, hsz⟩))
        · go_ret
          exact ⟨by rw [HX.out.1 (by assumption)]; rfl, hbel⟩
        · go_ret
          exact ⟨by rw [HX.out.2 (by assumption)]; rfl, hbel⟩
      · have hf : form c = -1 := by unfold form; rw [if_neg hs, if_neg hb, if_neg (by omega), if_neg (by omega), if_neg (by omega), if_neg (by omega)]
        have HF := Lib.hid hf
        clear hf
        go_enter Try.func105, Try.ntmps105
        go_wp2_with (first
          | (go_at_call 144; refine (single_any c _).mono ?_; rintro e w' ⟨rfl, rfl⟩)
          | (go_at_call 145; refine (sided_none c (by omega) (by omega) _).mono ?_; rintro e w' ⟨rfl, rfl⟩))
        go_ret
        exact ⟨by rw [HF.out]; rfl, by (repeat (first | with_reducible exact Below.refl _ _ | with_reducible assumption | ((with_reducible refine Below.setCell ?_ ?hp _); case hp => (first | omega | (simp only [World.size_alloc, World.size_setCell, World.size_drew]; omega) | (simp; done) | (simp; omega))) | ((with_reducible refine Below.alloc ?_ ?hp _); case hp => (first | omega | (simp only [World.size_alloc, World.size_setCell, World.size_drew]; omega) | (simp; done) | (simp; omega))) | with_reducible refine Below.drew ?_ | with_reducible refine below_drewN ?_ _))⟩

set_option maxHeartbeats 400000 in
theorem bare_m1 (x : Insn) (hc : x.code < 65536) (hf : form x.code = -1) (w : World) :
    Calls Try.prog 142 #[(Value.agg #[.int .u16 x.code, .int .u8 x.jt, .int .u8 x.jf, .int .u32 x.k])] w fun e w' => e = .returned (.agg #[.int .u16 x.code, .int .u8 x.jt, .int .u8 x.jf, .int .u32 x.k]) ∧ Below w.heap.size w w' := by
  have HF := Lib.hid hf
  clear hf
  go_enter Try.func142, Try.ntmps142
  go_wp2_with (go_at_call 105; refine (form_any x.code hc _).mono ?_; rw [HF.out]; rintro e w' ⟨rfl, hb⟩; (obtain ⟨hb_c, hb_f⟩ := bcell hb; have hb_z := (hb).size; have hb_0 : Below w.heap.size w _ := Below.trans (by (repeat (first | with_reducible exact Below.refl _ _ | with_reducible assumption | ((with_reducible refine Below.setCell ?_ ?hp _); case hp => (first | omega | (simp only [World.size_alloc, World.size_setCell, World.size_drew]; omega) | (simp; done) | (simp; omega))) | ((with_reducible refine Below.alloc ?_ ?hp _); case hp => (first | omega | (simp only [World.size_alloc, World.size_setCell, World.size_drew]; omega) | (simp; done) | (simp; omega))) | with_reducible refine Below.drew ?_ | with_reducible refine below_drewN ?_ _))) ((hb).mono (by (first | omega | (simp only [World.size_alloc, World.size_setCell, World.size_drew]; omega) | (simp; done) | (simp; omega)))); (try simp only [World.size_alloc, World.size_setCell, World.size_drew] at hb_z hb_c hb_f); clear hb); (have hb_k0 := hb_c (w.heap.size) 0 (by omega); simp [go_sem] at hb_k0; have hb_k1 := hb_c (w.heap.size) 1 (by omega); simp [go_sem] at hb_k1; have hb_k2 := hb_c (w.heap.size) 2 (by omega); simp [go_sem] at hb_k2; have hb_k3 := hb_c (w.heap.size) 3 (by omega); simp [go_sem] at hb_k3); (have hb_r0 := hb_c (w.heap.size+1) 0 (by omega); simp [go_sem] at hb_r0; have hb_r1 := hb_c (w.heap.size+1) 1 (by omega); simp [go_sem] at hb_r1; have hb_r2 := hb_c (w.heap.size+1) 2 (by omega); simp [go_sem] at hb_r2; have hb_r3 := hb_c (w.heap.size+1) 3 (by omega); simp [go_sem] at hb_r3))
  refine bodyPost_ret (by simp [results, Try.results142, go_sem, hb_k0, hb_k1, hb_k2, hb_k3, hb_r0, hb_r1, hb_r2, hb_r3]) rfl ⟨rfl, ?_⟩
  (repeat (first | with_reducible exact Below.refl _ _ | with_reducible assumption | ((with_reducible refine Below.setCell ?_ ?hp _); case hp => (first | omega | (simp only [World.size_alloc, World.size_setCell, World.size_drew]; omega) | (simp; done) | (simp; omega))) | ((with_reducible refine Below.alloc ?_ ?hp _); case hp => (first | omega | (simp only [World.size_alloc, World.size_setCell, World.size_drew]; omega) | (simp; done) | (simp; omega))) | with_reducible refine Below.drew ?_ | with_reducible refine below_drewN ?_ _))

set_option maxHeartbeats 400000 in
theorem bare_0 (x : Insn) (hc : x.code < 65536) (hf : form x.code = 0) (w : World) :
    Calls Try.prog 142 #[(Value.agg #[.int .u16 x.code, .int .u8 x.jt, .int .u8 x.jf, .int .u32 x.k])] w fun e w' => e = .returned (.agg #[.int .u16 x.code, .int .u8 0, .int .u8 0, .int .u32 0]) ∧ Below w.heap.size w w' := by
  have HF := Lib.hid hf
  clear hf
  go_enter Try.func142, Try.ntmps142
  go_wp2_with (go_at_call 105; refine (form_any x.code hc _).mono ?_; rw [HF.out]; rintro e w' ⟨rfl, hb⟩; (obtain ⟨hb_c, hb_f⟩ := bcell hb; have hb_z := (hb).size; have hb_0 : Below w.heap.size w _ := Below.trans (by (repeat (first | with_reducible exact Below.refl _ _ | with_reducible assumption | ((with_reducible refine Below.setCell ?_ ?hp _); case hp => (first | omega | (simp only [World.size_alloc, World.size_setCell, World.size_drew]; omega) | (simp; done) | (simp; omega))) | ((with_reducible refine Below.alloc ?_ ?hp _); case hp => (first | omega | (simp only [World.size_alloc, World.size_setCell, World.size_drew]; omega) | (simp; done) | (simp; omega))) | with_reducible refine Below.drew ?_ | with_reducible refine below_drewN ?_ _))) ((hb).mono (by (first | omega | (simp only [World.size_alloc, World.size_setCell, World.size_drew]; omega) | (simp; done) | (simp; omega)))); (try simp only [World.size_alloc, World.size_setCell, World.size_drew] at hb_z hb_c hb_f); clear hb); (have hb_k0 := hb_c (w.heap.size) 0 (by omega); simp [go_sem] at hb_k0; have hb_k1 := hb_c (w.heap.size) 1 (by omega); simp [go_sem] at hb_k1; have hb_k2 := hb_c (w.heap.size) 2 (by omega); simp [go_sem] at hb_k2; have hb_k3 := hb_c (w.heap.size) 3 (by omega); simp [go_sem] at hb_k3); (have hb_r0 := hb_c (w.heap.size+1) 0 (by omega); simp [go_sem] at hb_r0; have hb_r1 := hb_c (w.heap.size+1) 1 (by omega); simp [go_sem] at hb_r1; have hb_r2 := hb_c (w.heap.size+1) 2 (by omega); simp [go_sem] at hb_r2; have hb_r3 := hb_c (w.heap.size+1) 3 (by omega); simp [go_sem] at hb_r3))
  refine bodyPost_ret (by simp [results, Try.results142, go_sem, hb_k0, hb_k1, hb_k2, hb_k3, hb_r0, hb_r1, hb_r2, hb_r3]) rfl ⟨rfl, ?_⟩
  (repeat (first | with_reducible exact Below.refl _ _ | with_reducible assumption | ((with_reducible refine Below.setCell ?_ ?hp _); case hp => (first | omega | (simp only [World.size_alloc, World.size_setCell, World.size_drew]; omega) | (simp; done) | (simp; omega))) | ((with_reducible refine Below.alloc ?_ ?hp _); case hp => (first | omega | (simp only [World.size_alloc, World.size_setCell, World.size_drew]; omega) | (simp; done) | (simp; omega))) | with_reducible refine Below.drew ?_ | with_reducible refine below_drewN ?_ _))

set_option maxHeartbeats 400000 in
theorem bare_1 (x : Insn) (hc : x.code < 65536) (hf : form x.code = 1) (w : World) :
    Calls Try.prog 142 #[(Value.agg #[.int .u16 x.code, .int .u8 x.jt, .int .u8 x.jf, .int .u32 x.k])] w fun e w' => e = .returned (.agg #[.int .u16 x.code, .int .u8 0, .int .u8 0, .int .u32 x.k]) ∧ Below w.heap.size w w' := by
  have HF := Lib.hid hf
  clear hf
  go_enter Try.func142, Try.ntmps142
  go_wp2_with (go_at_call 105; refine (form_any x.code hc _).mono ?_; rw [HF.out]; rintro e w' ⟨rfl, hb⟩; (obtain ⟨hb_c, hb_f⟩ := bcell hb; have hb_z := (hb).size; have hb_0 : Below w.heap.size w _ := Below.trans (by (repeat (first | with_reducible exact Below.refl _ _ | with_reducible assumption | ((with_reducible refine Below.setCell ?_ ?hp _); case hp => (first | omega | (simp only [World.size_alloc, World.size_setCell, World.size_drew]; omega) | (simp; done) | (simp; omega))) | ((with_reducible refine Below.alloc ?_ ?hp _); case hp => (first | omega | (simp only [World.size_alloc, World.size_setCell, World.size_drew]; omega) | (simp; done) | (simp; omega))) | with_reducible refine Below.drew ?_ | with_reducible refine below_drewN ?_ _))) ((hb).mono (by (first | omega | (simp only [World.size_alloc, World.size_setCell, World.size_drew]; omega) | (simp; done) | (simp; omega)))); (try simp only [World.size_alloc, World.size_setCell, World.size_drew] at hb_z hb_c hb_f); clear hb); (have hb_k0 := hb_c (w.heap.size) 0 (by omega); simp [go_sem] at hb_k0; have hb_k1 := hb_c (w.heap.size) 1 (by omega); simp [go_sem] at hb_k1; have hb_k2 := hb_c (w.heap.size) 2 (by omega); simp [go_sem] at hb_k2; have hb_k3 := hb_c (w.heap.size) 3 (by omega); simp [go_sem] at hb_k3); (have hb_r0 := hb_c (w.heap.size+1) 0 (by omega); simp [go_sem] at hb_r0; have hb_r1 := hb_c (w.heap.size+1) 1 (by omega); simp [go_sem] at hb_r1; have hb_r2 := hb_c (w.heap.size+1) 2 (by omega); simp [go_sem] at hb_r2; have hb_r3 := hb_c (w.heap.size+1) 3 (by omega); simp [go_sem] at hb_r3))
  refine bodyPost_ret (by simp [results, Try.results142, go_sem, hb_k0, hb_k1, hb_k2, hb_k3, hb_r0, hb_r1, hb_r2, hb_r3]) rfl ⟨rfl, ?_⟩
  (repeat (first | with_reducible exact Below.refl _ _ | with_reducible assumption | ((with_reducible refine Below.setCell ?_ ?hp _); case hp => (first | omega | (simp only [World.size_alloc, World.size_setCell, World.size_drew]; omega) | (simp; done) | (simp; omega))) | ((with_reducible refine Below.alloc ?_ ?hp _); case hp => (first | omega | (simp only [World.size_alloc, World.size_setCell, World.size_drew]; omega) | (simp; done) | (simp; omega))) | with_reducible refine Below.drew ?_ | with_reducible refine below_drewN ?_ _))

set_option maxHeartbeats 400000 in
theorem bare_2 (x : Insn) (hc : x.code < 65536) (hf : form x.code = 2) (w : World) :
    Calls Try.prog 142 #[(Value.agg #[.int .u16 x.code, .int .u8 x.jt, .int .u8 x.jf, .int .u32 x.k])] w fun e w' => e = .returned (.agg #[.int .u16 x.code, .int .u8 0, .int .u8 0, .int .u32 x.k]) ∧ Below w.heap.size w w' := by
  have HF := Lib.hid hf
  clear hf
  go_enter Try.func142, Try.ntmps142
  go_wp2_with (go_at_call 105; refine (form_any x.code hc _).mono ?_; rw [HF.out]; rintro e w' ⟨rfl, hb⟩; (obtain ⟨hb_c, hb_f⟩ := bcell hb; have hb_z := (hb).size; have hb_0 : Below w.heap.size w _ := Below.trans (by (repeat (first | with_reducible exact Below.refl _ _ | with_reducible assumption | ((with_reducible refine Below.setCell ?_ ?hp _); case hp => (first | omega | (simp only [World.size_alloc, World.size_setCell, World.size_drew]; omega) | (simp; done) | (simp; omega))) | ((with_reducible refine Below.alloc ?_ ?hp _); case hp => (first | omega | (simp only [World.size_alloc, World.size_setCell, World.size_drew]; omega) | (simp; done) | (simp; omega))) | with_reducible refine Below.drew ?_ | with_reducible refine below_drewN ?_ _))) ((hb).mono (by (first | omega | (simp only [World.size_alloc, World.size_setCell, World.size_drew]; omega) | (simp; done) | (simp; omega)))); (try simp only [World.size_alloc, World.size_setCell, World.size_drew] at hb_z hb_c hb_f); clear hb); (have hb_k0 := hb_c (w.heap.size) 0 (by omega); simp [go_sem] at hb_k0; have hb_k1 := hb_c (w.heap.size) 1 (by omega); simp [go_sem] at hb_k1; have hb_k2 := hb_c (w.heap.size) 2 (by omega); simp [go_sem] at hb_k2; have hb_k3 := hb_c (w.heap.size) 3 (by omega); simp [go_sem] at hb_k3); (have hb_r0 := hb_c (w.heap.size+1) 0 (by omega); simp [go_sem] at hb_r0; have hb_r1 := hb_c (w.heap.size+1) 1 (by omega); simp [go_sem] at hb_r1; have hb_r2 := hb_c (w.heap.size+1) 2 (by omega); simp [go_sem] at hb_r2; have hb_r3 := hb_c (w.heap.size+1) 3 (by omega); simp [go_sem] at hb_r3))
  refine bodyPost_ret (by simp [results, Try.results142, go_sem, hb_k0, hb_k1, hb_k2, hb_k3, hb_r0, hb_r1, hb_r2, hb_r3]) rfl ⟨rfl, ?_⟩
  (repeat (first | with_reducible exact Below.refl _ _ | with_reducible assumption | ((with_reducible refine Below.setCell ?_ ?hp _); case hp => (first | omega | (simp only [World.size_alloc, World.size_setCell, World.size_drew]; omega) | (simp; done) | (simp; omega))) | ((with_reducible refine Below.alloc ?_ ?hp _); case hp => (first | omega | (simp only [World.size_alloc, World.size_setCell, World.size_drew]; omega) | (simp; done) | (simp; omega))) | with_reducible refine Below.drew ?_ | with_reducible refine below_drewN ?_ _))

set_option maxHeartbeats 400000 in
theorem bare_3 (x : Insn) (hc : x.code < 65536) (hf : form x.code = 3) (w : World) :
    Calls Try.prog 142 #[(Value.agg #[.int .u16 x.code, .int .u8 x.jt, .int .u8 x.jf, .int .u32 x.k])] w fun e w' => e = .returned (.agg #[.int .u16 x.code, .int .u8 0, .int .u8 0, .int .u32 x.k]) ∧ Below w.heap.size w w' := by
  have HF := Lib.hid hf
  clear hf
  go_enter Try.func142, Try.ntmps142
  go_wp2_with (go_at_call 105; refine (form_any x.code hc _).mono ?_; rw [HF.out]; rintro e w' ⟨rfl, hb⟩; (obtain ⟨hb_c, hb_f⟩ := bcell hb; have hb_z := (hb).size; have hb_0 : Below w.heap.size w _ := Below.trans (by (repeat (first | with_reducible exact Below.refl _ _ | with_reducible assumption | ((with_reducible refine Below.setCell ?_ ?hp _); case hp => (first | omega | (simp only [World.size_alloc, World.size_setCell, World.size_drew]; omega) | (simp; done) | (simp; omega))) | ((with_reducible refine Below.alloc ?_ ?hp _); case hp => (first | omega | (simp only [World.size_alloc, World.size_setCell, World.size_drew]; omega) | (simp; done) | (simp; omega))) | with_reducible refine Below.drew ?_ | with_reducible refine below_drewN ?_ _))) ((hb).mono (by (first | omega | (simp only [World.size_alloc, World.size_setCell, World.size_drew]; omega) | (simp; done) | (simp; omega)))); (try simp only [World.size_alloc, World.size_setCell, World.size_drew] at hb_z hb_c hb_f); clear hb); (have hb_k0 := hb_c (w.heap.size) 0 (by omega); simp [go_sem] at hb_k0; have hb_k1 := hb_c (w.heap.size) 1 (by omega); simp [go_sem] at hb_k1; have hb_k2 := hb_c (w.heap.size) 2 (by omega); simp [go_sem] at hb_k2; have hb_k3 := hb_c (w.heap.size) 3 (by omega); simp [go_sem] at hb_k3); (have hb_r0 := hb_c (w.heap.size+1) 0 (by omega); simp [go_sem] at hb_r0; have hb_r1 := hb_c (w.heap.size+1) 1 (by omega); simp [go_sem] at hb_r1; have hb_r2 := hb_c (w.heap.size+1) 2 (by omega); simp [go_sem] at hb_r2; have hb_r3 := hb_c (w.heap.size+1) 3 (by omega); simp [go_sem] at hb_r3))
  refine bodyPost_ret (by simp [results, Try.results142, go_sem, hb_k0, hb_k1, hb_k2, hb_k3, hb_r0, hb_r1, hb_r2, hb_r3]) rfl ⟨rfl, ?_⟩
  (repeat (first | with_reducible exact Below.refl _ _ | with_reducible assumption | ((with_reducible refine Below.setCell ?_ ?hp _); case hp => (first | omega | (simp only [World.size_alloc, World.size_setCell, World.size_drew]; omega) | (simp; done) | (simp; omega))) | ((with_reducible refine Below.alloc ?_ ?hp _); case hp => (first | omega | (simp only [World.size_alloc, World.size_setCell, World.size_drew]; omega) | (simp; done) | (simp; omega))) | with_reducible refine Below.drew ?_ | with_reducible refine below_drewN ?_ _))

set_option maxHeartbeats 400000 in
theorem bare_4 (x : Insn) (hc : x.code < 65536) (hf : form x.code = 4) (w : World) :
    Calls Try.prog 142 #[(Value.agg #[.int .u16 x.code, .int .u8 x.jt, .int .u8 x.jf, .int .u32 x.k])] w fun e w' => e = .returned (.agg #[.int .u16 x.code, .int .u8 0, .int .u8 0, .int .u32 x.k]) ∧ Below w.heap.size w w' := by
  have HF := Lib.hid hf
  clear hf
  go_enter Try.func142, Try.ntmps142
  go_wp2_with (go_at_call 105; refine (form_any x.code hc _).mono ?_; rw [HF.out]; rintro e w' ⟨rfl, hb⟩; (obtain ⟨hb_c, hb_f⟩ := bcell hb; have hb_z := (hb).size; have hb_0 : Below w.heap.size w _ := Below.trans (by (repeat (first | with_reducible exact Below.refl _ _ | with_reducible assumption | ((with_reducible refine Below.setCell ?_ ?hp _); case hp => (first | omega | (simp only [World.size_alloc, World.size_setCell, World.size_drew]; omega) | (simp; done) | (simp; omega))) | ((with_reducible refine Below.alloc ?_ ?hp _); case hp => (first | omega | (simp only [World.size_alloc, World.size_setCell, World.size_drew]; omega) | (simp; done) | (simp; omega))) | with_reducible refine Below.drew ?_ | with_reducible refine below_drewN ?_ _))) ((hb).mono (by (first | omega | (simp only [World.size_alloc, World.size_setCell, World.size_drew]; omega) | (simp; done) | (simp; omega)))); (try simp only [World.size_alloc, World.size_setCell, World.size_drew] at hb_z hb_c hb_f); clear hb); (have hb_k0 := hb_c (w.heap.size) 0 (by omega); simp [go_sem] at hb_k0; have hb_k1 := hb_c (w.heap.size) 1 (by omega); simp [go_sem] at hb_k1; have hb_k2 := hb_c (w.heap.size) 2 (by omega); simp [go_sem] at hb_k2; have hb_k3 := hb_c (w.heap.size) 3 (by omega); simp [go_sem] at hb_k3); (have hb_r0 := hb_c (w.heap.size+1) 0 (by omega); simp [go_sem] at hb_r0; have hb_r1 := hb_c (w.heap.size+1) 1 (by omega); simp [go_sem] at hb_r1; have hb_r2 := hb_c (w.heap.size+1) 2 (by omega); simp [go_sem] at hb_r2; have hb_r3 := hb_c (w.heap.size+1) 3 (by omega); simp [go_sem] at hb_r3))
  refine bodyPost_ret (by simp [results, Try.results142, go_sem, hb_k0, hb_k1, hb_k2, hb_k3, hb_r0, hb_r1, hb_r2, hb_r3]) rfl ⟨rfl, ?_⟩
  (repeat (first | with_reducible exact Below.refl _ _ | with_reducible assumption | ((with_reducible refine Below.setCell ?_ ?hp _); case hp => (first | omega | (simp only [World.size_alloc, World.size_setCell, World.size_drew]; omega) | (simp; done) | (simp; omega))) | ((with_reducible refine Below.alloc ?_ ?hp _); case hp => (first | omega | (simp only [World.size_alloc, World.size_setCell, World.size_drew]; omega) | (simp; done) | (simp; omega))) | with_reducible refine Below.drew ?_ | with_reducible refine below_drewN ?_ _))

set_option maxHeartbeats 400000 in
theorem bare_5 (x : Insn) (hc : x.code < 65536) (hf : form x.code = 5) (w : World) :
    Calls Try.prog 142 #[(Value.agg #[.int .u16 x.code, .int .u8 x.jt, .int .u8 x.jf, .int .u32 x.k])] w fun e w' => e = .returned (.agg #[.int .u16 x.code, .int .u8 x.jt, .int .u8 x.jf, .int .u32 x.k]) ∧ Below w.heap.size w w' := by
  have HF := Lib.hid hf
  clear hf
  go_enter Try.func142, Try.ntmps142
  go_wp2_with (go_at_call 105; refine (form_any x.code hc _).mono ?_; rw [HF.out]; rintro e w' ⟨rfl, hb⟩; (obtain ⟨hb_c, hb_f⟩ := bcell hb; have hb_z := (hb).size; have hb_0 : Below w.heap.size w _ := Below.trans (by (repeat (first | with_reducible exact Below.refl _ _ | with_reducible assumption | ((with_reducible refine Below.setCell ?_ ?hp _); case hp => (first | omega | (simp only [World.size_alloc, World.size_setCell, World.size_drew]; omega) | (simp; done) | (simp; omega))) | ((with_reducible refine Below.alloc ?_ ?hp _); case hp => (first | omega | (simp only [World.size_alloc, World.size_setCell, World.size_drew]; omega) | (simp; done) | (simp; omega))) | with_reducible refine Below.drew ?_ | with_reducible refine below_drewN ?_ _))) ((hb).mono (by (first | omega | (simp only [World.size_alloc, World.size_setCell, World.size_drew]; omega) | (simp; done) | (simp; omega)))); (try simp only [World.size_alloc, World.size_setCell, World.size_drew] at hb_z hb_c hb_f); clear hb); (have hb_k0 := hb_c (w.heap.size) 0 (by omega); simp [go_sem] at hb_k0; have hb_k1 := hb_c (w.heap.size) 1 (by omega); simp [go_sem] at hb_k1; have hb_k2 := hb_c (w.heap.size) 2 (by omega); simp [go_sem] at hb_k2; have hb_k3 := hb_c (w.heap.size) 3 (by omega); simp [go_sem] at hb_k3); (have hb_r0 := hb_c (w.heap.size+1) 0 (by omega); simp [go_sem] at hb_r0; have hb_r1 := hb_c (w.heap.size+1) 1 (by omega); simp [go_sem] at hb_r1; have hb_r2 := hb_c (w.heap.size+1) 2 (by omega); simp [go_sem] at hb_r2; have hb_r3 := hb_c (w.heap.size+1) 3 (by omega); simp [go_sem] at hb_r3))
  refine bodyPost_ret (by simp [results, Try.results142, go_sem, hb_k0, hb_k1, hb_k2, hb_k3, hb_r0, hb_r1, hb_r2, hb_r3]) rfl ⟨rfl, ?_⟩
  (repeat (first | with_reducible exact Below.refl _ _ | with_reducible assumption | ((with_reducible refine Below.setCell ?_ ?hp _); case hp => (first | omega | (simp only [World.size_alloc, World.size_setCell, World.size_drew]; omega) | (simp; done) | (simp; omega))) | ((with_reducible refine Below.alloc ?_ ?hp _); case hp => (first | omega | (simp only [World.size_alloc, World.size_setCell, World.size_drew]; omega) | (simp; done) | (simp; omega))) | with_reducible refine Below.drew ?_ | with_reducible refine below_drewN ?_ _))

set_option maxHeartbeats 400000 in
theorem bare_6 (x : Insn) (hc : x.code < 65536) (hf : form x.code = 6) (w : World) :
    Calls Try.prog 142 #[(Value.agg #[.int .u16 x.code, .int .u8 x.jt, .int .u8 x.jf, .int .u32 x.k])] w fun e w' => e = .returned (.agg #[.int .u16 x.code, .int .u8 x.jt, .int .u8 x.jf, .int .u32 0]) ∧ Below w.heap.size w w' := by
  have HF := Lib.hid hf
  clear hf
  go_enter Try.func142, Try.ntmps142
  go_wp2_with (go_at_call 105; refine (form_any x.code hc _).mono ?_; rw [HF.out]; rintro e w' ⟨rfl, hb⟩; (obtain ⟨hb_c, hb_f⟩ := bcell hb; have hb_z := (hb).size; have hb_0 : Below w.heap.size w _ := Below.trans (by (repeat (first | with_reducible exact Below.refl _ _ | with_reducible assumption | ((with_reducible refine Below.setCell ?_ ?hp _); case hp => (first | omega | (simp only [World.size_alloc, World.size_setCell, World.size_drew]; omega) | (simp; done) | (simp; omega))) | ((with_reducible refine Below.alloc ?_ ?hp _); case hp => (first | omega | (simp only [World.size_alloc, World.size_setCell, World.size_drew]; omega) | (simp; done) | (simp; omega))) | with_reducible refine Below.drew ?_ | with_reducible refine below_drewN ?_ _))) ((hb).mono (by (first | omega | (simp only [World.size_alloc, World.size_setCell, World.size_drew]; omega) | (simp; done) | (simp; omega)))); (try simp only [World.size_alloc, World.size_setCell, World.size_drew] at hb_z hb_c hb_f); clear hb); (have hb_k0 := hb_c (w.heap.size) 0 (by omega); simp [go_sem] at hb_k0; have hb_k1 := hb_c (w.heap.size) 1 (by omega); simp [go_sem] at hb_k1; have hb_k2 := hb_c (w.heap.size) 2 (by omega); simp [go_sem] at hb_k2; have hb_k3 := hb_c (w.heap.size) 3 (by omega); simp [go_sem] at hb_k3); (have hb_r0 := hb_c (w.heap.size+1) 0 (by omega); simp [go_sem] at hb_r0; have hb_r1 := hb_c (w.heap.size+1) 1 (by omega); simp [go_sem] at hb_r1; have hb_r2 := hb_c (w.heap.size+1) 2 (by omega); simp [go_sem] at hb_r2; have hb_r3 := hb_c (w.heap.size+1) 3 (by omega); simp [go_sem] at hb_r3))
  refine bodyPost_ret (by simp [results, Try.results142, go_sem, hb_k0, hb_k1, hb_k2, hb_k3, hb_r0, hb_r1, hb_r2, hb_r3]) rfl ⟨rfl, ?_⟩
  (repeat (first | with_reducible exact Below.refl _ _ | with_reducible assumption | ((with_reducible refine Below.setCell ?_ ?hp _); case hp => (first | omega | (simp only [World.size_alloc, World.size_setCell, World.size_drew]; omega) | (simp; done) | (simp; omega))) | ((with_reducible refine Below.alloc ?_ ?hp _); case hp => (first | omega | (simp only [World.size_alloc, World.size_setCell, World.size_drew]; omega) | (simp; done) | (simp; omega))) | with_reducible refine Below.drew ?_ | with_reducible refine below_drewN ?_ _))

theorem bare_any (x : Insn) (hx : x.Ok) (w : World) :
    Calls Try.prog 142 #[(Value.agg #[.int .u16 x.code, .int .u8 x.jt, .int .u8 x.jf, .int .u32 x.k])] w fun e w' => e = .returned (Value.agg #[.int .u16 (bare x).code, .int .u8 (bare x).jt, .int .u8 (bare x).jf, .int .u32 (bare x).k]) ∧ Below w.heap.size w w' := by
  have hc := hx.code
  rcases form_vals x.code with hf | hf | hf | hf | hf | hf | hf | hf
  · rw [show bare x = x by unfold bare; simp [hf]]; exact bare_m1 x hc hf w
  · rw [show bare x = ⟨x.code, 0, 0, 0⟩ by unfold bare; simp [hf]]; exact bare_0 x hc hf w
  · rw [show bare x = ⟨x.code, 0, 0, x.k⟩ by unfold bare; simp [hf]]; exact bare_1 x hc hf w
  · rw [show bare x = ⟨x.code, 0, 0, x.k⟩ by unfold bare; simp [hf]]; exact bare_2 x hc hf w
  · rw [show bare x = ⟨x.code, 0, 0, x.k⟩ by unfold bare; simp [hf]]; exact bare_3 x hc hf w
  · rw [show bare x = ⟨x.code, 0, 0, x.k⟩ by unfold bare; simp [hf]]; exact bare_4 x hc hf w
  · rw [show bare x = x by unfold bare; simp [hf]]; exact bare_5 x hc hf w
  · rw [show bare x = ⟨x.code, x.jt, x.jf, 0⟩ by unfold bare; simp [hf]]; exact bare_6 x hc hf w

end Go.Proofs.Ytfjbanfibmpalaa

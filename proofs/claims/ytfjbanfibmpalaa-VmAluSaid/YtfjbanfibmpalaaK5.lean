/- Contracts of the reference's Name, Form, One. -/
import Derived.Test.YtfjbanfibmpalaaK4
set_option linter.unusedVariables false
set_option linter.unusedSimpArgs false
namespace Go.Proofs.Ytfjbanfibmpalaa
open Go.RowKit

theorem named_form (c : Nat) (hc : c < 256) : (named c).2 = form c ∧ (named c).1.toList.isEmpty = decide (form c < 0) := by
  have : ∀ c : Fin 256, (named c.val).2 = form c.val ∧ (named c.val).1.toList.isEmpty = decide (form c.val < 0) := by decide +kernel
  exact this ⟨c, hc⟩

set_option maxHeartbeats 400000 in
theorem rname_any (c : Nat) (hc : c < 65536) (w : World) :
    Calls Try.prog 69 #[.int .u16 c] w fun e w' => e = .returned (.tuple #[.string (nameOf c), .bool (decide (0 ≤ form c))]) ∧ Below w.heap.size w w' := by
  unfold nameOf
  by_cases h : c < 256
  · rw [if_pos h]
    have hf := Lib.hid (named_form c h).2
    go_enter Try.func69, Try.ntmps69
    go_wp2_with (go_at_call 118; refine (named_any c h _).mono ?_; rintro e w' ⟨rfl, hb⟩)
    go_ret2
    refine ⟨?_, hb⟩
    show Ending.returned (.tuple #[.string (named c).1, .bool (!(named c).1.toList.isEmpty)]) = _
    rw [hf.out]
    by_cases h0 : form c < 0 <;> simp [h0] <;> omega
  · rw [if_neg h, form_big c (by omega)]
    go_enter Try.func69, Try.ntmps69
    go_wp2
    go_ret2
    exact ⟨rfl, Below.refl _ _⟩

set_option maxHeartbeats 400000 in
theorem rform_any (c : Nat) (hc : c < 65536) (w : World) :
    Calls Try.prog 97 #[.int .u16 c] w fun e w' => e = .returned (.int .i64 (form c)) ∧ Below w.heap.size w w' := by
  by_cases h : c < 256
  · have hf := Lib.hid (named_form c h).1
    go_enter Try.func97, Try.ntmps97
    go_wp2_with (go_at_call 118; refine (named_any c h _).mono ?_; rw [hf.out]; rintro e w' ⟨rfl, hb⟩)
    go_ret
    exact ⟨rfl, hb⟩
  · rw [form_big c (by omega)]
    go_enter Try.func97, Try.ntmps97
    go_wp2
    go_ret
    exact ⟨rfl, Below.refl _ _⟩

set_option maxHeartbeats 400000 in
theorem rreturns_any (c a b k : Nat) (w : World) :
    Calls Try.prog 58 #[.agg #[.int .u16 c, .int .u8 a, .int .u8 b, .int .u32 k]] w fun e w' => e = .returned (.bool (isRet c)) ∧ Below w.heap.size w w' := by
  go_enter Try.func58, Try.ntmps58
  go_wp2
  all_goals
    go_ret
    go_light
    refine ⟨?_, by (repeat (first | with_reducible exact Below.refl _ _ | with_reducible assumption | ((with_reducible refine Below.setCell ?_ ?hp _); case hp => (first | omega | (simp only [World.size_alloc, World.size_setCell, World.size_drew]; omega) | (simp; done) | (simp; omega))) | ((with_reducible refine Below.alloc ?_ ?hp _); case hp => (first | omega | (simp only [World.size_alloc, World.size_setCell, World.size_drew]; omega) | (simp; done) | (simp; omega))) | with_reducible refine Below.drew ?_ | with_reducible refine below_drewN ?_ _))⟩
    unfold isRet
    first
      | (show Ending.returned (Value.bool true) = _; rw [show c = 6 by omega]; rfl)
      | (show Ending.returned (Value.bool _) = _; congr 2; rw [Bool.eq_iff_iff]; simp; omega)

theorem name_tests (c : Nat) (hc : c < 65536) (h : c ≠ 32 ∧ c ≠ 52 ∧ c ≠ 100 ∧ c ≠ 116) :
    ¬ (nameOf c).toList = [108, 100, 46, 97, 98, 115] ∧ ¬ (nameOf c).toList = [100, 105, 118, 46, 107] ∧ ¬ (nameOf c).toList = [108, 115, 104, 46, 107] ∧ ¬ (nameOf c).toList = [114, 115, 104, 46, 107] := by
  by_cases hc : c < 256
  · have : ∀ c : Fin 256, c.val ≠ 32 ∧ c.val ≠ 52 ∧ c.val ≠ 100 ∧ c.val ≠ 116 → ¬ (nameOf c.val).toList = [108, 100, 46, 97, 98, 115] ∧ ¬ (nameOf c.val).toList = [100, 105, 118, 46, 107] ∧ ¬ (nameOf c.val).toList = [108, 115, 104, 46, 107] ∧ ¬ (nameOf c.val).toList = [114, 115, 104, 46, 107] := by decide +kernel
    exact this ⟨c, hc⟩ h
  · unfold nameOf; rw [if_neg hc]; exact ⟨by decide +kernel, by decide +kernel, by decide +kernel, by decide +kernel⟩

set_option maxHeartbeats 400000 in
theorem rone_fm1y (x : Insn) (hx : x.Ok) (i n : Nat) (w : World) (hn : n ≤ 1000000) (hi : i ≤ 1000000) (hf : form x.code = -1) (hcc : x.code ≠ 32 ∧ x.code ≠ 52 ∧ x.code ≠ 100 ∧ x.code ≠ 116) (hbh : i + 1 < n) :
    Calls Try.prog 57 #[(Value.agg #[.int .u16 x.code, .int .u8 x.jt, .int .u8 x.jf, .int .u32 x.k]), .int .i64 i, .int .i64 n] w fun e w' => e = .returned (.int .i64 (one x i n)) ∧ Below w.heap.size w w' := by
  have hc := hx.code
  have hk := hx.k
  have hjt := hx.jt
  have hjf := hx.jf
  have hBe := Lib.hid (show behind i n = n - 1 - i by unfold behind; rw [if_pos hbh])
  have HF := Lib.hid hf
  obtain ⟨q1, q2, q3, q4⟩ := name_tests x.code hc hcc
  have HC := Lib.hid hcc
  clear hf hcc
  go_enter Try.func57, Try.ntmps57
  go_wp2_with (first | (go_at_call 69; refine (rname_any x.code hc _).mono ?_; rw [HF.out]; rintro e w' ⟨rfl, hb⟩; (obtain ⟨hb_c, hb_f⟩ := bcell hb; have hb_z := (hb).size; have hb_0 : Below w.heap.size w _ := Below.trans (by (repeat (first | with_reducible exact Below.refl _ _ | with_reducible assumption | ((with_reducible refine Below.setCell ?_ ?hp _); case hp => (first | omega | (simp only [World.size_alloc, World.size_setCell, World.size_drew]; omega) | (simp; done) | (simp; omega))) | ((with_reducible refine Below.alloc ?_ ?hp _); case hp => (first | omega | (simp only [World.size_alloc, World.size_setCell, World.size_drew]; omega) | (simp; done) | (simp; omega))) | with_reducible refine Below.drew ?_ | with_reducible refine below_drewN ?_ _))) ((hb).mono (by (first | omega | (simp only [World.size_alloc, World.size_setCell, World.size_drew]; omega) | (simp; done) | (simp; omega)))); (try simp only [World.size_alloc, World.size_setCell, World.size_drew] at hb_z hb_c hb_f); clear hb); (have hb_k0 := hb_c (w.heap.size) 0 (by omega); simp [go_sem] at hb_k0; have hb_k1 := hb_c (w.heap.size) 1 (by omega); simp [go_sem] at hb_k1; have hb_k2 := hb_c (w.heap.size) 2 (by omega); simp [go_sem] at hb_k2; have hb_k3 := hb_c (w.heap.size) 3 (by omega); simp [go_sem] at hb_k3)) | (go_at_call 97; refine (rform_any x.code hc _).mono ?_; rw [HF.out]; rintro e w'' ⟨rfl, hd⟩; (obtain ⟨hd_c, hd_f⟩ := bcell hd; have hd_z := (hd).size; have hd_0 : Below w.heap.size w _ := Below.trans (by (repeat (first | with_reducible exact Below.refl _ _ | with_reducible assumption | ((with_reducible refine Below.setCell ?_ ?hp _); case hp => (first | omega | (simp only [World.size_alloc, World.size_setCell, World.size_drew]; omega) | (simp; done) | (simp; omega))) | ((with_reducible refine Below.alloc ?_ ?hp _); case hp => (first | omega | (simp only [World.size_alloc, World.size_setCell, World.size_drew]; omega) | (simp; done) | (simp; omega))) | with_reducible refine Below.drew ?_ | with_reducible refine below_drewN ?_ _))) ((hd).mono (by (first | omega | (simp only [World.size_alloc, World.size_setCell, World.size_drew]; omega) | (simp; done) | (simp; omega)))); (try simp only [World.size_alloc, World.size_setCell, World.size_drew] at hd_z hd_c hd_f); clear hd); have hd_k1 := (hd_c w.heap.size 1 (by omega)).trans hb_k1; have hd_k2 := (hd_c w.heap.size 2 (by omega)).trans hb_k2; have hd_k3 := (hd_c w.heap.size 3 (by omega)).trans hb_k3))
  all_goals
    go_ret
    go_light
    refine ⟨?_, by (repeat (first | with_reducible exact Below.refl _ _ | with_reducible assumption | ((with_reducible refine Below.setCell ?_ ?hp _); case hp => (first | omega | (simp only [World.size_alloc, World.size_setCell, World.size_drew]; omega) | (simp; done) | (simp; omega))) | ((with_reducible refine Below.alloc ?_ ?hp _); case hp => (first | omega | (simp only [World.size_alloc, World.size_setCell, World.size_drew]; omega) | (simp; done) | (simp; omega))) | with_reducible refine Below.drew ?_ | with_reducible refine below_drewN ?_ _))⟩
    simp only [beq_iff_eq, beq_eq_false_iff_ne, ne_eq, decide_eq_true_eq, decide_eq_false_iff_not, Bool.not_eq_true', Bool.not_eq_false'] at *
    first
      | rfl
      | (show Ending.returned (.int .i64 _) = .returned (.int .i64 (one x i n))
         congr 2
         unfold one
         rw [HF.out, hBe.out]
         have hcc := HC.out
         repeat (first | rw [if_pos (by omega)] | rw [if_neg (by omega)]))

set_option maxHeartbeats 400000 in
theorem rone_fm1n (x : Insn) (hx : x.Ok) (i n : Nat) (w : World) (hn : n ≤ 1000000) (hi : i ≤ 1000000) (hf : form x.code = -1) (hcc : x.code ≠ 32 ∧ x.code ≠ 52 ∧ x.code ≠ 100 ∧ x.code ≠ 116) (hbh : ¬ i + 1 < n) :
    Calls Try.prog 57 #[(Value.agg #[.int .u16 x.code, .int .u8 x.jt, .int .u8 x.jf, .int .u32 x.k]), .int .i64 i, .int .i64 n] w fun e w' => e = .returned (.int .i64 (one x i n)) ∧ Below w.heap.size w w' := by
  have hc := hx.code
  have hk := hx.k
  have hjt := hx.jt
  have hjf := hx.jf
  have hBe := Lib.hid (show behind i n = 0 by unfold behind; rw [if_neg hbh])
  have HF := Lib.hid hf
  obtain ⟨q1, q2, q3, q4⟩ := name_tests x.code hc hcc
  have HC := Lib.hid hcc
  clear hf hcc
  go_enter Try.func57, Try.ntmps57
  go_wp2_with (first | (go_at_call 69; refine (rname_any x.code hc _).mono ?_; rw [HF.out]; rintro e w' ⟨rfl, hb⟩; (obtain ⟨hb_c, hb_f⟩ := bcell hb; have hb_z := (hb).size; have hb_0 : Below w.heap.size w _ := Below.trans (by (repeat (first | with_reducible exact Below.refl _ _ | with_reducible assumption | ((with_reducible refine Below.setCell ?_ ?hp _); case hp => (first | omega | (simp only [World.size_alloc, World.size_setCell, World.size_drew]; omega) | (simp; done) | (simp; omega))) | ((with_reducible refine Below.alloc ?_ ?hp _); case hp => (first | omega | (simp only [World.size_alloc, World.size_setCell, World.size_drew]; omega) | (simp; done) | (simp; omega))) | with_reducible refine Below.drew ?_ | with_reducible refine below_drewN ?_ _))) ((hb).mono (by (first | omega | (simp only [World.size_alloc, World.size_setCell, World.size_drew]; omega) | (simp; done) | (simp; omega)))); (try simp only [World.size_alloc, World.size_setCell, World.size_drew] at hb_z hb_c hb_f); clear hb); (have hb_k0 := hb_c (w.heap.size) 0 (by omega); simp [go_sem] at hb_k0; have hb_k1 := hb_c (w.heap.size) 1 (by omega); simp [go_sem] at hb_k1; have hb_k2 := hb_c (w.heap.size) 2 (by omega); simp [go_sem] at hb_k2; have hb_k3 := hb_c (w.heap.size) 3 (by omega); simp [go_sem] at hb_k3)) | (go_at_call 97; refine (rform_any x.code hc _).mono ?_; rw [HF.out]; rintro e w'' ⟨rfl, hd⟩; (obtain ⟨hd_c, hd_f⟩ := bcell hd; have hd_z := (hd).size; have hd_0 : Below w.heap.size w _ := Below.trans (by (repeat (first | with_reducible exact Below.refl _ _ | with_reducible assumption | ((with_reducible refine Below.setCell ?_ ?hp _); case hp => (first | omega | (simp only [World.size_alloc, World.size_setCell, World.size_drew]; omega) | (simp; done) | (simp; omega))) | ((with_reducible refine Below.alloc ?_ ?hp _); case hp => (first | omega | (simp only [World.size_alloc, World.size_setCell, World.size_drew]; omega) | (simp; done) | (simp; omega))) | with_reducible refine Below.drew ?_ | with_reducible refine below_drewN ?_ _))) ((hd).mono (by (first | omega | (simp only [World.size_alloc, World.size_setCell, World.size_drew]; omega) | (simp; done) | (simp; omega)))); (try simp only [World.size_alloc, World.size_setCell, World.size_drew] at hd_z hd_c hd_f); clear hd); have hd_k1 := (hd_c w.heap.size 1 (by omega)).trans hb_k1; have hd_k2 := (hd_c w.heap.size 2 (by omega)).trans hb_k2; have hd_k3 := (hd_c w.heap.size 3 (by omega)).trans hb_k3))
  all_goals
    go_ret
    go_light
    refine ⟨?_, by (repeat (first | with_reducible exact Below.refl _ _ | with_reducible assumption | ((with_reducible refine Below.setCell ?_ ?hp _); case hp => (first | omega | (simp only [World.size_alloc, World.size_setCell, World.size_drew]; omega) | (simp; done) | (simp; omega))) | ((with_reducible refine Below.alloc ?_ ?hp _); case hp => (first | omega | (simp only [World.size_alloc, World.size_setCell, World.size_drew]; omega) | (simp; done) | (simp; omega))) | with_reducible refine Below.drew ?_ | with_reducible refine below_drewN ?_ _))⟩
    simp only [beq_iff_eq, beq_eq_false_iff_ne, ne_eq, decide_eq_true_eq, decide_eq_false_iff_not, Bool.not_eq_true', Bool.not_eq_false'] at *
    first
      | rfl
      | (show Ending.returned (.int .i64 _) = .returned (.int .i64 (one x i n))
         congr 2
         unfold one
         rw [HF.out, hBe.out]
         have hcc := HC.out
         repeat (first | rw [if_pos (by omega)] | rw [if_neg (by omega)]))

set_option maxHeartbeats 400000 in
theorem rone_f0y (x : Insn) (hx : x.Ok) (i n : Nat) (w : World) (hn : n ≤ 1000000) (hi : i ≤ 1000000) (hf : form x.code = 0) (hcc : x.code ≠ 32 ∧ x.code ≠ 52 ∧ x.code ≠ 100 ∧ x.code ≠ 116) (hbh : i + 1 < n) :
    Calls Try.prog 57 #[(Value.agg #[.int .u16 x.code, .int .u8 x.jt, .int .u8 x.jf, .int .u32 x.k]), .int .i64 i, .int .i64 n] w fun e w' => e = .returned (.int .i64 (one x i n)) ∧ Below w.heap.size w w' := by
  have hc := hx.code
  have hk := hx.k
  have hjt := hx.jt
  have hjf := hx.jf
  have hBe := Lib.hid (show behind i n = n - 1 - i by unfold behind; rw [if_pos hbh])
  have HF := Lib.hid hf
  obtain ⟨q1, q2, q3, q4⟩ := name_tests x.code hc hcc
  have HC := Lib.hid hcc
  clear hf hcc
  go_enter Try.func57, Try.ntmps57
  go_wp2_with (first | (go_at_call 69; refine (rname_any x.code hc _).mono ?_; rw [HF.out]; rintro e w' ⟨rfl, hb⟩; (obtain ⟨hb_c, hb_f⟩ := bcell hb; have hb_z := (hb).size; have hb_0 : Below w.heap.size w _ := Below.trans (by (repeat (first | with_reducible exact Below.refl _ _ | with_reducible assumption | ((with_reducible refine Below.setCell ?_ ?hp _); case hp => (first | omega | (simp only [World.size_alloc, World.size_setCell, World.size_drew]; omega) | (simp; done) | (simp; omega))) | ((with_reducible refine Below.alloc ?_ ?hp _); case hp => (first | omega | (simp only [World.size_alloc, World.size_setCell, World.size_drew]; omega) | (simp; done) | (simp; omega))) | with_reducible refine Below.drew ?_ | with_reducible refine below_drewN ?_ _))) ((hb).mono (by (first | omega | (simp only [World.size_alloc, World.size_setCell, World.size_drew]; omega) | (simp; done) | (simp; omega)))); (try simp only [World.size_alloc, World.size_setCell, World.size_drew] at hb_z hb_c hb_f); clear hb); (have hb_k0 := hb_c (w.heap.size) 0 (by omega); simp [go_sem] at hb_k0; have hb_k1 := hb_c (w.heap.size) 1 (by omega); simp [go_sem] at hb_k1; have hb_k2 := hb_c (w.heap.size) 2 (by omega); simp [go_sem] at hb_k2; have hb_k3 := hb_c (w.heap.size) 3 (by omega); simp [go_sem] at hb_k3)) | (go_at_call 97; refine (rform_any x.code hc _).mono ?_; rw [HF.out]; rintro e w'' ⟨rfl, hd⟩; (obtain ⟨hd_c, hd_f⟩ := bcell hd; have hd_z := (hd).size; have hd_0 : Below w.heap.size w _ := Below.trans (by (repeat (first | with_reducible exact Below.refl _ _ | with_reducible assumption | ((with_reducible refine Below.setCell ?_ ?hp _); case hp => (first | omega | (simp only [World.size_alloc, World.size_setCell, World.size_drew]; omega) | (simp; done) | (simp; omega))) | ((with_reducible refine Below.alloc ?_ ?hp _); case hp => (first | omega | (simp only [World.size_alloc, World.size_setCell, World.size_drew]; omega) | (simp; done) | (simp; omega))) | with_reducible refine Below.drew ?_ | with_reducible refine below_drewN ?_ _))) ((hd).mono (by (first | omega | (simp only [World.size_alloc, World.size_setCell, World.size_drew]; omega) | (simp; done) | (simp; omega)))); (try simp only [World.size_alloc, World.size_setCell, World.size_drew] at hd_z hd_c hd_f); clear hd); have hd_k1 := (hd_c w.heap.size 1 (by omega)).trans hb_k1; have hd_k2 := (hd_c w.heap.size 2 (by omega)).trans hb_k2; have hd_k3 := (hd_c w.heap.size 3 (by omega)).trans hb_k3))
  all_goals
    go_ret
    go_light
    refine ⟨?_, by (repeat (first | with_reducible exact Below.refl _ _ | with_reducible assumption | ((with_reducible refine Below.setCell ?_ ?hp _); case hp => (first | omega | (simp only [World.size_alloc, World.size_setCell, World.size_drew]; omega) | (simp; done) | (simp; omega))) | ((with_reducible refine Below.alloc ?_ ?hp _); case hp => (first | omega | (simp only [World.size_alloc, World.size_setCell, World.size_drew]; omega) | (simp; done) | (simp; omega))) | with_reducible refine Below.drew ?_ | with_reducible refine below_drewN ?_ _))⟩
    simp only [beq_iff_eq, beq_eq_false_iff_ne, ne_eq, decide_eq_true_eq, decide_eq_false_iff_not, Bool.not_eq_true', Bool.not_eq_false'] at *
    first
      | rfl
      | (show Ending.returned (.int .i64 _) = .returned (.int .i64 (one x i n))
         congr 2
         unfold one
         rw [HF.out, hBe.out]
         have hcc := HC.out
         repeat (first | rw [if_pos (by omega)] | rw [if_neg (by omega)]))

set_option maxHeartbeats 400000 in
theorem rone_f0n (x : Insn) (hx : x.Ok) (i n : Nat) (w : World) (hn : n ≤ 1000000) (hi : i ≤ 1000000) (hf : form x.code = 0) (hcc : x.code ≠ 32 ∧ x.code ≠ 52 ∧ x.code ≠ 100 ∧ x.code ≠ 116) (hbh : ¬ i + 1 < n) :
    Calls Try.prog 57 #[(Value.agg #[.int .u16 x.code, .int .u8 x.jt, .int .u8 x.jf, .int .u32 x.k]), .int .i64 i, .int .i64 n] w fun e w' => e = .returned (.int .i64 (one x i n)) ∧ Below w.heap.size w w' := by
  have hc := hx.code
  have hk := hx.k
  have hjt := hx.jt
  have hjf := hx.jf
  have hBe := Lib.hid (show behind i n = 0 by unfold behind; rw [if_neg hbh])
  have HF := Lib.hid hf
  obtain ⟨q1, q2, q3, q4⟩ := name_tests x.code hc hcc
  have HC := Lib.hid hcc
  clear hf hcc
  go_enter Try.func57, Try.ntmps57
  go_wp2_with (first | (go_at_call 69; refine (rname_any x.code hc _).mono ?_; rw [HF.out]; rintro e w' ⟨rfl, hb⟩; (obtain ⟨hb_c, hb_f⟩ := bcell hb; have hb_z := (hb).size; have hb_0 : Below w.heap.size w _ := Below.trans (by (repeat (first | with_reducible exact Below.refl _ _ | with_reducible assumption | ((with_reducible refine Below.setCell ?_ ?hp _); case hp => (first | omega | (simp only [World.size_alloc, World.size_setCell, World.size_drew]; omega) | (simp; done) | (simp; omega))) | ((with_reducible refine Below.alloc ?_ ?hp _); case hp => (first | omega | (simp only [World.size_alloc, World.size_setCell, World.size_drew]; omega) | (simp; done) | (simp; omega))) | with_reducible refine Below.drew ?_ | with_reducible refine below_drewN ?_ _))) ((hb).mono (by (first | omega | (simp only [World.size_alloc, World.size_setCell, World.size_drew]; omega) | (simp; done) | (simp; omega)))); (try simp only [World.size_alloc, World.size_setCell, World.size_drew] at hb_z hb_c hb_f); clear hb); (have hb_k0 := hb_c (w.heap.size) 0 (by omega); simp [go_sem] at hb_k0; have hb_k1 := hb_c (w.heap.size) 1 (by omega); simp [go_sem] at hb_k1; have hb_k2 := hb_c (w.heap.size) 2 (by omega); simp [go_sem] at hb_k2; have hb_k3 := hb_c (w.heap.size) 3 (by omega); simp [go_sem] at hb_k3)) | (go_at_call 97; refine (rform_any x.code hc _).mono ?_; rw [HF.out]; rintro e w'' ⟨rfl, hd⟩; (obtain ⟨hd_c, hd_f⟩ := bcell hd; have hd_z := (hd).size; have hd_0 : Below w.heap.size w _ := Below.trans (by (repeat (first | with_reducible exact Below.refl _ _ | with_reducible assumption | ((with_reducible refine Below.setCell ?_ ?hp _); case hp => (first | omega | (simp only [World.size_alloc, World.size_setCell, World.size_drew]; omega) | (simp; done) | (simp; omega))) | ((with_reducible refine Below.alloc ?_ ?hp _); case hp => (first | omega | (simp only [World.size_alloc, World.size_setCell, World.size_drew]; omega) | (simp; done) | (simp; omega))) | with_reducible refine Below.drew ?_ | with_reducible refine below_drewN ?_ _))) ((hd).mono (by (first | omega | (simp only [World.size_alloc, World.size_setCell, World.size_drew]; omega) | (simp; done) | (simp; omega)))); (try simp only [World.size_alloc, World.size_setCell, World.size_drew] at hd_z hd_c hd_f); clear hd); have hd_k1 := (hd_c w.heap.size 1 (by omega)).trans hb_k1; have hd_k2 := (hd_c w.heap.size 2 (by omega)).trans hb_k2; have hd_k3 := (hd_c w.heap.size 3 (by omega)).trans hb_k3))
  all_goals
    go_ret
    go_light
    refine ⟨?_, by (repeat (first | with_reducible exact Below.refl _ _ | with_reducible assumption | ((with_reducible refine Below.setCell ?_ ?hp _); case hp => (first | omega | (simp only [World.size_alloc, World.size_setCell, World.size_drew]; omega) | (simp; done) | (simp; omega))) | ((with_reducible refine Below.alloc ?_ ?hp _); case hp => (first | omega | (simp only [World.size_alloc, World.size_setCell, World.size_drew]; omega) | (simp; done) | (simp; omega))) | with_reducible refine Below.drew ?_ | with_reducible refine below_drewN ?_ _))⟩
    simp only [beq_iff_eq, beq_eq_false_iff_ne, ne_eq, decide_eq_true_eq, decide_eq_false_iff_not, Bool.not_eq_true', Bool.not_eq_false'] at *
    first
      | rfl
      | (show Ending.returned (.int .i64 _) = .returned (.int .i64 (one x i n))
         congr 2
         unfold one
         rw [HF.out, hBe.out]
         have hcc := HC.out
         repeat (first | rw [if_pos (by omega)] | rw [if_neg (by omega)]))

set_option maxHeartbeats 400000 in
theorem rone_f1y (x : Insn) (hx : x.Ok) (i n : Nat) (w : World) (hn : n ≤ 1000000) (hi : i ≤ 1000000) (hf : form x.code = 1) (hcc : x.code ≠ 32 ∧ x.code ≠ 52 ∧ x.code ≠ 100 ∧ x.code ≠ 116) (hbh : i + 1 < n) :
    Calls Try.prog 57 #[(Value.agg #[.int .u16 x.code, .int .u8 x.jt, .int .u8 x.jf, .int .u32 x.k]), .int .i64 i, .int .i64 n] w fun e w' => e = .returned (.int .i64 (one x i n)) ∧ Below w.heap.size w w' := by
  have hc := hx.code
  have hk := hx.k
  have hjt := hx.jt
  have hjf := hx.jf
  have hBe := Lib.hid (show behind i n = n - 1 - i by unfold behind; rw [if_pos hbh])
  have HF := Lib.hid hf
  obtain ⟨q1, q2, q3, q4⟩ := name_tests x.code hc hcc
  have HC := Lib.hid hcc
  clear hf hcc
  go_enter Try.func57, Try.ntmps57
  go_wp2_with (first | (go_at_call 69; refine (rname_any x.code hc _).mono ?_; rw [HF.out]; rintro e w' ⟨rfl, hb⟩; (obtain ⟨hb_c, hb_f⟩ := bcell hb; have hb_z := (hb).size; have hb_0 : Below w.heap.size w _ := Below.trans (by (repeat (first | with_reducible exact Below.refl _ _ | with_reducible assumption | ((with_reducible refine Below.setCell ?_ ?hp _); case hp => (first | omega | (simp only [World.size_alloc, World.size_setCell, World.size_drew]; omega) | (simp; done) | (simp; omega))) | ((with_reducible refine Below.alloc ?_ ?hp _); case hp => (first | omega | (simp only [World.size_alloc, World.size_setCell, World.size_drew]; omega) | (simp; done) | (simp; omega))) | with_reducible refine Below.drew ?_ | with_reducible refine below_drewN ?_ _))) ((hb).mono (by (first | omega | (simp only [World.size_alloc, World.size_setCell, World.size_drew]; omega) | (simp; done) | (simp; omega)))); (try simp only [World.size_alloc, World.size_setCell, World.size_drew] at hb_z hb_c hb_f); clear hb); (have hb_k0 := hb_c (w.heap.size) 0 (by omega); simp [go_sem] at hb_k0; have hb_k1 := hb_c (w.heap.size) 1 (by omega); simp [go_sem] at hb_k1; have hb_k2 := hb_c (w.heap.size) 2 (by omega); simp [go_sem] at hb_k2; have hb_k3 := hb_c (w.heap.size) 3 (by omega); simp [go_sem] at hb_k3)) | (go_at_call 97; refine (rform_any x.code hc _).mono ?_; rw [HF.out]; rintro e w'' ⟨rfl, hd⟩; (obtain ⟨hd_c, hd_f⟩ := bcell hd; have hd_z := (hd).size; have hd_0 : Below w.heap.size w _ := Below.trans (by (repeat (first | with_reducible exact Below.refl _ _ | with_reducible assumption | ((with_reducible refine Below.setCell ?_ ?hp _); case hp => (first | omega | (simp only [World.size_alloc, World.size_setCell, World.size_drew]; omega) | (simp; done) | (simp; omega))) | ((with_reducible refine Below.alloc ?_ ?hp _); case hp => (first | omega | (simp only [World.size_alloc, World.size_setCell, World.size_drew]; omega) | (simp; done) | (simp; omega))) | with_reducible refine Below.drew ?_ | with_reducible refine below_drewN ?_ _))) ((hd).mono (by (first | omega | (simp only [World.size_alloc, World.size_setCell, World.size_drew]; omega) | (simp; done) | (simp; omega)))); (try simp only [World.size_alloc, World.size_setCell, World.size_drew] at hd_z hd_c hd_f); clear hd); have hd_k1 := (hd_c w.heap.size 1 (by omega)).trans hb_k1; have hd_k2 := (hd_c w.heap.size 2 (by omega)).trans hb_k2; have hd_k3 := (hd_c w.heap.size 3 (by omega)).trans hb_k3))
  all_goals
    go_ret
    go_light
    refine ⟨?_, by (repeat (first | with_reducible exact Below.refl _ _ | with_reducible assumption | ((with_reducible refine Below.setCell ?_ ?hp _); case hp => (first | omega | (simp only [World.size_alloc, World.size_setCell, World.size_drew]; omega) | (simp; done) | (simp; omega))) | ((with_reducible refine Below.alloc ?_ ?hp _); case hp => (first | omega | (simp only [World.size_alloc, World.size_setCell, World.size_drew]; omega) | (simp; done) | (simp; omega))) | with_reducible refine Below.drew ?_ | with_reducible refine below_drewN ?_ _))⟩
    simp only [beq_iff_eq, beq_eq_false_iff_ne, ne_eq, decide_eq_true_eq, decide_eq_false_iff_not, Bool.not_eq_true', Bool.not_eq_false'] at *
    first
      | rfl
      | (show Ending.returned (.int .i64 _) = .returned (.int .i64 (one x i n))
         congr 2
         unfold one
         rw [HF.out, hBe.out]
         have hcc := HC.out
         repeat (first | rw [if_pos (by omega)] | rw [if_neg (by omega)]))

set_option maxHeartbeats 400000 in
theorem rone_f1n (x : Insn) (hx : x.Ok) (i n : Nat) (w : World) (hn : n ≤ 1000000) (hi : i ≤ 1000000) (hf : form x.code = 1) (hcc : x.code ≠ 32 ∧ x.code ≠ 52 ∧ x.code ≠ 100 ∧ x.code ≠ 116) (hbh : ¬ i + 1 < n) :
    Calls Try.prog 57 #[(Value.agg #[.int .u16 x.code, .int .u8 x.jt, .int .u8 x.jf, .int .u32 x.k]), .int .i64 i, .int .i64 n] w fun e w' => e = .returned (.int .i64 (one x i n)) ∧ Below w.heap.size w w' := by
  have hc := hx.code
  have hk := hx.k
  have hjt := hx.jt
  have hjf := hx.jf
  have hBe := Lib.hid (show behind i n = 0 by unfold behind; rw [if_neg hbh])
  have HF := Lib.hid hf
  obtain ⟨q1, q2, q3, q4⟩ := name_tests x.code hc hcc
  have HC := Lib.hid hcc
  clear hf hcc
  go_enter Try.func57, Try.ntmps57
  go_wp2_with (first | (go_at_call 69; refine (rname_any x.code hc _).mono ?_; rw [HF.out]; rintro e w' ⟨rfl, hb⟩; (obtain ⟨hb_c, hb_f⟩ := bcell hb; have hb_z := (hb).size; have hb_0 : Below w.heap.size w _ := Below.trans (by (repeat (first | with_reducible exact Below.refl _ _ | with_reducible assumption | ((with_reducible refine Below.setCell ?_ ?hp _); case hp => (first | omega | (simp only [World.size_alloc, World.size_setCell, World.size_drew]; omega) | (simp; done) | (simp; omega))) | ((with_reducible refine Below.alloc ?_ ?hp _); case hp => (first | omega | (simp only [World.size_alloc, World.size_setCell, World.size_drew]; omega) | (simp; done) | (simp; omega))) | with_reducible refine Below.drew ?_ | with_reducible refine below_drewN ?_ _))) ((hb).mono (by (first | omega | (simp only [World.size_alloc, World.size_setCell, World.size_drew]; omega) | (simp; done) | (simp; omega)))); (try simp only [World.size_alloc, World.size_setCell, World.size_drew] at hb_z hb_c hb_f); clear hb); (have hb_k0 := hb_c (w.heap.size) 0 (by omega); simp [go_sem] at hb_k0; have hb_k1 := hb_c (w.heap.size) 1 (by omega); simp [go_sem] at hb_k1; have hb_k2 := hb_c (w.heap.size) 2 (by omega); simp [go_sem] at hb_k2; have hb_k3 := hb_c (w.heap.size) 3 (by omega); simp [go_sem] at hb_k3)) | (go_at_call 97; refine (rform_any x.code hc _).mono ?_; rw [HF.out]; rintro e w'' ⟨rfl, hd⟩; (obtain ⟨hd_c, hd_f⟩ := bcell hd; have hd_z := (hd).size; have hd_0 : Below w.heap.size w _ := Below.trans (by (repeat (first | with_reducible exact Below.refl _ _ | with_reducible assumption | ((with_reducible refine Below.setCell ?_ ?hp _); case hp => (first | omega | (simp only [World.size_alloc, World.size_setCell, World.size_drew]; omega) | (simp; done) | (simp; omega))) | ((with_reducible refine Below.alloc ?_ ?hp _); case hp => (first | omega | (simp only [World.size_alloc, World.size_setCell, World.size_drew]; omega) | (simp; done) | (simp; omega))) | with_reducible refine Below.drew ?_ | with_reducible refine below_drewN ?_ _))) ((hd).mono (by (first | omega | (simp only [World.size_alloc, World.size_setCell, World.size_drew]; omega) | (simp; done) | (simp; omega)))); (try simp only [World.size_alloc, World.size_setCell, World.size_drew] at hd_z hd_c hd_f); clear hd); have hd_k1 := (hd_c w.heap.size 1 (by omega)).trans hb_k1; have hd_k2 := (hd_c w.heap.size 2 (by omega)).trans hb_k2; have hd_k3 := (hd_c w.heap.size 3 (by omega)).trans hb_k3))
  all_goals
    go_ret
    go_light
    refine ⟨?_, by (repeat (first | with_reducible exact Below.refl _ _ | with_reducible assumption | ((with_reducible refine Below.setCell ?_ ?hp _); case hp => (first | omega | (simp only [World.size_alloc, World.size_setCell, World.size_drew]; omega) | (simp; done) | (simp; omega))) | ((with_reducible refine Below.alloc ?_ ?hp _); case hp => (first | omega | (simp only [World.size_alloc, World.size_setCell, World.size_drew]; omega) | (simp; done) | (simp; omega))) | with_reducible refine Below.drew ?_ | with_reducible refine below_drewN ?_ _))⟩
    simp only [beq_iff_eq, beq_eq_false_iff_ne, ne_eq, decide_eq_true_eq, decide_eq_false_iff_not, Bool.not_eq_true', Bool.not_eq_false'] at *
    first
      | rfl
      | (show Ending.returned (.int .i64 _) = .returned (.int .i64 (one x i n))
         congr 2
         unfold one
         rw [HF.out, hBe.out]
         have hcc := HC.out
         repeat (first | rw [if_pos (by omega)] | rw [if_neg (by omega)]))

set_option maxHeartbeats 400000 in
theorem rone_f2y (x : Insn) (hx : x.Ok) (i n : Nat) (w : World) (hn : n ≤ 1000000) (hi : i ≤ 1000000) (hf : form x.code = 2) (hcc : x.code ≠ 32 ∧ x.code ≠ 52 ∧ x.code ≠ 100 ∧ x.code ≠ 116) (hbh : i + 1 < n) :
    Calls Try.prog 57 #[(Value.agg #[.int .u16 x.code, .int .u8 x.jt, .int .u8 x.jf, .int .u32 x.k]), .int .i64 i, .int .i64 n] w fun e w' => e = .returned (.int .i64 (one x i n)) ∧ Below w.heap.size w w' := by
  have hc := hx.code
  have hk := hx.k
  have hjt := hx.jt
  have hjf := hx.jf
  have hBe := Lib.hid (show behind i n = n - 1 - i by unfold behind; rw [if_pos hbh])
  have HF := Lib.hid hf
  obtain ⟨q1, q2, q3, q4⟩ := name_tests x.code hc hcc
  have HC := Lib.hid hcc
  clear hf hcc
  go_enter Try.func57, Try.ntmps57
  go_wp2_with (first | (go_at_call 69; refine (rname_any x.code hc _).mono ?_; rw [HF.out]; rintro e w' ⟨rfl, hb⟩; (obtain ⟨hb_c, hb_f⟩ := bcell hb; have hb_z := (hb).size; have hb_0 : Below w.heap.size w _ := Below.trans (by (repeat (first | with_reducible exact Below.refl _ _ | with_reducible assumption | ((with_reducible refine Below.setCell ?_ ?hp _); case hp => (first | omega | (simp only [World.size_alloc, World.size_setCell, World.size_drew]; omega) | (simp; done) | (simp; omega))) | ((with_reducible refine Below.alloc ?_ ?hp _); case hp => (first | omega | (simp only [World.size_alloc, World.size_setCell, World.size_drew]; omega) | (simp; done) | (simp; omega))) | with_reducible refine Below.drew ?_ | with_reducible refine below_drewN ?_ _))) ((hb).mono (by (first | omega | (simp only [World.size_alloc, World.size_setCell, World.size_drew]; omega) | (simp; done) | (simp; omega)))); (try simp only [World.size_alloc, World.size_setCell, World.size_drew] at hb_z hb_c hb_f); clear hb); (have hb_k0 := hb_c (w.heap.size) 0 (by omega); simp [go_sem] at hb_k0; have hb_k1 := hb_c (w.heap.size) 1 (by omega); simp [go_sem] at hb_k1; have hb_k2 := hb_c (w.heap.size) 2 (by omega); simp [go_sem] at hb_k2; have hb_k3 := hb_c (w.heap.size) 3 (by omega); simp [go_sem] at hb_k3)) | (go_at_call 97; refine (rform_any x.code hc _).mono ?_; rw [HF.out]; rintro e w'' ⟨rfl, hd⟩; (obtain ⟨hd_c, hd_f⟩ := bcell hd; have hd_z := (hd).size; have hd_0 : Below w.heap.size w _ := Below.trans (by (repeat (first | with_reducible exact Below.refl _ _ | with_reducible assumption | ((with_reducible refine Below.setCell ?_ ?hp _); case hp => (first | omega | (simp only [World.size_alloc, World.size_setCell, World.size_drew]; omega) | (simp; done) | (simp; omega))) | ((with_reducible refine Below.alloc ?_ ?hp _); case hp => (first | omega | (simp only [World.size_alloc, World.size_setCell, World.size_drew]; omega) | (simp; done) | (simp; omega))) | with_reducible refine Below.drew ?_ | with_reducible refine below_drewN ?_ _))) ((hd).mono (by (first | omega | (simp only [World.size_alloc, World.size_setCell, World.size_drew]; omega) | (simp; done) | (simp; omega)))); (try simp only [World.size_alloc, World.size_setCell, World.size_drew] at hd_z hd_c hd_f); clear hd); have hd_k1 := (hd_c w.heap.size 1 (by omega)).trans hb_k1; have hd_k2 := (hd_c w.heap.size 2 (by omega)).trans hb_k2; have hd_k3 := (hd_c w.heap.size 3 (by omega)).trans hb_k3))
  all_goals
    go_ret
    go_light
    refine ⟨?_, by (repeat (first | with_reducible exact Below.refl _ _ | with_reducible assumption | ((with_reducible refine Below.setCell ?_ ?hp _); case hp => (first | omega | (simp only [World.size_alloc, World.size_setCell, World.size_drew]; omega) | (simp; done) | (simp; omega))) | ((with_reducible refine Below.alloc ?_ ?hp _); case hp => (first | omega | (simp only [World.size_alloc, World.size_setCell, World.size_drew]; omega) | (simp; done) | (simp; omega))) | with_reducible refine Below.drew ?_ | with_reducible refine below_drewN ?_ _))⟩
    simp only [beq_iff_eq, beq_eq_false_iff_ne, ne_eq, decide_eq_true_eq, decide_eq_false_iff_not, Bool.not_eq_true', Bool.not_eq_false'] at *
    first
      | rfl
      | (show Ending.returned (.int .i64 _) = .returned (.int .i64 (one x i n))
         congr 2
         unfold one
         rw [HF.out, hBe.out]
         have hcc := HC.out
         repeat (first | rw [if_pos (by omega)] | rw [if_neg (by omega)]))

set_option maxHeartbeats 400000 in
theorem rone_f2n (x : Insn) (hx : x.Ok) (i n : Nat) (w : World) (hn : n ≤ 1000000) (hi : i ≤ 1000000) (hf : form x.code = 2) (hcc : x.code ≠ 32 ∧ x.code ≠ 52 ∧ x.code ≠ 100 ∧ x.code ≠ 116) (hbh : ¬ i + 1 < n) :
    Calls Try.prog 57 #[(Value.agg #[.int .u16 x.code, .int .u8 x.jt, .int .u8 x.jf, .int .u32 x.k]), .int .i64 i, .int .i64 n] w fun e w' => e = .returned (.int .i64 (one x i n)) ∧ Below w.heap.size w w' := by
  have hc := hx.code
  have hk := hx.k
  have hjt := hx.jt
  have hjf := hx.jf
  have hBe := Lib.hid (show behind i n = 0 by unfold behind; rw [if_neg hbh])
  have HF := Lib.hid hf
  obtain ⟨q1, q2, q3, q4⟩ := name_tests x.code hc hcc
  have HC := Lib.hid hcc
  clear hf hcc
  go_enter Try.func57, Try.ntmps57
  go_wp2_with (first | (go_at_call 69; refine (rname_any x.code hc _).mono ?_; rw [HF.out]; rintro e w' ⟨rfl, hb⟩; (obtain ⟨hb_c, hb_f⟩ := bcell hb; have hb_z := (hb).size; have hb_0 : Below w.heap.size w _ := Below.trans (by (repeat (first | with_reducible exact Below.refl _ _ | with_reducible assumption | ((with_reducible refine Below.setCell ?_ ?hp _); case hp => (first | omega | (simp only [World.size_alloc, World.size_setCell, World.size_drew]; omega) | (simp; done) | (simp; omega))) | ((with_reducible refine Below.alloc ?_ ?hp _); case hp => (first | omega | (simp only [World.size_alloc, World.size_setCell, World.size_drew]; omega) | (simp; done) | (simp; omega))) | with_reducible refine Below.drew ?_ | with_reducible refine below_drewN ?_ _))) ((hb).mono (by (first | omega | (simp only [World.size_alloc, World.size_setCell, World.size_drew]; omega) | (simp; done) | (simp; omega)))); (try simp only [World.size_alloc, World.size_setCell, World.size_drew] at hb_z hb_c hb_f); clear hb); (have hb_k0 := hb_c (w.heap.size) 0 (by omega); simp [go_sem] at hb_k0; have hb_k1 := hb_c (w.heap.size) 1 (by omega); simp [go_sem] at hb_k1; have hb_k2 := hb_c (w.heap.size) 2 (by omega); simp [go_sem] at hb_k2; have hb_k3 := hb_c (w.heap.size) 3 (by omega); simp [go_sem] at hb_k3)) | (go_at_call 97; refine (rform_any x.code hc _).mono ?_; rw [HF.out]; rintro e w'' ⟨rfl, hd⟩; (obtain ⟨hd_c, hd_f⟩ := bcell hd; have hd_z := (hd).size; have hd_0 : Below w.heap.size w _ := Below.trans (by (repeat (first | with_reducible exact Below.refl _ _ | with_reducible assumption | ((with_reducible refine Below.setCell ?_ ?hp _); case hp => (first | omega | (simp only [World.size_alloc, World.size_setCell, World.size_drew]; omega) | (simp; done) | (simp; omega))) | ((with_reducible refine Below.alloc ?_ ?hp _); case hp => (first | omega | (simp only [World.size_alloc, World.size_setCell, World.size_drew]; omega) | (simp; done) | (simp; omega))) | with_reducible refine Below.drew ?_ | with_reducible refine below_drewN ?_ _))) ((hd).mono (by (first | omega | (simp only [World.size_alloc, World.size_setCell, World.size_drew]; omega) | (simp; done) | (simp; omega)))); (try simp only [World.size_alloc, World.size_setCell, World.size_drew] at hd_z hd_c hd_f); clear hd); have hd_k1 := (hd_c w.heap.size 1 (by omega)).trans hb_k1; have hd_k2 := (hd_c w.heap.size 2 (by omega)).trans hb_k2; have hd_k3 := (hd_c w.heap.size 3 (by omega)).trans hb_k3))
  all_goals
    go_ret
    go_light
    refine ⟨?_, by (repeat (first | with_reducible exact Below.refl _ _ | with_reducible assumption | ((with_reducible refine Below.setCell ?_ ?hp _); case hp => (first | omega | (simp only [World.size_alloc, World.size_setCell, World.size_drew]; omega) | (simp; done) | (simp; omega))) | ((with_reducible refine Below.alloc ?_ ?hp _); case hp => (first | omega | (simp only [World.size_alloc, World.size_setCell, World.size_drew]; omega) | (simp; done) | (simp; omega))) | with_reducible refine Below.drew ?_ | with_reducible refine below_drewN ?_ _))⟩
    simp only [beq_iff_eq, beq_eq_false_iff_ne, ne_eq, decide_eq_true_eq, decide_eq_false_iff_not, Bool.not_eq_true', Bool.not_eq_false'] at *
    first
      | rfl
      | (show Ending.returned (.int .i64 _) = .returned (.int .i64 (one x i n))
         congr 2
         unfold one
         rw [HF.out, hBe.out]
         have hcc := HC.out
         repeat (first | rw [if_pos (by omega)] | rw [if_neg (by omega)]))

set_option maxHeartbeats 400000 in
theorem rone_f3y (x : Insn) (hx : x.Ok) (i n : Nat) (w : World) (hn : n ≤ 1000000) (hi : i ≤ 1000000) (hf : form x.code = 3) (hcc : x.code ≠ 32 ∧ x.code ≠ 52 ∧ x.code ≠ 100 ∧ x.code ≠ 116) (hbh : i + 1 < n) :
    Calls Try.prog 57 #[(Value.agg #[.int .u16 x.code, .int .u8 x.jt, .int .u8 x.jf, .int .u32 x.k]), .int .i64 i, .int .i64 n] w fun e w' => e = .returned (.int .i64 (one x i n)) ∧ Below w.heap.size w w' := by
  have hc := hx.code
  have hk := hx.k
  have hjt := hx.jt
  have hjf := hx.jf
  have hBe := Lib.hid (show behind i n = n - 1 - i by unfold behind; rw [if_pos hbh])
  have HF := Lib.hid hf
  obtain ⟨q1, q2, q3, q4⟩ := name_tests x.code hc hcc
  have HC := Lib.hid hcc
  clear hf hcc
  go_enter Try.func57, Try.ntmps57
  go_wp2_with (first | (go_at_call 69; refine (rname_any x.code hc _).mono ?_; rw [HF.out]; rintro e w' ⟨rfl, hb⟩; (obtain ⟨hb_c, hb_f⟩ := bcell hb; have hb_z := (hb).size; have hb_0 : Below w.heap.size w _ := Below.trans (by (repeat (first | with_reducible exact Below.refl _ _ | with_reducible assumption | ((with_reducible refine Below.setCell ?_ ?hp _); case hp => (first | omega | (simp only [World.size_alloc, World.size_setCell, World.size_drew]; omega) | (simp; done) | (simp; omega))) | ((with_reducible refine Below.alloc ?_ ?hp _); case hp => (first | omega | (simp only [World.size_alloc, World.size_setCell, World.size_drew]; omega) | (simp; done) | (simp; omega))) | with_reducible refine Below.drew ?_ | with_reducible refine below_drewN ?_ _))) ((hb).mono (by (first | omega | (simp only [World.size_alloc, World.size_setCell, World.size_drew]; omega) | (simp; done) | (simp; omega)))); (try simp only [World.size_alloc, World.size_setCell, World.size_drew] at hb_z hb_c hb_f); clear hb); (have hb_k0 := hb_c (w.heap.size) 0 (by omega); simp [go_sem] at hb_k0; have hb_k1 := hb_c (w.heap.size) 1 (by omega); simp [go_sem] at hb_k1; have hb_k2 := hb_c (w.heap.size) 2 (by omega); simp [go_sem] at hb_k2; have hb_k3 := hb_c (w.heap.size) 3 (by omega); simp [go_sem] at hb_k3)) | (go_at_call 97; refine (rform_any x.code hc _).mono ?_; rw [HF.out]; rintro e w'' ⟨rfl, hd⟩; (obtain ⟨hd_c, hd_f⟩ := bcell hd; have hd_z := (hd).size; have hd_0 : Below w.heap.size w _ := Below.trans (by (repeat (first | with_reducible exact Below.refl _ _ | with_reducible assumption | ((with_reducible refine Below.setCell ?_ ?hp _); case hp => (first | omega | (simp only [World.size_alloc, World.size_setCell, World.size_drew]; omega) | (simp; done) | (simp; omega))) | ((with_reducible refine Below.alloc ?_ ?hp _); case hp => (first | omega | (simp only [World.size_alloc, World.size_setCell, World.size_drew]; omega) | (simp; done) | (simp; omega))) | with_reducible refine Below.drew ?_ | with_reducible refine below_drewN ?_ _))) ((hd).mono (by (first | omega | (simp only [World.size_alloc, World.size_setCell, World.size_drew]; omega) | (simp; done) | (simp; omega)))); (try simp only [World.size_alloc, World.size_setCell, World.size_drew] at hd_z hd_c hd_f); clear hd); have hd_k1 := (hd_c w.heap.size 1 (by omega)).trans hb_k1; have hd_k2 := (hd_c w.heap.size 2 (by omega)).trans hb_k2; have hd_k3 := (hd_c w.heap.size 3 (by omega)).trans hb_k3))
  all_goals
    go_ret
    go_light
    refine ⟨?_, by (repeat (first | with_reducible exact Below.refl _ _ | with_reducible assumption | ((with_reducible refine Below.setCell ?_ ?hp _); case hp => (first | omega | (simp only [World.size_alloc, World.size_setCell, World.size_drew]; omega) | (simp; done) | (simp; omega))) | ((with_reducible refine Below.alloc ?_ ?hp _); case hp => (first | omega | (simp only [World.size_alloc, World.size_setCell, World.size_drew]; omega) | (simp; done) | (simp; omega))) | with_reducible refine Below.drew ?_ | with_reducible refine below_drewN ?_ _))⟩
    simp only [beq_iff_eq, beq_eq_false_iff_ne, ne_eq, decide_eq_true_eq, decide_eq_false_iff_not, Bool.not_eq_true', Bool.not_eq_false'] at *
    first
      | rfl
      | (show Ending.returned (.int .i64 _) = .returned (.int .i64 (one x i n))
         congr 2
         unfold one
         rw [HF.out, hBe.out]
         have hcc := HC.out
         repeat (first | rw [if_pos (by omega)] | rw [if_neg (by omega)]))

set_option maxHeartbeats 400000 in
theorem rone_f3n (x : Insn) (hx : x.Ok) (i n : Nat) (w : World) (hn : n ≤ 1000000) (hi : i ≤ 1000000) (hf : form x.code = 3) (hcc : x.code ≠ 32 ∧ x.code ≠ 52 ∧ x.code ≠ 100 ∧ x.code ≠ 116) (hbh : ¬ i + 1 < n) :
    Calls Try.prog 57 #[(Value.agg #[.int .u16 x.code, .int .u8 x.jt, .int .u8 x.jf, .int .u32 x.k]), .int .i64 i, .int .i64 n] w fun e w' => e = .returned (.int .i64 (one x i n)) ∧ Below w.heap.size w w' := by
  have hc := hx.code
  have hk := hx.k
  have hjt := hx.jt
  have hjf := hx.jf
  have hBe := Lib.hid (show behind i n = 0 by unfold behind; rw [if_neg hbh])
  have HF := Lib.hid hf
  obtain ⟨q1, q2, q3, q4⟩ := name_tests x.code hc hcc
  have HC := Lib.hid hcc
  clear hf hcc
  go_enter Try.func57, Try.ntmps57
  go_wp2_with (first | (go_at_call 69; refine (rname_any x.code hc _).mono ?_; rw [HF.out]; rintro e w' ⟨rfl, hb⟩; (obtain ⟨hb_c, hb_f⟩ := bcell hb; have hb_z := (hb).size; have hb_0 : Below w.heap.size w _ := Below.trans (by (repeat (first | with_reducible exact Below.refl _ _ | with_reducible assumption | ((with_reducible refine Below.setCell ?_ ?hp _); case hp => (first | omega | (simp only [World.size_alloc, World.size_setCell, World.size_drew]; omega) | (simp; done) | (simp; omega))) | ((with_reducible refine Below.alloc ?_ ?hp _); case hp => (first | omega | (simp only [World.size_alloc, World.size_setCell, World.size_drew]; omega) | (simp; done) | (simp; omega))) | with_reducible refine Below.drew ?_ | with_reducible refine below_drewN ?_ _))) ((hb).mono (by (first | omega | (simp only [World.size_alloc, World.size_setCell, World.size_drew]; omega) | (simp; done) | (simp; omega)))); (try simp only [World.size_alloc, World.size_setCell, World.size_drew] at hb_z hb_c hb_f); clear hb); (have hb_k0 := hb_c (w.heap.size) 0 (by omega); simp [go_sem] at hb_k0; have hb_k1 := hb_c (w.heap.size) 1 (by omega); simp [go_sem] at hb_k1; have hb_k2 := hb_c (w.heap.size) 2 (by omega); simp [go_sem] at hb_k2; have hb_k3 := hb_c (w.heap.size) 3 (by omega); simp [go_sem] at hb_k3)) | (go_at_call 97; refine (rform_any x.code hc _).mono ?_; rw [HF.out]; rintro e w'' ⟨rfl, hd⟩; (obtain ⟨hd_c, hd_f⟩ := bcell hd; have hd_z := (hd).size; have hd_0 : Below w.heap.size w _ := Below.trans (by (repeat (first | with_reducible exact Below.refl _ _ | with_reducible assumption | ((with_reducible refine Below.setCell ?_ ?hp _); case hp => (first | omega | (simp only [World.size_alloc, World.size_setCell, World.size_drew]; omega) | (simp; done) | (simp; omega))) | ((with_reducible refine Below.alloc ?_ ?hp _); case hp => (first | omega | (simp only [World.size_alloc, World.size_setCell, World.size_drew]; omega) | (simp; done) | (simp; omega))) | with_reducible refine Below.drew ?_ | with_reducible refine below_drewN ?_ _))) ((hd).mono (by (first | omega | (simp only [World.size_alloc, World.size_setCell, World.size_drew]; omega) | (simp; done) | (simp; omega)))); (try simp only [World.size_alloc, World.size_setCell, World.size_drew] at hd_z hd_c hd_f); clear hd); have hd_k1 := (hd_c w.heap.size 1 (by omega)).trans hb_k1; have hd_k2 := (hd_c w.heap.size 2 (by omega)).trans hb_k2; have hd_k3 := (hd_c w.heap.size 3 (by omega)).trans hb_k3))
  all_goals
    go_ret
    go_light
    refine ⟨?_, by (repeat (first | with_reducible exact Below.refl _ _ | with_reducible assumption | ((with_reducible refine Below.setCell ?_ ?hp _); case hp => (first | omega | (simp only [World.size_alloc, World.size_setCell, World.size_drew]; omega) | (simp; done) | (simp; omega))) | ((with_reducible refine Below.alloc ?_ ?hp _); case hp => (first | omega | (simp only [World.size_alloc, World.size_setCell, World.size_drew]; omega) | (simp; done) | (simp; omega))) | with_reducible refine Below.drew ?_ | with_reducible refine below_drewN ?_ _))⟩
    simp only [beq_iff_eq, beq_eq_false_iff_ne, ne_eq, decide_eq_true_eq, decide_eq_false_iff_not, Bool.not_eq_true', Bool.not_eq_false'] at *
    first
      | rfl
      | (show Ending.returned (.int .i64 _) = .returned (.int .i64 (one x i n))
         congr 2
         unfold one
         rw [HF.out, hBe.out]
         have hcc := HC.out
         repeat (first | rw [if_pos (by omega)] | rw [if_neg (by omega)]))

set_option maxHeartbeats 400000 in
theorem rone_f4y (x : Insn) (hx : x.Ok) (i n : Nat) (w : World) (hn : n ≤ 1000000) (hi : i ≤ 1000000) (hf : form x.code = 4) (hcc : x.code ≠ 32 ∧ x.code ≠ 52 ∧ x.code ≠ 100 ∧ x.code ≠ 116) (hbh : i + 1 < n) :
    Calls Try.prog 57 #[(Value.agg #[.int .u16 x.code, .int .u8 x.jt, .int .u8 x.jf, .int .u32 x.k]), .int .i64 i, .int .i64 n] w fun e w' => e = .returned (.int .i64 (one x i n)) ∧ Below w.heap.size w w' := by
  have hc := hx.code
  have hk := hx.k
  have hjt := hx.jt
  have hjf := hx.jf
  have hBe := Lib.hid (show behind i n = n - 1 - i by unfold behind; rw [if_pos hbh])
  have HF := Lib.hid hf
  obtain ⟨q1, q2, q3, q4⟩ := name_tests x.code hc hcc
  have HC := Lib.hid hcc
  clear hf hcc
  go_enter Try.func57, Try.ntmps57
  go_wp2_with (first | (go_at_call 69; refine (rname_any x.code hc _).mono ?_; rw [HF.out]; rintro e w' ⟨rfl, hb⟩; (obtain ⟨hb_c, hb_f⟩ := bcell hb; have hb_z := (hb).size; have hb_0 : Below w.heap.size w _ := Below.trans (by (repeat (first | with_reducible exact Below.refl _ _ | with_reducible assumption | ((with_reducible refine Below.setCell ?_ ?hp _); case hp => (first | omega | (simp only [World.size_alloc, World.size_setCell, World.size_drew]; omega) | (simp; done) | (simp; omega))) | ((with_reducible refine Below.alloc ?_ ?hp _); case hp => (first | omega | (simp only [World.size_alloc, World.size_setCell, World.size_drew]; omega) | (simp; done) | (simp; omega))) | with_reducible refine Below.drew ?_ | with_reducible refine below_drewN ?_ _))) ((hb).mono (by (first | omega | (simp only [World.size_alloc, World.size_setCell, World.size_drew]; omega) | (simp; done) | (simp; omega)))); (try simp only [World.size_alloc, World.size_setCell, World.size_drew] at hb_z hb_c hb_f); clear hb); (have hb_k0 := hb_c (w.heap.size) 0 (by omega); simp [go_sem] at hb_k0; have hb_k1 := hb_c (w.heap.size) 1 (by omega); simp [go_sem] at hb_k1; have hb_k2 := hb_c (w.heap.size) 2 (by omega); simp [go_sem] at hb_k2; have hb_k3 := hb_c (w.heap.size) 3 (by omega); simp [go_sem] at hb_k3)) | (go_at_call 97; refine (rform_any x.code hc _).mono ?_; rw [HF.out]; rintro e w'' ⟨rfl, hd⟩; (obtain ⟨hd_c, hd_f⟩ := bcell hd; have hd_z := (hd).size; have hd_0 : Below w.heap.size w _ := Below.trans (by (repeat (first | with_reducible exact Below.refl _ _ | with_reducible assumption | ((with_reducible refine Below.setCell ?_ ?hp _); case hp => (first | omega | (simp only [World.size_alloc, World.size_setCell, World.size_drew]; omega) | (simp; done) | (simp; omega))) | ((with_reducible refine Below.alloc ?_ ?hp _); case hp => (first | omega | (simp only [World.size_alloc, World.size_setCell, World.size_drew]; omega) | (simp; done) | (simp; omega))) | with_reducible refine Below.drew ?_ | with_reducible refine below_drewN ?_ _))) ((hd).mono (by (first | omega | (simp only [World.size_alloc, World.size_setCell, World.size_drew]; omega) | (simp; done) | (simp; omega)))); (try simp only [World.size_alloc, World.size_setCell, World.size_drew] at hd_z hd_c hd_f); clear hd); have hd_k1 := (hd_c w.heap.size 1 (by omega)).trans hb_k1; have hd_k2 := (hd_c w.heap.size 2 (by omega)).trans hb_k2; have hd_k3 := (hd_c w.heap.size 3 (by omega)).trans hb_k3))
  all_goals
    go_ret
    go_light
    refine ⟨?_, by (repeat (first | with_reducible exact Below.refl _ _ | with_reducible assumption | ((with_reducible refine Below.setCell ?_ ?hp _); case hp => (first | omega | (simp only [World.size_alloc, World.size_setCell, World.size_drew]; omega) | (simp; done) | (simp; omega))) | ((with_reducible refine Below.alloc ?_ ?hp _); case hp => (first | omega | (simp only [World.size_alloc, World.size_setCell, World.size_drew]; omega) | (simp; done) | (simp; omega))) | with_reducible refine Below.drew ?_ | with_reducible refine below_drewN ?_ _))⟩
    simp only [beq_iff_eq, beq_eq_false_iff_ne, ne_eq, decide_eq_true_eq, decide_eq_false_iff_not, Bool.not_eq_true', Bool.not_eq_false'] at *
    first
      | rfl
      | (show Ending.returned (.int .i64 _) = .returned (.int .i64 (one x i n))
         congr 2
         unfold one
         rw [HF.out, hBe.out]
         have hcc := HC.out
         repeat (first | rw [if_pos (by omega)] | rw [if_neg (by omega)]))

set_option maxHeartbeats 400000 in
theorem rone_f4n (x : Insn) (hx : x.Ok) (i n : Nat) (w : World) (hn : n ≤ 1000000) (hi : i ≤ 1000000) (hf : form x.code = 4) (hcc : x.code ≠ 32 ∧ x.code ≠ 52 ∧ x.code ≠ 100 ∧ x.code ≠ 116) (hbh : ¬ i + 1 < n) :
    Calls Try.prog 57 #[(Value.agg #[.int .u16 x.code, .int .u8 x.jt, .int .u8 x.jf, .int .u32 x.k]), .int .i64 i, .int .i64 n] w fun e w' => e = .returned (.int .i64 (one x i n)) ∧ Below w.heap.size w w' := by
  have hc := hx.code
  have hk := hx.k
  have hjt := hx.jt
  have hjf := hx.jf
  have hBe := Lib.hid (show behind i n = 0 by unfold behind; rw [if_neg hbh])
  have HF := Lib.hid hf
  obtain ⟨q1, q2, q3, q4⟩ := name_tests x.code hc hcc
  have HC := Lib.hid hcc
  clear hf hcc
  go_enter Try.func57, Try.ntmps57
  go_wp2_with (first | (go_at_call 69; refine (rname_any x.code hc _).mono ?_; rw [HF.out]; rintro e w' ⟨rfl, hb⟩; (obtain ⟨hb_c, hb_f⟩ := bcell hb; have hb_z := (hb).size; have hb_0 : Below w.heap.size w _ := Below.trans (by (repeat (first | with_reducible exact Below.refl _ _ | with_reducible assumption | ((with_reducible refine Below.setCell ?_ ?hp _); case hp => (first | omega | (simp only [World.size_alloc, World.size_setCell, World.size_drew]; omega) | (simp; done) | (simp; omega))) | ((with_reducible refine Below.alloc ?_ ?hp _); case hp => (first | omega | (simp only [World.size_alloc, World.size_setCell, World.size_drew]; omega) | (simp; done) | (simp; omega))) | with_reducible refine Below.drew ?_ | with_reducible refine below_drewN ?_ _))) ((hb).mono (by (first | omega | (simp only [World.size_alloc, World.size_setCell, World.size_drew]; omega) | (simp; done) | (simp; omega)))); (try simp only [World.size_alloc, World.size_setCell, World.size_drew] at hb_z hb_c hb_f); clear hb); (have hb_k0 := hb_c (w.heap.size) 0 (by omega); simp [go_sem] at hb_k0; have hb_k1 := hb_c (w.heap.size) 1 (by omega); simp [go_sem] at hb_k1; have hb_k2 := hb_c (w.heap.size) 2 (by omega); simp [go_sem] at hb_k2; have hb_k3 := hb_c (w.heap.size) 3 (by omega); simp [go_sem] at hb_k3)) | (go_at_call 97; refine (rform_any x.code hc _).mono ?_; rw [HF.out]; rintro e w'' ⟨rfl, hd⟩; (obtain ⟨hd_c, hd_f⟩ := bcell hd; have hd_z := (hd).size; have hd_0 : Below w.heap.size w _ := Below.trans (by (repeat (first | with_reducible exact Below.refl _ _ | with_reducible assumption | ((with_reducible refine Below.setCell ?_ ?hp _); case hp => (first | omega | (simp only [World.size_alloc, World.size_setCell, World.size_drew]; omega) | (simp; done) | (simp; omega))) | ((with_reducible refine Below.alloc ?_ ?hp _); case hp => (first | omega | (simp only [World.size_alloc, World.size_setCell, World.size_drew]; omega) | (simp; done) | (simp; omega))) | with_reducible refine Below.drew ?_ | with_reducible refine below_drewN ?_ _))) ((hd).mono (by (first | omega | (simp only [World.size_alloc, World.size_setCell, World.size_drew]; omega) | (simp; done) | (simp; omega)))); (try simp only [World.size_alloc, World.size_setCell, World.size_drew] at hd_z hd_c hd_f); clear hd); have hd_k1 := (hd_c w.heap.size 1 (by omega)).trans hb_k1; have hd_k2 := (hd_c w.heap.size 2 (by omega)).trans hb_k2; have hd_k3 := (hd_c w.heap.size 3 (by omega)).trans hb_k3))
  all_goals
    go_ret
    go_light
    refine ⟨?_, by (repeat (first | with_reducible exact Below.refl _ _ | with_reducible assumption | ((with_reducible refine Below.setCell ?_ ?hp _); case hp => (first | omega | (simp only [World.size_alloc, World.size_setCell, World.size_drew]; omega) | (simp; done) | (simp; omega))) | ((with_reducible refine Below.alloc ?_ ?hp _); case hp => (first | omega | (simp only [World.size_alloc, World.size_setCell, World.size_drew]; omega) | (simp; done) | (simp; omega))) | with_reducible refine Below.drew ?_ | with_reducible refine below_drewN ?_ _))⟩
    simp only [beq_iff_eq, beq_eq_false_iff_ne, ne_eq, decide_eq_true_eq, decide_eq_false_iff_not, Bool.not_eq_true', Bool.not_eq_false'] at *
    first
      | rfl
      | (show Ending.returned (.int .i64 _) = .returned (.int .i64 (one x i n))
         congr 2
         unfold one
         rw [HF.out, hBe.out]
         have hcc := HC.out
         repeat (first | rw [if_pos (by omega)] | rw [if_neg (by omega)]))

set_option maxHeartbeats 400000 in
theorem rone_f5y (x : Insn) (hx : x.Ok) (i n : Nat) (w : World) (hn : n ≤ 1000000) (hi : i ≤ 1000000) (hf : form x.code = 5) (hcc : x.code ≠ 32 ∧ x.code ≠ 52 ∧ x.code ≠ 100 ∧ x.code ≠ 116) (hbh : i + 1 < n) :
    Calls Try.prog 57 #[(Value.agg #[.int .u16 x.code, .int .u8 x.jt, .int .u8 x.jf, .int .u32 x.k]), .int .i64 i, .int .i64 n] w fun e w' => e = .returned (.int .i64 (one x i n)) ∧ Below w.heap.size w w' := by
  have hc := hx.code
  have hk := hx.k
  have hjt := hx.jt
  have hjf := hx.jf
  have hBe := Lib.hid (show behind i n = n - 1 - i by unfold behind; rw [if_pos hbh])
  have HF := Lib.hid hf
  obtain ⟨q1, q2, q3, q4⟩ := name_tests x.code hc hcc
  have HC := Lib.hid hcc
  clear hf hcc
  go_enter Try.func57, Try.ntmps57
  go_wp2_with (first | (go_at_call 69; refine (rname_any x.code hc _).mono ?_; rw [HF.out]; rintro e w' ⟨rfl, hb⟩; (obtain ⟨hb_c, hb_f⟩ := bcell hb; have hb_z := (hb).size; have hb_0 : Below w.heap.size w _ := Below.trans (by (repeat (first | with_reducible exact Below.refl _ _ | with_reducible assumption | ((with_reducible refine Below.setCell ?_ ?hp _); case hp => (first | omega | (simp only [World.size_alloc, World.size_setCell, World.size_drew]; omega) | (simp; done) | (simp; omega))) | ((with_reducible refine Below.alloc ?_ ?hp _); case hp => (first | omega | (simp only [World.size_alloc, World.size_setCell, World.size_drew]; omega) | (simp; done) | (simp; omega))) | with_reducible refine Below.drew ?_ | with_reducible refine below_drewN ?_ _))) ((hb).mono (by (first | omega | (simp only [World.size_alloc, World.size_setCell, World.size_drew]; omega) | (simp; done) | (simp; omega)))); (try simp only [World.size_alloc, World.size_setCell, World.size_drew] at hb_z hb_c hb_f); clear hb); (have hb_k0 := hb_c (w.heap.size) 0 (by omega); simp [go_sem] at hb_k0; have hb_k1 := hb_c (w.heap.size) 1 (by omega); simp [go_sem] at hb_k1; have hb_k2 := hb_c (w.heap.size) 2 (by omega); simp [go_sem] at hb_k2; have hb_k3 := hb_c (w.heap.size) 3 (by omega); simp [go_sem] at hb_k3)) | (go_at_call 97; refine (rform_any x.code hc _).mono ?_; rw [HF.out]; rintro e w'' ⟨rfl, hd⟩; (obtain ⟨hd_c, hd_f⟩ := bcell hd; have hd_z := (hd).size; have hd_0 : Below w.heap.size w _ := Below.trans (by (repeat (first | with_reducible exact Below.refl _ _ | with_reducible assumption | ((with_reducible refine Below.setCell ?_ ?hp _); case hp => (first | omega | (simp only [World.size_alloc, World.size_setCell, World.size_drew]; omega) | (simp; done) | (simp; omega))) | ((with_reducible refine Below.alloc ?_ ?hp _); case hp => (first | omega | (simp only [World.size_alloc, World.size_setCell, World.size_drew]; omega) | (simp; done) | (simp; omega))) | with_reducible refine Below.drew ?_ | with_reducible refine below_drewN ?_ _))) ((hd).mono (by (first | omega | (simp only [World.size_alloc, World.size_setCell, World.size_drew]; omega) | (simp; done) | (simp; omega)))); (try simp only [World.size_alloc, World.size_setCell, World.size_drew] at hd_z hd_c hd_f); clear hd); have hd_k1 := (hd_c w.heap.size 1 (by omega)).trans hb_k1; have hd_k2 := (hd_c w.heap.size 2 (by omega)).trans hb_k2; have hd_k3 := (hd_c w.heap.size 3 (by omega)).trans hb_k3))
  all_goals
    go_ret
    go_light
    refine ⟨?_, by (repeat (first | with_reducible exact Below.refl _ _ | with_reducible assumption | ((with_reducible refine Below.setCell ?_ ?hp _); case hp => (first | omega | (simp only [World.size_alloc, World.size_setCell, World.size_drew]; omega) | (simp; done) | (simp; omega))) | ((with_reducible refine Below.alloc ?_ ?hp _); case hp => (first | omega | (simp only [World.size_alloc, World.size_setCell, World.size_drew]; omega) | (simp; done) | (simp; omega))) | with_reducible refine Below.drew ?_ | with_reducible refine below_drewN ?_ _))⟩
    simp only [beq_iff_eq, beq_eq_false_iff_ne, ne_eq, decide_eq_true_eq, decide_eq_false_iff_not, Bool.not_eq_true', Bool.not_eq_false'] at *
    first
      | rfl
      | (show Ending.returned (.int .i64 _) = .returned (.int .i64 (one x i n))
         congr 2
         unfold one
         rw [HF.out, hBe.out]
         have hcc := HC.out
         repeat (first | rw [if_pos (by omega)] | rw [if_neg (by omega)]))

set_option maxHeartbeats 400000 in
theorem rone_f5n (x : Insn) (hx : x.Ok) (i n : Nat) (w : World) (hn : n ≤ 1000000) (hi : i ≤ 1000000) (hf : form x.code = 5) (hcc : x.code ≠ 32 ∧ x.code ≠ 52 ∧ x.code ≠ 100 ∧ x.code ≠ 116) (hbh : ¬ i + 1 < n) :
    Calls Try.prog 57 #[(Value.agg #[.int .u16 x.code, .int .u8 x.jt, .int .u8 x.jf, .int .u32 x.k]), .int .i64 i, .int .i64 n] w fun e w' => e = .returned (.int .i64 (one x i n)) ∧ Below w.heap.size w w' := by
  have hc := hx.code
  have hk := hx.k
  have hjt := hx.jt
  have hjf := hx.jf
  have hBe := Lib.hid (show behind i n = 0 by unfold behind; rw [if_neg hbh])
  have HF := Lib.hid hf
  obtain ⟨q1, q2, q3, q4⟩ := name_tests x.code hc hcc
  have HC := Lib.hid hcc
  clear hf hcc
  go_enter Try.func57, Try.ntmps57
  go_wp2_with (first | (go_at_call 69; refine (rname_any x.code hc _).mono ?_; rw [HF.out]; rintro e w' ⟨rfl, hb⟩; (obtain ⟨hb_c, hb_f⟩ := bcell hb; have hb_z := (hb).size; have hb_0 : Below w.heap.size w _ := Below.trans (by (repeat (first | with_reducible exact Below.refl _ _ | with_reducible assumption | ((with_reducible refine Below.setCell ?_ ?hp _); case hp => (first | omega | (simp only [World.size_alloc, World.size_setCell, World.size_drew]; omega) | (simp; done) | (simp; omega))) | ((with_reducible refine Below.alloc ?_ ?hp _); case hp => (first | omega | (simp only [World.size_alloc, World.size_setCell, World.size_drew]; omega) | (simp; done) | (simp; omega))) | with_reducible refine Below.drew ?_ | with_reducible refine below_drewN ?_ _))) ((hb).mono (by (first | omega | (simp only [World.size_alloc, World.size_setCell, World.size_drew]; omega) | (simp; done) | (simp; omega)))); (try simp only [World.size_alloc, World.size_setCell, World.size_drew] at hb_z hb_c hb_f); clear hb); (have hb_k0 := hb_c (w.heap.size) 0 (by omega); simp [go_sem] at hb_k0; have hb_k1 := hb_c (w.heap.size) 1 (by omega); simp [go_sem] at hb_k1; have hb_k2 := hb_c (w.heap.size) 2 (by omega); simp [go_sem] at hb_k2; have hb_k3 := hb_c (w.heap.size) 3 (by omega); simp [go_sem] at hb_k3)) | (go_at_call 97; refine (rform_any x.code hc _).mono ?_; rw [HF.out]; rintro e w'' ⟨rfl, hd⟩; (obtain ⟨hd_c, hd_f⟩ := bcell hd; have hd_z := (hd).size; have hd_0 : Below w.heap.size w _ := Below.trans (by (repeat (first | with_reducible exact Below.refl _ _ | with_reducible assumption | ((with_reducible refine Below.setCell ?_ ?hp _); case hp => (first | omega | (simp only [World.size_alloc, World.size_setCell, World.size_drew]; omega) | (simp; done) | (simp; omega))) | ((with_reducible refine Below.alloc ?_ ?hp _); case hp => (first | omega | (simp only [World.size_alloc, World.size_setCell, World.size_drew]; omega) | (simp; done) | (simp; omega))) | with_reducible refine Below.drew ?_ | with_reducible refine below_drewN ?_ _))) ((hd).mono (by (first | omega | (simp only [World.size_alloc, World.size_setCell, World.size_drew]; omega) | (simp; done) | (simp; omega)))); (try simp only [World.size_alloc, World.size_setCell, World.size_drew] at hd_z hd_c hd_f); clear hd); have hd_k1 := (hd_c w.heap.size 1 (by omega)).trans hb_k1; have hd_k2 := (hd_c w.heap.size 2 (by omega)).trans hb_k2; have hd_k3 := (hd_c w.heap.size 3 (by omega)).trans hb_k3))
  all_goals
    go_ret
    go_light
    refine ⟨?_, by (repeat (first | with_reducible exact Below.refl _ _ | with_reducible assumption | ((with_reducible refine Below.setCell ?_ ?hp _); case hp => (first | omega | (simp only [World.size_alloc, World.size_setCell, World.size_drew]; omega) | (simp; done) | (simp; omega))) | ((with_reducible refine Below.alloc ?_ ?hp _); case hp => (first | omega | (simp only [World.size_alloc, World.size_setCell, World.size_drew]; omega) | (simp; done) | (simp; omega))) | with_reducible refine Below.drew ?_ | with_reducible refine below_drewN ?_ _))⟩
    simp only [beq_iff_eq, beq_eq_false_iff_ne, ne_eq, decide_eq_true_eq, decide_eq_false_iff_not, Bool.not_eq_true', Bool.not_eq_false'] at *
    first
      | rfl
      | (show Ending.returned (.int .i64 _) = .returned (.int .i64 (one x i n))
         congr 2
         unfold one
         rw [HF.out, hBe.out]
         have hcc := HC.out
         repeat (first | rw [if_pos (by omega)] | rw [if_neg (by omega)]))

set_option maxHeartbeats 400000 in
theorem rone_f6y (x : Insn) (hx : x.Ok) (i n : Nat) (w : World) (hn : n ≤ 1000000) (hi : i ≤ 1000000) (hf : form x.code = 6) (hcc : x.code ≠ 32 ∧ x.code ≠ 52 ∧ x.code ≠ 100 ∧ x.code ≠ 116) (hbh : i + 1 < n) :
    Calls Try.prog 57 #[(Value.agg #[.int .u16 x.code, .int .u8 x.jt, .int .u8 x.jf, .int .u32 x.k]), .int .i64 i, .int .i64 n] w fun e w' => e = .returned (.int .i64 (one x i n)) ∧ Below w.heap.size w w' := by
  have hc := hx.code
  have hk := hx.k
  have hjt := hx.jt
  have hjf := hx.jf
  have hBe := Lib.hid (show behind i n = n - 1 - i by unfold behind; rw [if_pos hbh])
  have HF := Lib.hid hf
  obtain ⟨q1, q2, q3, q4⟩ := name_tests x.code hc hcc
  have HC := Lib.hid hcc
  clear hf hcc
  go_enter Try.func57, Try.ntmps57
  go_wp2_with (first | (go_at_call 69; refine (rname_any x.code hc _).mono ?_; rw [HF.out]; rintro e w' ⟨rfl, hb⟩; (obtain ⟨hb_c, hb_f⟩ := bcell hb; have hb_z := (hb).size; have hb_0 : Below w.heap.size w _ := Below.trans (by (repeat (first | with_reducible exact Below.refl _ _ | with_reducible assumption | ((with_reducible refine Below.setCell ?_ ?hp _); case hp => (first | omega | (simp only [World.size_alloc, World.size_setCell, World.size_drew]; omega) | (simp; done) | (simp; omega))) | ((with_reducible refine Below.alloc ?_ ?hp _); case hp => (first | omega | (simp only [World.size_alloc, World.size_setCell, World.size_drew]; omega) | (simp; done) | (simp; omega))) | with_reducible refine Below.drew ?_ | with_reducible refine below_drewN ?_ _))) ((hb).mono (by (first | omega | (simp only [World.size_alloc, World.size_setCell, World.size_drew]; omega) | (simp; done) | (simp; omega)))); (try simp only [World.size_alloc, World.size_setCell, World.size_drew] at hb_z hb_c hb_f); clear hb); (have hb_k0 := hb_c (w.heap.size) 0 (by omega); simp [go_sem] at hb_k0; have hb_k1 := hb_c (w.heap.size) 1 (by omega); simp [go_sem] at hb_k1; have hb_k2 := hb_c (w.heap.size) 2 (by omega); simp [go_sem] at hb_k2; have hb_k3 := hb_c (w.heap.size) 3 (by omega); simp [go_sem] at hb_k3)) | (go_at_call 97; refine (rform_any x.code hc _).mono ?_; rw [HF.out]; rintro e w'' ⟨rfl, hd⟩; (obtain ⟨hd_c, hd_f⟩ := bcell hd; have hd_z := (hd).size; have hd_0 : Below w.heap.size w _ := Below.trans (by (repeat (first | with_reducible exact Below.refl _ _ | with_reducible assumption | ((with_reducible refine Below.setCell ?_ ?hp _); case hp => (first | omega | (simp only [World.size_alloc, World.size_setCell, World.size_drew]; omega) | (simp; done) | (simp; omega))) | ((with_reducible refine Below.alloc ?_ ?hp _); case hp => (first | omega | (simp only [World.size_alloc, World.size_setCell, World.size_drew]; omega) | (simp; done) | (simp; omega))) | with_reducible refine Below.drew ?_ | with_reducible refine below_drewN ?_ _))) ((hd).mono (by (first | omega | (simp only [World.size_alloc, World.size_setCell, World.size_drew]; omega) | (simp; done) | (simp; omega)))); (try simp only [World.size_alloc, World.size_setCell, World.size_drew] at hd_z hd_c hd_f); clear hd); have hd_k1 := (hd_c w.heap.size 1 (by omega)).trans hb_k1; have hd_k2 := (hd_c w.heap.size 2 (by omega)).trans hb_k2; have hd_k3 := (hd_c w.heap.size 3 (by omega)).trans hb_k3))
  all_goals
    go_ret
    go_light
    refine ⟨?_, by (repeat (first | with_reducible exact Below.refl _ _ | with_reducible assumption | ((with_reducible refine Below.setCell ?_ ?hp _); case hp => (first | omega | (simp only [World.size_alloc, World.size_setCell, World.size_drew]; omega) | (simp; done) | (simp; omega))) | ((with_reducible refine Below.alloc ?_ ?hp _); case hp => (first | omega | (simp only [World.size_alloc, World.size_setCell, World.size_drew]; omega) | (simp; done) | (simp; omega))) | with_reducible refine Below.drew ?_ | with_reducible refine below_drewN ?_ _))⟩
    simp only [beq_iff_eq, beq_eq_false_iff_ne, ne_eq, decide_eq_true_eq, decide_eq_false_iff_not, Bool.not_eq_true', Bool.not_eq_false'] at *
    first
      | rfl
      | (show Ending.returned (.int .i64 _) = .returned (.int .i64 (one x i n))
         congr 2
         unfold one
         rw [HF.out, hBe.out]
         have hcc := HC.out
         repeat (first | rw [if_pos (by omega)] | rw [if_neg (by omega)]))

set_option maxHeartbeats 400000 in
theorem rone_f6n (x : Insn) (hx : x.Ok) (i n : Nat) (w : World) (hn : n ≤ 1000000) (hi : i ≤ 1000000) (hf : form x.code = 6) (hcc : x.code ≠ 32 ∧ x.code ≠ 52 ∧ x.code ≠ 100 ∧ x.code ≠ 116) (hbh : ¬ i + 1 < n) :
    Calls Try.prog 57 #[(Value.agg #[.int .u16 x.code, .int .u8 x.jt, .int .u8 x.jf, .int .u32 x.k]), .int .i64 i, .int .i64 n] w fun e w' => e = .returned (.int .i64 (one x i n)) ∧ Below w.heap.size w w' := by
  have hc := hx.code
  have hk := hx.k
  have hjt := hx.jt
  have hjf := hx.jf
  have hBe := Lib.hid (show behind i n = 0 by unfold behind; rw [if_neg hbh])
  have HF := Lib.hid hf
  obtain ⟨q1, q2, q3, q4⟩ := name_tests x.code hc hcc
  have HC := Lib.hid hcc
  clear hf hcc
  go_enter Try.func57, Try.ntmps57
  go_wp2_with (first | (go_at_call 69; refine (rname_any x.code hc _).mono ?_; rw [HF.out]; rintro e w' ⟨rfl, hb⟩; (obtain ⟨hb_c, hb_f⟩ := bcell hb; have hb_z := (hb).size; have hb_0 : Below w.heap.size w _ := Below.trans (by (repeat (first | with_reducible exact Below.refl _ _ | with_reducible assumption | ((with_reducible refine Below.setCell ?_ ?hp _); case hp => (first | omega | (simp only [World.size_alloc, World.size_setCell, World.size_drew]; omega) | (simp; done) | (simp; omega))) | ((with_reducible refine Below.alloc ?_ ?hp _); case hp => (first | omega | (simp only [World.size_alloc, World.size_setCell, World.size_drew]; omega) | (simp; done) | (simp; omega))) | with_reducible refine Below.drew ?_ | with_reducible refine below_drewN ?_ _))) ((hb).mono (by (first | omega | (simp only [World.size_alloc, World.size_setCell, World.size_drew]; omega) | (simp; done) | (simp; omega)))); (try simp only [World.size_alloc, World.size_setCell, World.size_drew] at hb_z hb_c hb_f); clear hb); (have hb_k0 := hb_c (w.heap.size) 0 (by omega); simp [go_sem] at hb_k0; have hb_k1 := hb_c (w.heap.size) 1 (by omega); simp [go_sem] at hb_k1; have hb_k2 := hb_c (w.heap.size) 2 (by omega); simp [go_sem] at hb_k2; have hb_k3 := hb_c (w.heap.size) 3 (by omega); simp [go_sem] at hb_k3)) | (go_at_call 97; refine (rform_any x.code hc _).mono ?_; rw [HF.out]; rintro e w'' ⟨rfl, hd⟩; (obtain ⟨hd_c, hd_f⟩ := bcell hd; have hd_z := (hd).size; have hd_0 : Below w.heap.size w _ := Below.trans (by (repeat (first | with_reducible exact Below.refl _ _ | with_reducible assumption | ((with_reducible refine Below.setCell ?_ ?hp _); case hp => (first | omega | (simp only [World.size_alloc, World.size_setCell, World.size_drew]; omega) | (simp; done) | (simp; omega))) | ((with_reducible refine Below.alloc ?_ ?hp _); case hp => (first | omega | (simp only [World.size_alloc, World.size_setCell, World.size_drew]; omega) | (simp; done) | (simp; omega))) | with_reducible refine Below.drew ?_ | with_reducible refine below_drewN ?_ _))) ((hd).mono (by (first | omega | (simp only [World.size_alloc, World.size_setCell, World.size_drew]; omega) | (simp; done) | (simp; omega)))); (try simp only [World.size_alloc, World.size_setCell, World.size_drew] at hd_z hd_c hd_f); clear hd); have hd_k1 := (hd_c w.heap.size 1 (by omega)).trans hb_k1; have hd_k2 := (hd_c w.heap.size 2 (by omega)).trans hb_k2; have hd_k3 := (hd_c w.heap.size 3 (by omega)).trans hb_k3))
  all_goals
    go_ret
    go_light
    refine ⟨?_, by (repeat (first | with_reducible exact Below.refl _ _ | with_reducible assumption | ((with_reducible refine Below.setCell ?_ ?hp _); case hp => (first | omega | (simp only [World.size_alloc, World.size_setCell, World.size_drew]; omega) | (simp; done) | (simp; omega))) | ((with_reducible refine Below.alloc ?_ ?hp _); case hp => (first | omega | (simp only [World.size_alloc, World.size_setCell, World.size_drew]; omega) | (simp; done) | (simp; omega))) | with_reducible refine Below.drew ?_ | with_reducible refine below_drewN ?_ _))⟩
    simp only [beq_iff_eq, beq_eq_false_iff_ne, ne_eq, decide_eq_true_eq, decide_eq_false_iff_not, Bool.not_eq_true', Bool.not_eq_false'] at *
    first
      | rfl
      | (show Ending.returned (.int .i64 _) = .returned (.int .i64 (one x i n))
         congr 2
         unfold one
         rw [HF.out, hBe.out]
         have hcc := HC.out
         repeat (first | rw [if_pos (by omega)] | rw [if_neg (by omega)]))

set_option maxHeartbeats 400000 in
theorem rone_c32y (x : Insn) (hx : x.Ok) (i n : Nat) (w : World) (hn : n ≤ 1000000) (hi : i ≤ 1000000) (hcc : x.code = 32) (hbh : i + 1 < n) :
    Calls Try.prog 57 #[(Value.agg #[.int .u16 x.code, .int .u8 x.jt, .int .u8 x.jf, .int .u32 x.k]), .int .i64 i, .int .i64 n] w fun e w' => e = .returned (.int .i64 (one x i n)) ∧ Below w.heap.size w w' := by
  have hc := hx.code
  have hk := hx.k
  have hjt := hx.jt
  have hjf := hx.jf
  have hBe := Lib.hid (show behind i n = n - 1 - i by unfold behind; rw [if_pos hbh])
  have HF := Lib.hid (show form x.code = 2 by rw [hcc]; decide)
  have q1 : (nameOf x.code).toList = [108, 100, 46, 97, 98, 115] := by rw [hcc]; decide +kernel
  have HC := Lib.hid hcc
  clear hcc
  go_enter Try.func57, Try.ntmps57
  go_wp2_with (first | (go_at_call 69; refine (rname_any x.code hc _).mono ?_; rw [HF.out]; rintro e w' ⟨rfl, hb⟩; (obtain ⟨hb_c, hb_f⟩ := bcell hb; have hb_z := (hb).size; have hb_0 : Below w.heap.size w _ := Below.trans (by (repeat (first | with_reducible exact Below.refl _ _ | with_reducible assumption | ((with_reducible refine Below.setCell ?_ ?hp _); case hp => (first | omega | (simp only [World.size_alloc, World.size_setCell, World.size_drew]; omega) | (simp; done) | (simp; omega))) | ((with_reducible refine Below.alloc ?_ ?hp _); case hp => (first | omega | (simp only [World.size_alloc, World.size_setCell, World.size_drew]; omega) | (simp; done) | (simp; omega))) | with_reducible refine Below.drew ?_ | with_reducible refine below_drewN ?_ _))) ((hb).mono (by (first | omega | (simp only [World.size_alloc, World.size_setCell, World.size_drew]; omega) | (simp; done) | (simp; omega)))); (try simp only [World.size_alloc, World.size_setCell, World.size_drew] at hb_z hb_c hb_f); clear hb); (have hb_k0 := hb_c (w.heap.size) 0 (by omega); simp [go_sem] at hb_k0; have hb_k1 := hb_c (w.heap.size) 1 (by omega); simp [go_sem] at hb_k1; have hb_k2 := hb_c (w.heap.size) 2 (by omega); simp [go_sem] at hb_k2; have hb_k3 := hb_c (w.heap.size) 3 (by omega); simp [go_sem] at hb_k3)) | (go_at_call 97; refine (rform_any x.code hc _).mono ?_; rw [HF.out]; rintro e w'' ⟨rfl, hd⟩; (obtain ⟨hd_c, hd_f⟩ := bcell hd; have hd_z := (hd).size; have hd_0 : Below w.heap.size w _ := Below.trans (by (repeat (first | with_reducible exact Below.refl _ _ | with_reducible assumption | ((with_reducible refine Below.setCell ?_ ?hp _); case hp => (first | omega | (simp only [World.size_alloc, World.size_setCell, World.size_drew]; omega) | (simp; done) | (simp; omega))) | ((with_reducible refine Below.alloc ?_ ?hp _); case hp => (first | omega | (simp only [World.size_alloc, World.size_setCell, World.size_drew]; omega) | (simp; done) | (simp; omega))) | with_reducible refine Below.drew ?_ | with_reducible refine below_drewN ?_ _))) ((hd).mono (by (first | omega | (simp only [World.size_alloc, World.size_setCell, World.size_drew]; omega) | (simp; done) | (simp; omega)))); (try simp only [World.size_alloc, World.size_setCell, World.size_drew] at hd_z hd_c hd_f); clear hd); have hd_k1 := (hd_c w.heap.size 1 (by omega)).trans hb_k1; have hd_k2 := (hd_c w.heap.size 2 (by omega)).trans hb_k2; have hd_k3 := (hd_c w.heap.size 3 (by omega)).trans hb_k3))
  all_goals
    go_ret
    go_light
    refine ⟨?_, by (repeat (first | with_reducible exact Below.refl _ _ | with_reducible assumption | ((with_reducible refine Below.setCell ?_ ?hp _); case hp => (first | omega | (simp only [World.size_alloc, World.size_setCell, World.size_drew]; omega) | (simp; done) | (simp; omega))) | ((with_reducible refine Below.alloc ?_ ?hp _); case hp => (first | omega | (simp only [World.size_alloc, World.size_setCell, World.size_drew]; omega) | (simp; done) | (simp; omega))) | with_reducible refine Below.drew ?_ | with_reducible refine below_drewN ?_ _))⟩
    simp only [beq_iff_eq, beq_eq_false_iff_ne, ne_eq, decide_eq_true_eq, decide_eq_false_iff_not, Bool.not_eq_true', Bool.not_eq_false'] at *
    first
      | rfl
      | (show Ending.returned (.int .i64 _) = .returned (.int .i64 (one x i n))
         congr 2
         unfold one
         rw [HF.out, hBe.out]
         have hcc := HC.out
         repeat (first | rw [if_pos (by omega)] | rw [if_neg (by omega)]))

set_option maxHeartbeats 400000 in
theorem rone_c32n (x : Insn) (hx : x.Ok) (i n : Nat) (w : World) (hn : n ≤ 1000000) (hi : i ≤ 1000000) (hcc : x.code = 32) (hbh : ¬ i + 1 < n) :
    Calls Try.prog 57 #[(Value.agg #[.int .u16 x.code, .int .u8 x.jt, .int .u8 x.jf, .int .u32 x.k]), .int .i64 i, .int .i64 n] w fun e w' => e = .returned (.int .i64 (one x i n)) ∧ Below w.heap.size w w' := by
  have hc := hx.code
  have hk := hx.k
  have hjt := hx.jt
  have hjf := hx.jf
  have hBe := Lib.hid (show behind i n = 0 by unfold behind; rw [if_neg hbh])
  have HF := Lib.hid (show form x.code = 2 by rw [hcc]; decide)
  have q1 : (nameOf x.code).toList = [108, 100, 46, 97, 98, 115] := by rw [hcc]; decide +kernel
  have HC := Lib.hid hcc
  clear hcc
  go_enter Try.func57, Try.ntmps57
  go_wp2_with (first | (go_at_call 69; refine (rname_any x.code hc _).mono ?_; rw [HF.out]; rintro e w' ⟨rfl, hb⟩; (obtain ⟨hb_c, hb_f⟩ := bcell hb; have hb_z := (hb).size; have hb_0 : Below w.heap.size w _ := Below.trans (by (repeat (first | with_reducible exact Below.refl _ _ | with_reducible assumption | ((with_reducible refine Below.setCell ?_ ?hp _); case hp => (first | omega | (simp only [World.size_alloc, World.size_setCell, World.size_drew]; omega) | (simp; done) | (simp; omega))) | ((with_reducible refine Below.alloc ?_ ?hp _); case hp => (first | omega | (simp only [World.size_alloc, World.size_setCell, World.size_drew]; omega) | (simp; done) | (simp; omega))) | with_reducible refine Below.drew ?_ | with_reducible refine below_drewN ?_ _))) ((hb).mono (by (first | omega | (simp only [World.size_alloc, World.size_setCell, World.size_drew]; omega) | (simp; done) | (simp; omega)))); (try simp only [World.size_alloc, World.size_setCell, World.size_drew] at hb_z hb_c hb_f); clear hb); (have hb_k0 := hb_c (w.heap.size) 0 (by omega); simp [go_sem] at hb_k0; have hb_k1 := hb_c (w.heap.size) 1 (by omega); simp [go_sem] at hb_k1; have hb_k2 := hb_c (w.heap.size) 2 (by omega); simp [go_sem] at hb_k2; have hb_k3 := hb_c (w.heap.size) 3 (by omega); simp [go_sem] at hb_k3)) | (go_at_call 97; refine (rform_any x.code hc _).mono ?_; rw [HF.out]; rintro e w'' ⟨rfl, hd⟩; (obtain ⟨hd_c, hd_f⟩ := bcell hd; have hd_z := (hd).size; have hd_0 : Below w.heap.size w _ := Below.trans (by (repeat (first | with_reducible exact Below.refl _ _ | with_reducible assumption | ((with_reducible refine Below.setCell ?_ ?hp _); case hp => (first | omega | (simp only [World.size_alloc, World.size_setCell, World.size_drew]; omega) | (simp; done) | (simp; omega))) | ((with_reducible refine Below.alloc ?_ ?hp _); case hp => (first | omega | (simp only [World.size_alloc, World.size_setCell, World.size_drew]; omega) | (simp; done) | (simp; omega))) | with_reducible refine Below.drew ?_ | with_reducible refine below_drewN ?_ _))) ((hd).mono (by (first | omega | (simp only [World.size_alloc, World.size_setCell, World.size_drew]; omega) | (simp; done) | (simp; omega)))); (try simp only [World.size_alloc, World.size_setCell, World.size_drew] at hd_z hd_c hd_f); clear hd); have hd_k1 := (hd_c w.heap.size 1 (by omega)).trans hb_k1; have hd_k2 := (hd_c w.heap.size 2 (by omega)).trans hb_k2; have hd_k3 := (hd_c w.heap.size 3 (by omega)).trans hb_k3))
  all_goals
    go_ret
    go_light
    refine ⟨?_, by (repeat (first | with_reducible exact Below.refl _ _ | with_reducible assumption | ((with_reducible refine Below.setCell ?_ ?hp _); case hp => (first | omega | (simp only [World.size_alloc, World.size_setCell, World.size_drew]; omega) | (simp; done) | (simp; omega))) | ((with_reducible refine Below.alloc ?_ ?hp _); case hp => (first | omega | (simp only [World.size_alloc, World.size_setCell, World.size_drew]; omega) | (simp; done) | (simp; omega))) | with_reducible refine Below.drew ?_ | with_reducible refine below_drewN ?_ _))⟩
    simp only [beq_iff_eq, beq_eq_false_iff_ne, ne_eq, decide_eq_true_eq, decide_eq_false_iff_not, Bool.not_eq_true', Bool.not_eq_false'] at *
    first
      | rfl
      | (show Ending.returned (.int .i64 _) = .returned (.int .i64 (one x i n))
         congr 2
         unfold one
         rw [HF.out, hBe.out]
         have hcc := HC.out
         repeat (first | rw [if_pos (by omega)] | rw [if_neg (by omega)]))

set_option maxHeartbeats 400000 in
theorem rone_c52y (x : Insn) (hx : x.Ok) (i n : Nat) (w : World) (hn : n ≤ 1000000) (hi : i ≤ 1000000) (hcc : x.code = 52) (hbh : i + 1 < n) :
    Calls Try.prog 57 #[(Value.agg #[.int .u16 x.code, .int .u8 x.jt, .int .u8 x.jf, .int .u32 x.k]), .int .i64 i, .int .i64 n] w fun e w' => e = .returned (.int .i64 (one x i n)) ∧ Below w.heap.size w w' := by
  have hc := hx.code
  have hk := hx.k
  have hjt := hx.jt
  have hjf := hx.jf
  have hBe := Lib.hid (show behind i n = n - 1 - i by unfold behind; rw [if_pos hbh])
  have HF := Lib.hid (show form x.code = 1 by rw [hcc]; decide)
  have q1 : (nameOf x.code).toList = [100, 105, 118, 46, 107] := by rw [hcc]; decide +kernel
  have HC := Lib.hid hcc
  clear hcc
  go_enter Try.func57, Try.ntmps57
  go_wp2_with (first | (go_at_call 69; refine (rname_any x.code hc _).mono ?_; rw [HF.out]; rintro e w' ⟨rfl, hb⟩; (obtain ⟨hb_c, hb_f⟩ := bcell hb; have hb_z := (hb).size; have hb_0 : Below w.heap.size w _ := Below.trans (by (repeat (first | with_reducible exact Below.refl _ _ | with_reducible assumption | ((with_reducible refine Below.setCell ?_ ?hp _); case hp => (first | omega | (simp only [World.size_alloc, World.size_setCell, World.size_drew]; omega) | (simp; done) | (simp; omega))) | ((with_reducible refine Below.alloc ?_ ?hp _); case hp => (first | omega | (simp only [World.size_alloc, World.size_setCell, World.size_drew]; omega) | (simp; done) | (simp; omega))) | with_reducible refine Below.drew ?_ | with_reducible refine below_drewN ?_ _))) ((hb).mono (by (first | omega | (simp only [World.size_alloc, World.size_setCell, World.size_drew]; omega) | (simp; done) | (simp; omega)))); (try simp only [World.size_alloc, World.size_setCell, World.size_drew] at hb_z hb_c hb_f); clear hb); (have hb_k0 := hb_c (w.heap.size) 0 (by omega); simp [go_sem] at hb_k0; have hb_k1 := hb_c (w.heap.size) 1 (by omega); simp [go_sem] at hb_k1; have hb_k2 := hb_c (w.heap.size) 2 (by omega); simp [go_sem] at hb_k2; have hb_k3 := hb_c (w.heap.size) 3 (by omega); simp [go_sem] at hb_k3)) | (go_at_call 97; refine (rform_any x.code hc _).mono ?_; rw [HF.out]; rintro e w'' ⟨rfl, hd⟩; (obtain ⟨hd_c, hd_f⟩ := bcell hd; have hd_z := (hd).size; have hd_0 : Below w.heap.size w _ := Below.trans (by (repeat (first | with_reducible exact Below.refl _ _ | with_reducible assumption | ((with_reducible refine Below.setCell ?_ ?hp _); case hp => (first | omega | (simp only [World.size_alloc, World.size_setCell, World.size_drew]; omega) | (simp; done) | (simp; omega))) | ((with_reducible refine Below.alloc ?_ ?hp _); case hp => (first | omega | (simp only [World.size_alloc, World.size_setCell, World.size_drew]; omega) | (simp; done) | (simp; omega))) | with_reducible refine Below.drew ?_ | with_reducible refine below_drewN ?_ _))) ((hd).mono (by (first | omega | (simp only [World.size_alloc, World.size_setCell, World.size_drew]; omega) | (simp; done) | (simp; omega)))); (try simp only [World.size_alloc, World.size_setCell, World.size_drew] at hd_z hd_c hd_f); clear hd); have hd_k1 := (hd_c w.heap.size 1 (by omega)).trans hb_k1; have hd_k2 := (hd_c w.heap.size 2 (by omega)).trans hb_k2; have hd_k3 := (hd_c w.heap.size 3 (by omega)).trans hb_k3))
  all_goals
    go_ret
    go_light
    refine ⟨?_, by (repeat (first | with_reducible exact Below.refl _ _ | with_reducible assumption | ((with_reducible refine Below.setCell ?_ ?hp _); case hp => (first | omega | (simp only [World.size_alloc, World.size_setCell, World.size_drew]; omega) | (simp; done) | (simp; omega))) | ((with_reducible refine Below.alloc ?_ ?hp _); case hp => (first | omega | (simp only [World.size_alloc, World.size_setCell, World.size_drew]; omega) | (simp; done) | (simp; omega))) | with_reducible refine Below.drew ?_ | with_reducible refine below_drewN ?_ _))⟩
    simp only [beq_iff_eq, beq_eq_false_iff_ne, ne_eq, decide_eq_true_eq, decide_eq_false_iff_not, Bool.not_eq_true', Bool.not_eq_false'] at *
    first
      | rfl
      | (show Ending.returned (.int .i64 _) = .returned (.int .i64 (one x i n))
         congr 2
         unfold one
         rw [HF.out, hBe.out]
         have hcc := HC.out
         repeat (first | rw [if_pos (by omega)] | rw [if_neg (by omega)]))

set_option maxHeartbeats 400000 in
theorem rone_c52n (x : Insn) (hx : x.Ok) (i n : Nat) (w : World) (hn : n ≤ 1000000) (hi : i ≤ 1000000) (hcc : x.code = 52) (hbh : ¬ i + 1 < n) :
    Calls Try.prog 57 #[(Value.agg #[.int .u16 x.code, .int .u8 x.jt, .int .u8 x.jf, .int .u32 x.k]), .int .i64 i, .int .i64 n] w fun e w' => e = .returned (.int .i64 (one x i n)) ∧ Below w.heap.size w w' := by
  have hc := hx.code
  have hk := hx.k
  have hjt := hx.jt
  have hjf := hx.jf
  have hBe := Lib.hid (show behind i n = 0 by unfold behind; rw [if_neg hbh])
  have HF := Lib.hid (show form x.code = 1 by rw [hcc]; decide)
  have q1 : (nameOf x.code).toList = [100, 105, 118, 46, 107] := by rw [hcc]; decide +kernel
  have HC := Lib.hid hcc
  clear hcc
  go_enter Try.func57, Try.ntmps57
  go_wp2_with (first | (go_at_call 69; refine (rname_any x.code hc _).mono ?_; rw [HF.out]; rintro e w' ⟨rfl, hb⟩; (obtain ⟨hb_c, hb_f⟩ := bcell hb; have hb_z := (hb).size; have hb_0 : Below w.heap.size w _ := Below.trans (by (repeat (first | with_reducible exact Below.refl _ _ | with_reducible assumption | ((with_reducible refine Below.setCell ?_ ?hp _); case hp => (first | omega | (simp only [World.size_alloc, World.size_setCell, World.size_drew]; omega) | (simp; done) | (simp; omega))) | ((with_reducible refine Below.alloc ?_ ?hp _); case hp => (first | omega | (simp only [World.size_alloc, World.size_setCell, World.size_drew]; omega) | (simp; done) | (simp; omega))) | with_reducible refine Below.drew ?_ | with_reducible refine below_drewN ?_ _))) ((hb).mono (by (first | omega | (simp only [World.size_alloc, World.size_setCell, World.size_drew]; omega) | (simp; done) | (simp; omega)))); (try simp only [World.size_alloc, World.size_setCell, World.size_drew] at hb_z hb_c hb_f); clear hb); (have hb_k0 := hb_c (w.heap.size) 0 (by omega); simp [go_sem] at hb_k0; have hb_k1 := hb_c (w.heap.size) 1 (by omega); simp [go_sem] at hb_k1; have hb_k2 := hb_c (w.heap.size) 2 (by omega); simp [go_sem] at hb_k2; have hb_k3 := hb_c (w.heap.size) 3 (by omega); simp [go_sem] at hb_k3)) | (go_at_call 97; refine (rform_any x.code hc _).mono ?_; rw [HF.out]; rintro e w'' ⟨rfl, hd⟩; (obtain ⟨hd_c, hd_f⟩ := bcell hd; have hd_z := (hd).size; have hd_0 : Below w.heap.size w _ := Below.trans (by (repeat (first | with_reducible exact Below.refl _ _ | with_reducible assumption | ((with_reducible refine Below.setCell ?_ ?hp _); case hp => (first | omega | (simp only [World.size_alloc, World.size_setCell, World.size_drew]; omega) | (simp; done) | (simp; omega))) | ((with_reducible refine Below.alloc ?_ ?hp _); case hp => (first | omega | (simp only [World.size_alloc, World.size_setCell, World.size_drew]; omega) | (simp; done) | (simp; omega))) | with_reducible refine Below.drew ?_ | with_reducible refine below_drewN ?_ _))) ((hd).mono (by (first | omega | (simp only [World.size_alloc, World.size_setCell, World.size_drew]; omega) | (simp; done) | (simp; omega)))); (try simp only [World.size_alloc, World.size_setCell, World.size_drew] at hd_z hd_c hd_f); clear hd); have hd_k1 := (hd_c w.heap.size 1 (by omega)).trans hb_k1; have hd_k2 := (hd_c w.heap.size 2 (by omega)).trans hb_k2; have hd_k3 := (hd_c w.heap.size 3 (by omega)).trans hb_k3))
  all_goals
    go_ret
    go_light
    refine ⟨?_, by (repeat (first | with_reducible exact Below.refl _ _ | with_reducible assumption | ((with_reducible refine Below.setCell ?_ ?hp _); case hp => (first | omega | (simp only [World.size_alloc, World.size_setCell, World.size_drew]; omega) | (simp; done) | (simp; omega))) | ((with_reducible refine Below.alloc ?_ ?hp _); case hp => (first | omega | (simp only [World.size_alloc, World.size_setCell, World.size_drew]; omega) | (simp; done) | (simp; omega))) | with_reducible refine Below.drew ?_ | with_reducible refine below_drewN ?_ _))⟩
    simp only [beq_iff_eq, beq_eq_false_iff_ne, ne_eq, decide_eq_true_eq, decide_eq_false_iff_not, Bool.not_eq_true', Bool.not_eq_false'] at *
    first
      | rfl
      | (show Ending.returned (.int .i64 _) = .returned (.int .i64 (one x i n))
         congr 2
         unfold one
         rw [HF.out, hBe.out]
         have hcc := HC.out
         repeat (first | rw [if_pos (by omega)] | rw [if_neg (by omega)]))

set_option maxHeartbeats 400000 in
theorem rone_c100y (x : Insn) (hx : x.Ok) (i n : Nat) (w : World) (hn : n ≤ 1000000) (hi : i ≤ 1000000) (hcc : x.code = 100) (hbh : i + 1 < n) :
    Calls Try.prog 57 #[(Value.agg #[.int .u16 x.code, .int .u8 x.jt, .int .u8 x.jf, .int .u32 x.k]), .int .i64 i, .int .i64 n] w fun e w' => e = .returned (.int .i64 (one x i n)) ∧ Below w.heap.size w w' := by
  have hc := hx.code
  have hk := hx.k
  have hjt := hx.jt
  have hjf := hx.jf
  have hBe := Lib.hid (show behind i n = n - 1 - i by unfold behind; rw [if_pos hbh])
  have HF := Lib.hid (show form x.code = 1 by rw [hcc]; decide)
  have q1 : (nameOf x.code).toList = [108, 115, 104, 46, 107] := by rw [hcc]; decide +kernel
  have HC := Lib.hid hcc
  clear hcc
  go_enter Try.func57, Try.ntmps57
  go_wp2_with (first | (go_at_call 69; refine (rname_any x.code hc _).mono ?_; rw [HF.out]; rintro e w' ⟨rfl, hb⟩; (obtain ⟨hb_c, hb_f⟩ := bcell hb; have hb_z := (hb).size; have hb_0 : Below w.heap.size w _ := Below.trans (by (repeat (first | with_reducible exact Below.refl _ _ | with_reducible assumption | ((with_reducible refine Below.setCell ?_ ?hp _); case hp => (first | omega | (simp only [World.size_alloc, World.size_setCell, World.size_drew]; omega) | (simp; done) | (simp; omega))) | ((with_reducible refine Below.alloc ?_ ?hp _); case hp => (first | omega | (simp only [World.size_alloc, World.size_setCell, World.size_drew]; omega) | (simp; done) | (simp; omega))) | with_reducible refine Below.drew ?_ | with_reducible refine below_drewN ?_ _))) ((hb).mono (by (first | omega | (simp only [World.size_alloc, World.size_setCell, World.size_drew]; omega) | (simp; done) | (simp; omega)))); (try simp only [World.size_alloc, World.size_setCell, World.size_drew] at hb_z hb_c hb_f); clear hb); (have hb_k0 := hb_c (w.heap.size) 0 (by omega); simp [go_sem] at hb_k0; have hb_k1 := hb_c (w.heap.size) 1 (by omega); simp [go_sem] at hb_k1; have hb_k2 := hb_c (w.heap.size) 2 (by omega); simp [go_sem] at hb_k2; have hb_k3 := hb_c (w.heap.size) 3 (by omega); simp [go_sem] at hb_k3)) | (go_at_call 97; refine (rform_any x.code hc _).mono ?_; rw [HF.out]; rintro e w'' ⟨rfl, hd⟩; (obtain ⟨hd_c, hd_f⟩ := bcell hd; have hd_z := (hd).size; have hd_0 : Below w.heap.size w _ := Below.trans (by (repeat (first | with_reducible exact Below.refl _ _ | with_reducible assumption | ((with_reducible refine Below.setCell ?_ ?hp _); case hp => (first | omega | (simp only [World.size_alloc, World.size_setCell, World.size_drew]; omega) | (simp; done) | (simp; omega))) | ((with_reducible refine Below.alloc ?_ ?hp _); case hp => (first | omega | (simp only [World.size_alloc, World.size_setCell, World.size_drew]; omega) | (simp; done) | (simp; omega))) | with_reducible refine Below.drew ?_ | with_reducible refine below_drewN ?_ _))) ((hd).mono (by (first | omega | (simp only [World.size_alloc, World.size_setCell, World.size_drew]; omega) | (simp; done) | (simp; omega)))); (try simp only [World.size_alloc, World.size_setCell, World.size_drew] at hd_z hd_c hd_f); clear hd); have hd_k1 := (hd_c w.heap.size 1 (by omega)).trans hb_k1; have hd_k2 := (hd_c w.heap.size 2 (by omega)).trans hb_k2; have hd_k3 := (hd_c w.heap.size 3 (by omega)).trans hb_k3))
  all_goals
    go_ret
    go_light
    refine ⟨?_, by (repeat (first | with_reducible exact Below.refl _ _ | with_reducible assumption | ((with_reducible refine Below.setCell ?_ ?hp _); case hp => (first | omega | (simp only [World.size_alloc, World.size_setCell, World.size_drew]; omega) | (simp; done) | (simp; omega))) | ((with_reducible refine Below.alloc ?_ ?hp _); case hp => (first | omega | (simp only [World.size_alloc, World.size_setCell, World.size_drew]; omega) | (simp; done) | (simp; omega))) | with_reducible refine Below.drew ?_ | with_reducible refine below_drewN ?_ _))⟩
    simp only [beq_iff_eq, beq_eq_false_iff_ne, ne_eq, decide_eq_true_eq, decide_eq_false_iff_not, Bool.not_eq_true', Bool.not_eq_false'] at *
    first
      | rfl
      | (show Ending.returned (.int .i64 _) = .returned (.int .i64 (one x i n))
         congr 2
         unfold one
         rw [HF.out, hBe.out]
         have hcc := HC.out
         repeat (first | rw [if_pos (by omega)] | rw [if_neg (by omega)]))

set_option maxHeartbeats 400000 in
theorem rone_c100n (x : Insn) (hx : x.Ok) (i n : Nat) (w : World) (hn : n ≤ 1000000) (hi : i ≤ 1000000) (hcc : x.code = 100) (hbh : ¬ i + 1 < n) :
    Calls Try.prog 57 #[(Value.agg #[.int .u16 x.code, .int .u8 x.jt, .int .u8 x.jf, .int .u32 x.k]), .int .i64 i, .int .i64 n] w fun e w' => e = .returned (.int .i64 (one x i n)) ∧ Below w.heap.size w w' := by
  have hc := hx.code
  have hk := hx.k
  have hjt := hx.jt
  have hjf := hx.jf
  have hBe := Lib.hid (show behind i n = 0 by unfold behind; rw [if_neg hbh])
  have HF := Lib.hid (show form x.code = 1 by rw [hcc]; decide)
  have q1 : (nameOf x.code).toList = [108, 115, 104, 46, 107] := by rw [hcc]; decide +kernel
  have HC := Lib.hid hcc
  clear hcc
  go_enter Try.func57, Try.ntmps57
  go_wp2_with (first | (go_at_call 69; refine (rname_any x.code hc _).mono ?_; rw [HF.out]; rintro e w' ⟨rfl, hb⟩; (obtain ⟨hb_c, hb_f⟩ := bcell hb; have hb_z := (hb).size; have hb_0 : Below w.heap.size w _ := Below.trans (by (repeat (first | with_reducible exact Below.refl _ _ | with_reducible assumption | ((with_reducible refine Below.setCell ?_ ?hp _); case hp => (first | omega | (simp only [World.size_alloc, World.size_setCell, World.size_drew]; omega) | (simp; done) | (simp; omega))) | ((with_reducible refine Below.alloc ?_ ?hp _); case hp => (first | omega | (simp only [World.size_alloc, World.size_setCell, World.size_drew]; omega) | (simp; done) | (simp; omega))) | with_reducible refine Below.drew ?_ | with_reducible refine below_drewN ?_ _))) ((hb).mono (by (first | omega | (simp only [World.size_alloc, World.size_setCell, World.size_drew]; omega) | (simp; done) | (simp; omega)))); (try simp only [World.size_alloc, World.size_setCell, World.size_drew] at hb_z hb_c hb_f); clear hb); (have hb_k0 := hb_c (w.heap.size) 0 (by omega); simp [go_sem] at hb_k0; have hb_k1 := hb_c (w.heap.size) 1 (by omega); simp [go_sem] at hb_k1; have hb_k2 := hb_c (w.heap.size) 2 (by omega); simp [go_sem] at hb_k2; have hb_k3 := hb_c (w.heap.size) 3 (by omega); simp [go_sem] at hb_k3)) | (go_at_call 97; refine (rform_any x.code hc _).mono ?_; rw [HF.out]; rintro e w'' ⟨rfl, hd⟩; (obtain ⟨hd_c, hd_f⟩ := bcell hd; have hd_z := (hd).size; have hd_0 : Below w.heap.size w _ := Below.trans (by (repeat (first | with_reducible exact Below.refl _ _ | with_reducible assumption | ((with_reducible refine Below.setCell ?_ ?hp _); case hp => (first | omega | (simp only [World.size_alloc, World.size_setCell, World.size_drew]; omega) | (simp; done) | (simp; omega))) | ((with_reducible refine Below.alloc ?_ ?hp _); case hp => (first | omega | (simp only [World.size_alloc, World.size_setCell, World.size_drew]; omega) | (simp; done) | (simp; omega))) | with_reducible refine Below.drew ?_ | with_reducible refine below_drewN ?_ _))) ((hd).mono (by (first | omega | (simp only [World.size_alloc, World.size_setCell, World.size_drew]; omega) | (simp; done) | (simp; omega)))); (try simp only [World.size_alloc, World.size_setCell, World.size_drew] at hd_z hd_c hd_f); clear hd); have hd_k1 := (hd_c w.heap.size 1 (by omega)).trans hb_k1; have hd_k2 := (hd_c w.heap.size 2 (by omega)).trans hb_k2; have hd_k3 := (hd_c w.heap.size 3 (by omega)).trans hb_k3))
  all_goals
    go_ret
    go_light
    refine ⟨?_, by (repeat (first | with_reducible exact Below.refl _ _ | with_reducible assumption | ((with_reducible refine Below.setCell ?_ ?hp _); case hp => (first | omega | (simp only [World.size_alloc, World.size_setCell, World.size_drew]; omega) | (simp; done) | (simp; omega))) | ((with_reducible refine Below.alloc ?_ ?hp _); case hp => (first | omega | (simp only [World.size_alloc, World.size_setCell, World.size_drew]; omega) | (simp; done) | (simp; omega))) | with_reducible refine Below.drew ?_ | with_reducible refine below_drewN ?_ _))⟩
    simp only [beq_iff_eq, beq_eq_false_iff_ne, ne_eq, decide_eq_true_eq, decide_eq_false_iff_not, Bool.not_eq_true', Bool.not_eq_false'] at *
    first
      | rfl
      | (show Ending.returned (.int .i64 _) = .returned (.int .i64 (one x i n))
         congr 2
         unfold one
         rw [HF.out, hBe.out]
         have hcc := HC.out
         repeat (first | rw [if_pos (by omega)] | rw [if_neg (by omega)]))

set_option maxHeartbeats 400000 in
theorem rone_c116y (x : Insn) (hx : x.Ok) (i n : Nat) (w : World) (hn : n ≤ 1000000) (hi : i ≤ 1000000) (hcc : x.code = 116) (hbh : i + 1 < n) :
    Calls Try.prog 57 #[(Value.agg #[.int .u16 x.code, .int .u8 x.jt, .int .u8 x.jf, .int .u32 x.k]), .int .i64 i, .int .i64 n] w fun e w' => e = .returned (.int .i64 (one x i n)) ∧ Below w.heap.size w w' := by
  have hc := hx.code
  have hk := hx.k
  have hjt := hx.jt
  have hjf := hx.jf
  have hBe := Lib.hid (show behind i n = n - 1 - i by unfold behind; rw [if_pos hbh])
  have HF := Lib.hid (show form x.code = 1 by rw [hcc]; decide)
  have q1 : (nameOf x.code).toList = [114, 115, 104, 46, 107] := by rw [hcc]; decide +kernel
  have HC := Lib.hid hcc
  clear hcc
  go_enter Try.func57, Try.ntmps57
  go_wp2_with (first | (go_at_call 69; refine (rname_any x.code hc _).mono ?_; rw [HF.out]; rintro e w' ⟨rfl, hb⟩; (obtain ⟨hb_c, hb_f⟩ := bcell hb; have hb_z := (hb).size; have hb_0 : Below w.heap.size w _ := Below.trans (by (repeat (first | with_reducible exact Below.refl _ _ | with_reducible assumption | ((with_reducible refine Below.setCell ?_ ?hp _); case hp => (first | omega | (simp only [World.size_alloc, World.size_setCell, World.size_drew]; omega) | (simp; done) | (simp; omega))) | ((with_reducible refine Below.alloc ?_ ?hp _); case hp => (first | omega | (simp only [World.size_alloc, World.size_setCell, World.size_drew]; omega) | (simp; done) | (simp; omega))) | with_reducible refine Below.drew ?_ | with_reducible refine below_drewN ?_ _))) ((hb).mono (by (first | omega | (simp only [World.size_alloc, World.size_setCell, World.size_drew]; omega) | (simp; done) | (simp; omega)))); (try simp only [World.size_alloc, World.size_setCell, World.size_drew] at hb_z hb_c hb_f); clear hb); (have hb_k0 := hb_c (w.heap.size) 0 (by omega); simp [go_sem] at hb_k0; have hb_k1 := hb_c (w.heap.size) 1 (by omega); simp [go_sem] at hb_k1; have hb_k2 := hb_c (w.heap.size) 2 (by omega); simp [go_sem] at hb_k2; have hb_k3 := hb_c (w.heap.size) 3 (by omega); simp [go_sem] at hb_k3)) | (go_at_call 97; refine (rform_any x.code hc _).mono ?_; rw [HF.out]; rintro e w'' ⟨rfl, hd⟩; (obtain ⟨hd_c, hd_f⟩ := bcell hd; have hd_z := (hd).size; have hd_0 : Below w.heap.size w _ := Below.trans (by (repeat (first | with_reducible exact Below.refl _ _ | with_reducible assumption | ((with_reducible refine Below.setCell ?_ ?hp _); case hp => (first | omega | (simp only [World.size_alloc, World.size_setCell, World.size_drew]; omega) | (simp; done) | (simp; omega))) | ((with_reducible refine Below.alloc ?_ ?hp _); case hp => (first | omega | (simp only [World.size_alloc, World.size_setCell, World.size_drew]; omega) | (simp; done) | (simp; omega))) | with_reducible refine Below.drew ?_ | with_reducible refine below_drewN ?_ _))) ((hd).mono (by (first | omega | (simp only [World.size_alloc, World.size_setCell, World.size_drew]; omega) | (simp; done) | (simp; omega)))); (try simp only [World.size_alloc, World.size_setCell, World.size_drew] at hd_z hd_c hd_f); clear hd); have hd_k1 := (hd_c w.heap.size 1 (by omega)).trans hb_k1; have hd_k2 := (hd_c w.heap.size 2 (by omega)).trans hb_k2; have hd_k3 := (hd_c w.heap.size 3 (by omega)).trans hb_k3))
  all_goals
    go_ret
    go_light
    refine ⟨?_, by (repeat (first | with_reducible exact Below.refl _ _ | with_reducible assumption | ((with_reducible refine Below.setCell ?_ ?hp _); case hp => (first | omega | (simp only [World.size_alloc, World.size_setCell, World.size_drew]; omega) | (simp; done) | (simp; omega))) | ((with_reducible refine Below.alloc ?_ ?hp _); case hp => (first | omega | (simp only [World.size_alloc, World.size_setCell, World.size_drew]; omega) | (simp; done) | (simp; omega))) | with_reducible refine Below.drew ?_ | with_reducible refine below_drewN ?_ _))⟩
    simp only [beq_iff_eq, beq_eq_false_iff_ne, ne_eq, decide_eq_true_eq, decide_eq_false_iff_not, Bool.not_eq_true', Bool.not_eq_false'] at *
    first
      | rfl
      | (show Ending.returned (.int .i64 _) = .returned (.int .i64 (one x i n))
         congr 2
         unfold one
         rw [HF.out, hBe.out]
         have hcc := HC.out
         repeat (first | rw [if_pos (by omega)] | rw [if_neg (by omega)]))

set_option maxHeartbeats 400000 in
theorem rone_c116n (x : Insn) (hx : x.Ok) (i n : Nat) (w : World) (hn : n ≤ 1000000) (hi : i ≤ 1000000) (hcc : x.code = 116) (hbh : ¬ i + 1 < n) :
    Calls Try.prog 57 #[(Value.agg #[.int .u16 x.code, .int .u8 x.jt, .int .u8 x.jf, .int .u32 x.k]), .int .i64 i, .int .i64 n] w fun e w' => e = .returned (.int .i64 (one x i n)) ∧ Below w.heap.size w w' := by
  have hc := hx.code
  have hk := hx.k
  have hjt := hx.jt
  have hjf := hx.jf
  have hBe := Lib.hid (show behind i n = 0 by unfold behind; rw [if_neg hbh])
  have HF := Lib.hid (show form x.code = 1 by rw [hcc]; decide)
  have q1 : (nameOf x.code).toList = [114, 115, 104, 46, 107] := by rw [hcc]; decide +kernel
  have HC := Lib.hid hcc
  clear hcc
  go_enter Try.func57, Try.ntmps57
  go_wp2_with (first | (go_at_call 69; refine (rname_any x.code hc _).mono ?_; rw [HF.out]; rintro e w' ⟨rfl, hb⟩; (obtain ⟨hb_c, hb_f⟩ := bcell hb; have hb_z := (hb).size; have hb_0 : Below w.heap.size w _ := Below.trans (by (repeat (first | with_reducible exact Below.refl _ _ | with_reducible assumption | ((with_reducible refine Below.setCell ?_ ?hp _); case hp => (first | omega | (simp only [World.size_alloc, World.size_setCell, World.size_drew]; omega) | (simp; done) | (simp; omega))) | ((with_reducible refine Below.alloc ?_ ?hp _); case hp => (first | omega | (simp only [World.size_alloc, World.size_setCell, World.size_drew]; omega) | (simp; done) | (simp; omega))) | with_reducible refine Below.drew ?_ | with_reducible refine below_drewN ?_ _))) ((hb).mono (by (first | omega | (simp only [World.size_alloc, World.size_setCell, World.size_drew]; omega) | (simp; done) | (simp; omega)))); (try simp only [World.size_alloc, World.size_setCell, World.size_drew] at hb_z hb_c hb_f); clear hb); (have hb_k0 := hb_c (w.heap.size) 0 (by omega); simp [go_sem] at hb_k0; have hb_k1 := hb_c (w.heap.size) 1 (by omega); simp [go_sem] at hb_k1; have hb_k2 := hb_c (w.heap.size) 2 (by omega); simp [go_sem] at hb_k2; have hb_k3 := hb_c (w.heap.size) 3 (by omega); simp [go_sem] at hb_k3)) | (go_at_call 97; refine (rform_any x.code hc _).mono ?_; rw [HF.out]; rintro e w'' ⟨rfl, hd⟩; (obtain ⟨hd_c, hd_f⟩ := bcell hd; have hd_z := (hd).size; have hd_0 : Below w.heap.size w _ := Below.trans (by (repeat (first | with_reducible exact Below.refl _ _ | with_reducible assumption | ((with_reducible refine Below.setCell ?_ ?hp _); case hp => (first | omega | (simp only [World.size_alloc, World.size_setCell, World.size_drew]; omega) | (simp; done) | (simp; omega))) | ((with_reducible refine Below.alloc ?_ ?hp _); case hp => (first | omega | (simp only [World.size_alloc, World.size_setCell, World.size_drew]; omega) | (simp; done) | (simp; omega))) | with_reducible refine Below.drew ?_ | with_reducible refine below_drewN ?_ _))) ((hd).mono (by (first | omega | (simp only [World.size_alloc, World.size_setCell, World.size_drew]; omega) | (simp; done) | (simp; omega)))); (try simp only [World.size_alloc, World.size_setCell, World.size_drew] at hd_z hd_c hd_f); clear hd); have hd_k1 := (hd_c w.heap.size 1 (by omega)).trans hb_k1; have hd_k2 := (hd_c w.heap.size 2 (by omega)).trans hb_k2; have hd_k3 := (hd_c w.heap.size 3 (by omega)).trans hb_k3))
  all_goals
    go_ret
    go_light
    refine ⟨?_, by (repeat (first | with_reducible exact Below.refl _ _ | with_reducible assumption | ((with_reducible refine Below.setCell ?_ ?hp _); case hp => (first | omega | (simp only [World.size_alloc, World.size_setCell, World.size_drew]; omega) | (simp; done) | (simp; omega))) | ((with_reducible refine Below.alloc ?_ ?hp _); case hp => (first | omega | (simp only [World.size_alloc, World.size_setCell, World.size_drew]; omega) | (simp; done) | (simp; omega))) | with_reducible refine Below.drew ?_ | with_reducible refine below_drewN ?_ _))⟩
    simp only [beq_iff_eq, beq_eq_false_iff_ne, ne_eq, decide_eq_true_eq, decide_eq_false_iff_not, Bool.not_eq_true', Bool.not_eq_false'] at *
    first
      | rfl
      | (show Ending.returned (.int .i64 _) = .returned (.int .i64 (one x i n))
         congr 2
         unfold one
         rw [HF.out, hBe.out]
         have hcc := HC.out
         repeat (first | rw [if_pos (by omega)] | rw [if_neg (by omega)]))

theorem rone_any (x : Insn) (hx : x.Ok) (i n : Nat) (w : World) (hn : n ≤ 1000000) (hi : i ≤ 1000000) :
    Calls Try.prog 57 #[(Value.agg #[.int .u16 x.code, .int .u8 x.jt, .int .u8 x.jf, .int .u32 x.k]), .int .i64 i, .int .i64 n] w fun e w' => e = .returned (.int .i64 (one x i n)) ∧ Below w.heap.size w w' := by
  by_cases hbh : i + 1 < n
  · by_cases h1 : x.code = 32
    · exact rone_c32y x hx i n w hn hi h1 hbh
    by_cases h2 : x.code = 52
    · exact rone_c52y x hx i n w hn hi h2 hbh
    by_cases h3 : x.code = 100
    · exact rone_c100y x hx i n w hn hi h3 hbh
    by_cases h4 : x.code = 116
    · exact rone_c116y x hx i n w hn hi h4 hbh
    have hcc : x.code ≠ 32 ∧ x.code ≠ 52 ∧ x.code ≠ 100 ∧ x.code ≠ 116 := ⟨h1, h2, h3, h4⟩
    rcases form_vals x.code with hf | hf | hf | hf | hf | hf | hf | hf
    · exact rone_fm1y x hx i n w hn hi hf hcc hbh
    · exact rone_f0y x hx i n w hn hi hf hcc hbh
    · exact rone_f1y x hx i n w hn hi hf hcc hbh
    · exact rone_f2y x hx i n w hn hi hf hcc hbh
    · exact rone_f3y x hx i n w hn hi hf hcc hbh
    · exact rone_f4y x hx i n w hn hi hf hcc hbh
    · exact rone_f5y x hx i n w hn hi hf hcc hbh
    · exact rone_f6y x hx i n w hn hi hf hcc hbh
  · by_cases h1 : x.code = 32
    · exact rone_c32n x hx i n w hn hi h1 hbh
    by_cases h2 : x.code = 52
    · exact rone_c52n x hx i n w hn hi h2 hbh
    by_cases h3 : x.code = 100
    · exact rone_c100n x hx i n w hn hi h3 hbh
    by_cases h4 : x.code = 116
    · exact rone_c116n x hx i n w hn hi h4 hbh
    have hcc : x.code ≠ 32 ∧ x.code ≠ 52 ∧ x.code ≠ 100 ∧ x.code ≠ 116 := ⟨h1, h2, h3, h4⟩
    rcases form_vals x.code with hf | hf | hf | hf | hf | hf | hf | hf
    · exact rone_fm1n x hx i n w hn hi hf hcc hbh
    · exact rone_f0n x hx i n w hn hi hf hcc hbh
    · exact rone_f1n x hx i n w hn hi hf hcc hbh
    · exact rone_f2n x hx i n w hn hi hf hcc hbh
    · exact rone_f3n x hx i n w hn hi hf hcc hbh
    · exact rone_f4n x hx i n w hn hi hf hcc hbh
    · exact rone_f5n x hx i n w hn hi hf hcc hbh
    · exact rone_f6n x hx i n w hn hi hf hcc hbh

end Go.Proofs.Ytfjbanfibmpalaa

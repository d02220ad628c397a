/- Contract of check.One. -/
import Derived.Test.YtfjbanfibmpalaaKA
import Derived.Deep.QuietTactic
import Derived.BigQuiet
set_option linter.unusedVariables false
set_option linter.unusedSimpArgs false
namespace Go.Proofs.Ytfjbanfibmpalaa
open Go.RowKit

theorem behind_le (i n : Nat) : behind i n ≤ n := by unfold behind; split <;> omega
theorem behind_quiet (i n : Nat) (w : World) (hn : n ≤ 1000000) (hi : i ≤ 1000000) {m : Nat} :
    Calls Try.prog 106 #[.int .i64 i, .int .i64 n] (w.drewN m) fun e w' => e = .returned (.int .u64 (behind i n)) ∧ ∃ m', w' = w.drewN m' :=
  (behind_any i n (w.drewN m) hn hi).mono fun _ _ ⟨he, hw⟩ => ⟨he, m, hw.symm⟩

theorem behind_quiet2 (i n : Nat) (w : World) (hn : n ≤ 1000000) (hi : i ≤ 1000000) {a m : Nat} :
    Calls Try.prog 106 #[.int .i64 i, .int .i64 n] (w.drewN (a + m)) fun e w' => e = .returned (.int .u64 (behind i n)) ∧ ∃ m', w' = w.drewN (a + m') :=
  (behind_any i n _ hn hi).mono fun _ _ ⟨he, hw⟩ => ⟨he, m, hw.symm⟩

set_option maxHeartbeats 400000 in
theorem cone_fm1 (x : Insn) (hx : x.Ok) (i n : Nat) (w : World) (hn : n ≤ 1000000) (hi : i ≤ 1000000) (hf : form x.code = -1) (hcc : x.code ≠ 32 ∧ x.code ≠ 52 ∧ x.code ≠ 100 ∧ x.code ≠ 116) :
    Calls Try.prog 64 #[(Value.agg #[.int .u16 x.code, .int .u8 x.jt, .int .u8 x.jf, .int .u32 x.k]), .int .i64 i, .int .i64 n] w fun e w' => e = .returned (.int .i64 (one x i n)) ∧ Below w.heap.size w w' := by
  have hc := hx.code
  have hk := hx.k
  have hjt := hx.jt
  have hjf := hx.jf
  have hbb := behind_le i n
  have HF := Lib.hid hf
  have c1 : ((x.code : Int) == 32) = false := by simp; omega
  have c2 : ((x.code : Int) == 52) = false := by simp; omega
  have c3 : ((x.code : Int) == 100) = false := by simp; omega
  have c4 : ((x.code : Int) == 116) = false := by simp; omega
  have HC := Lib.hid hcc
  clear hf hcc
  go_enter Try.func64, Try.ntmps64
  go_wp2_with (first | (go_at_call 105; refine (form_any x.code hc _).mono ?_; rw [HF.out]; rintro e w' ⟨rfl, hb⟩; (obtain ⟨hb_c, hb_f⟩ := bcell hb; have hb_z := (hb).size; have hb_0 : Below w.heap.size w _ := Below.trans (by (repeat (first | with_reducible exact Below.refl _ _ | with_reducible assumption | ((with_reducible refine Below.setCell ?_ ?hp _); case hp => (first | omega | (simp only [World.size_alloc, World.size_setCell, World.size_drew]; omega) | (simp; done) | (simp; omega))) | ((with_reducible refine Below.alloc ?_ ?hp _); case hp => (first | omega | (simp only [World.size_alloc, World.size_setCell, World.size_drew]; omega) | (simp; done) | (simp; omega))) | with_reducible refine Below.drew ?_ | with_reducible refine below_drewN ?_ _))) ((hb).mono (by (first | omega | (simp only [World.size_alloc, World.size_setCell, World.size_drew]; omega) | (simp; done) | (simp; omega)))); (try simp only [World.size_alloc, World.size_setCell, World.size_drew] at hb_z hb_c hb_f); clear hb); (have hb_k0 := hb_c (w.heap.size) 0 (by omega); simp [go_sem] at hb_k0; have hb_k1 := hb_c (w.heap.size) 1 (by omega); simp [go_sem] at hb_k1; have hb_k2 := hb_c (w.heap.size) 2 (by omega); simp [go_sem] at hb_k2; have hb_k3 := hb_c (w.heap.size) 3 (by omega); simp [go_sem] at hb_k3)))
  all_goals first
    | (go_ret; go_light; refine ⟨?_, by (try refine below_drewN ?_ _); (repeat (first | with_reducible exact Below.refl _ _ | with_reducible assumption | ((with_reducible refine Below.setCell ?_ ?hp _); case hp => (first | omega | (simp only [World.size_alloc, World.size_setCell, World.size_drew]; omega) | (simp; done) | (simp; omega))) | ((with_reducible refine Below.alloc ?_ ?hp _); case hp => (first | omega | (simp only [World.size_alloc, World.size_setCell, World.size_drew]; omega) | (simp; done) | (simp; omega))) | with_reducible refine Below.drew ?_ | with_reducible refine below_drewN ?_ _))⟩; (simp only [beq_iff_eq, beq_eq_false_iff_ne, ne_eq, decide_eq_true_eq, decide_eq_false_iff_not, Bool.not_eq_true', Bool.not_eq_false'] at *); (first | rfl | (show Ending.returned (.int .i64 _) = .returned (.int .i64 (one x i n)); congr 2; unfold one; have hcc := HC.out; rw [HF.out]; repeat (first | rw [if_pos (by omega)] | rw [if_neg (by omega)]))))
    | (go_quiet ((go_at_call 106; (first | exact behind_quiet _ _ _ hn hi | exact behind_quiet2 _ _ _ hn hi)))
       go_wp2
       all_goals first
         | (go_ret; go_light; refine ⟨?_, by (try refine below_drewN ?_ _); (repeat (first | with_reducible exact Below.refl _ _ | with_reducible assumption | ((with_reducible refine Below.setCell ?_ ?hp _); case hp => (first | omega | (simp only [World.size_alloc, World.size_setCell, World.size_drew]; omega) | (simp; done) | (simp; omega))) | ((with_reducible refine Below.alloc ?_ ?hp _); case hp => (first | omega | (simp only [World.size_alloc, World.size_setCell, World.size_drew]; omega) | (simp; done) | (simp; omega))) | with_reducible refine Below.drew ?_ | with_reducible refine below_drewN ?_ _))⟩; (simp only [beq_iff_eq, beq_eq_false_iff_ne, ne_eq, decide_eq_true_eq, decide_eq_false_iff_not, Bool.not_eq_true', Bool.not_eq_false'] at *); (first | rfl | (show Ending.returned (.int .i64 _) = .returned (.int .i64 (one x i n)); congr 2; unfold one; have hcc := HC.out; rw [HF.out]; repeat (first | rw [if_pos (by omega)] | rw [if_neg (by omega)]))))
         | (go_quiet ((go_at_call 106; (first | exact behind_quiet _ _ _ hn hi | exact behind_quiet2 _ _ _ hn hi)))
            go_wp2
            all_goals (go_ret; go_light; refine ⟨?_, by (try refine below_drewN ?_ _); (repeat (first | with_reducible exact Below.refl _ _ | with_reducible assumption | ((with_reducible refine Below.setCell ?_ ?hp _); case hp => (first | omega | (simp only [World.size_alloc, World.size_setCell, World.size_drew]; omega) | (simp; done) | (simp; omega))) | ((with_reducible refine Below.alloc ?_ ?hp _); case hp => (first | omega | (simp only [World.size_alloc, World.size_setCell, World.size_drew]; omega) | (simp; done) | (simp; omega))) | with_reducible refine Below.drew ?_ | with_reducible refine below_drewN ?_ _))⟩; (simp only [beq_iff_eq, beq_eq_false_iff_ne, ne_eq, decide_eq_true_eq, decide_eq_false_iff_not, Bool.not_eq_true', Bool.not_eq_false'] at *); (first | rfl | (show Ending.returned (.int .i64 _) = .returned (.int .i64 (one x i n)); congr 2; unfold one; have hcc := HC.out; rw [HF.out]; repeat (first | rw [if_pos (by omega)] | rw [if_neg (by omega)]))))))

set_option maxHeartbeats 400000 in
theorem cone_f0 (x : Insn) (hx : x.Ok) (i n : Nat) (w : World) (hn : n ≤ 1000000) (hi : i ≤ 1000000) (hf : form x.code = 0) (hcc : x.code ≠ 32 ∧ x.code ≠ 52 ∧ x.code ≠ 100 ∧ x.code ≠ 116) :
    Calls Try.prog 64 #[(Value.agg #[.int .u16 x.code, .int .u8 x.jt, .int .u8 x.jf, .int .u32 x.k]), .int .i64 i, .int .i64 n] w fun e w' => e = .returned (.int .i64 (one x i n)) ∧ Below w.heap.size w w' := by
  have hc := hx.code
  have hk := hx.k
  have hjt := hx.jt
  have hjf := hx.jf
  have hbb := behind_le i n
  have HF := Lib.hid hf
  have c1 : ((x.code : Int) == 32) = false := by simp; omega
  have c2 : ((x.code : Int) == 52) = false := by simp; omega
  have c3 : ((x.code : Int) == 100) = false := by simp; omega
  have c4 : ((x.code : Int) == 116) = false := by simp; omega
  have HC := Lib.hid hcc
  clear hf hcc
  go_enter Try.func64, Try.ntmps64
  go_wp2_with (first | (go_at_call 105; refine (form_any x.code hc _).mono ?_; rw [HF.out]; rintro e w' ⟨rfl, hb⟩; (obtain ⟨hb_c, hb_f⟩ := bcell hb; have hb_z := (hb).size; have hb_0 : Below w.heap.size w _ := Below.trans (by (repeat (first | with_reducible exact Below.refl _ _ | with_reducible assumption | ((with_reducible refine Below.setCell ?_ ?hp _); case hp => (first | omega | (simp only [World.size_alloc, World.size_setCell, World.size_drew]; omega) | (simp; done) | (simp; omega))) | ((with_reducible refine Below.alloc ?_ ?hp _); case hp => (first | omega | (simp only [World.size_alloc, World.size_setCell, World.size_drew]; omega) | (simp; done) | (simp; omega))) | with_reducible refine Below.drew ?_ | with_reducible refine below_drewN ?_ _))) ((hb).mono (by (first | omega | (simp only [World.size_alloc, World.size_setCell, World.size_drew]; omega) | (simp; done) | (simp; omega)))); (try simp only [World.size_alloc, World.size_setCell, World.size_drew] at hb_z hb_c hb_f); clear hb); (have hb_k0 := hb_c (w.heap.size) 0 (by omega); simp [go_sem] at hb_k0; have hb_k1 := hb_c (w.heap.size) 1 (by omega); simp [go_sem] at hb_k1; have hb_k2 := hb_c (w.heap.size) 2 (by omega); simp [go_sem] at hb_k2; have hb_k3 := hb_c (w.heap.size) 3 (by omega); simp [go_sem] at hb_k3)))
  all_goals first
    | (go_ret; go_light; refine ⟨?_, by (try refine below_drewN ?_ _); (repeat (first | with_reducible exact Below.refl _ _ | with_reducible assumption | ((with_reducible refine Below.setCell ?_ ?hp _); case hp => (first | omega | (simp only [World.size_alloc, World.size_setCell, World.size_drew]; omega) | (simp; done) | (simp; omega))) | ((with_reducible refine Below.alloc ?_ ?hp _); case hp => (first | omega | (simp only [World.size_alloc, World.size_setCell, World.size_drew]; omega) | (simp; done) | (simp; omega))) | with_reducible refine Below.drew ?_ | with_reducible refine below_drewN ?_ _))⟩; (simp only [beq_iff_eq, beq_eq_false_iff_ne, ne_eq, decide_eq_true_eq, decide_eq_false_iff_not, Bool.not_eq_true', Bool.not_eq_false'] at *); (first | rfl | (show Ending.returned (.int .i64 _) = .returned (.int .i64 (one x i n)); congr 2; unfold one; have hcc := HC.out; rw [HF.out]; repeat (first | rw [if_pos (by omega)] | rw [if_neg (by omega)]))))
    | (go_quiet ((go_at_call 106; (first | exact behind_quiet _ _ _ hn hi | exact behind_quiet2 _ _ _ hn hi)))
       go_wp2
       all_goals first
         | (go_ret; go_light; refine ⟨?_, by (try refine below_drewN ?_ _); (repeat (first | with_reducible exact Below.refl _ _ | with_reducible assumption | ((with_reducible refine Below.setCell ?_ ?hp _); case hp => (first | omega | (simp only [World.size_alloc, World.size_setCell, World.size_drew]; omega) | (simp; done) | (simp; omega))) | ((with_reducible refine Below.alloc ?_ ?hp _); case hp => (first | omega | (simp only [World.size_alloc, World.size_setCell, World.size_drew]; omega) | (simp; done) | (simp; omega))) | with_reducible refine Below.drew ?_ | with_reducible refine below_drewN ?_ _))⟩; (simp only [beq_iff_eq, beq_eq_false_iff_ne, ne_eq, decide_eq_true_eq, decide_eq_false_iff_not, Bool.not_eq_true', Bool.not_eq_false'] at *); (first | rfl | (show Ending.returned (.int .i64 _) = .returned (.int .i64 (one x i n)); congr 2; unfold one; have hcc := HC.out; rw [HF.out]; repeat (first | rw [if_pos (by omega)] | rw [if_neg (by omega)]))))
         | (go_quiet ((go_at_call 106; (first | exact behind_quiet _ _ _ hn hi | exact behind_quiet2 _ _ _ hn hi)))
            go_wp2
            all_goals (go_ret; go_light; refine ⟨?_, by (try refine below_drewN ?_ _); (repeat (first | with_reducible exact Below.refl _ _ | with_reducible assumption | ((with_reducible refine Below.setCell ?_ ?hp _); case hp => (first | omega | (simp only [World.size_alloc, World.size_setCell, World.size_drew]; omega) | (simp; done) | (simp; omega))) | ((with_reducible refine Below.alloc ?_ ?hp _); case hp => (first | omega | (simp only [World.size_alloc, World.size_setCell, World.size_drew]; omega) | (simp; done) | (simp; omega))) | with_reducible refine Below.drew ?_ | with_reducible refine below_drewN ?_ _))⟩; (simp only [beq_iff_eq, beq_eq_false_iff_ne, ne_eq, decide_eq_true_eq, decide_eq_false_iff_not, Bool.not_eq_true', Bool.not_eq_false'] at *); (first | rfl | (show Ending.returned (.int .i64 _) = .returned (.int .i64 (one x i n)); congr 2; unfold one; have hcc := HC.out; rw [HF.out]; repeat (first | rw [if_pos (by omega)] | rw [if_neg (by omega)]))))))

set_option maxHeartbeats 400000 in
theorem cone_f1 (x : Insn) (hx : x.Ok) (i n : Nat) (w : World) (hn : n ≤ 1000000) (hi : i ≤ 1000000) (hf : form x.code = 1) (hcc : x.code ≠ 32 ∧ x.code ≠ 52 ∧ x.code ≠ 100 ∧ x.code ≠ 116) :
    Calls Try.prog 64 #[(Value.agg #[.int .u16 x.code, .int .u8 x.jt, .int .u8 x.jf, .int .u32 x.k]), .int .i64 i, .int .i64 n] w fun e w' => e = .returned (.int .i64 (one x i n)) ∧ Below w.heap.size w w' := by
  have hc := hx.code
  have hk := hx.k
  have hjt := hx.jt
  have hjf := hx.jf
  have hbb := behind_le i n
  have HF := Lib.hid hf
  have c1 : ((x.code : Int) == 32) = false := by simp; omega
  have c2 : ((x.code : Int) == 52) = false := by simp; omega
  have c3 : ((x.code : Int) == 100) = false := by simp; omega
  have c4 : ((x.code : Int) == 116) = false := by simp; omega
  have HC := Lib.hid hcc
  clear hf hcc
  go_enter Try.func64, Try.ntmps64
  go_wp2_with (first | (go_at_call 105; refine (form_any x.code hc _).mono ?_; rw [HF.out]; rintro e w' ⟨rfl, hb⟩; (obtain ⟨hb_c, hb_f⟩ := bcell hb; have hb_z := (hb).size; have hb_0 : Below w.heap.size w _ := Below.trans (by (repeat (first | with_reducible exact Below.refl _ _ | with_reducible assumption | ((with_reducible refine Below.setCell ?_ ?hp _); case hp => (first | omega | (simp only [World.size_alloc, World.size_setCell, World.size_drew]; omega) | (simp; done) | (simp; omega))) | ((with_reducible refine Below.alloc ?_ ?hp _); case hp => (first | omega | (simp only [World.size_alloc, World.size_setCell, World.size_drew]; omega) | (simp; done) | (simp; omega))) | with_reducible refine Below.drew ?_ | with_reducible refine below_drewN ?_ _))) ((hb).mono (by (first | omega | (simp only [World.size_alloc, World.size_setCell, World.size_drew]; omega) | (simp; done) | (simp; omega)))); (try simp only [World.size_alloc, World.size_setCell, World.size_drew] at hb_z hb_c hb_f); clear hb); (have hb_k0 := hb_c (w.heap.size) 0 (by omega); simp [go_sem] at hb_k0; have hb_k1 := hb_c (w.heap.size) 1 (by omega); simp [go_sem] at hb_k1; have hb_k2 := hb_c (w.heap.size) 2 (by omega); simp [go_sem] at hb_k2; have hb_k3 := hb_c (w.heap.size) 3 (by omega); simp [go_sem] at hb_k3)))
  all_goals first
    | (go_ret; go_light; refine ⟨?_, by (try refine below_drewN ?_ _); (repeat (first | with_reducible exact Below.refl _ _ | with_reducible assumption | ((with_reducible refine Below.setCell ?_ ?hp _); case hp => (first | omega | (simp only [World.size_alloc, World.size_setCell, World.size_drew]; omega) | (simp; done) | (simp; omega))) | ((with_reducible refine Below.alloc ?_ ?hp _); case hp => (first | omega | (simp only [World.size_alloc, World.size_setCell, World.size_drew]; omega) | (simp; done) | (simp; omega))) | with_reducible refine Below.drew ?_ | with_reducible refine below_drewN ?_ _))⟩; (simp only [beq_iff_eq, beq_eq_false_iff_ne, ne_eq, decide_eq_true_eq, decide_eq_false_iff_not, Bool.not_eq_true', Bool.not_eq_false'] at *); (first | rfl | (show Ending.returned (.int .i64 _) = .returned (.int .i64 (one x i n)); congr 2; unfold one; have hcc := HC.out; rw [HF.out]; repeat (first | rw [if_pos (by omega)] | rw [if_neg (by omega)]))))
    | (go_quiet ((go_at_call 106; (first | exact behind_quiet _ _ _ hn hi | exact behind_quiet2 _ _ _ hn hi)))
       go_wp2
       all_goals first
         | (go_ret; go_light; refine ⟨?_, by (try refine below_drewN ?_ _); (repeat (first | with_reducible exact Below.refl _ _ | with_reducible assumption | ((with_reducible refine Below.setCell ?_ ?hp _); case hp => (first | omega | (simp only [World.size_alloc, World.size_setCell, World.size_drew]; omega) | (simp; done) | (simp; omega))) | ((with_reducible refine Below.alloc ?_ ?hp _); case hp => (first | omega | (simp only [World.size_alloc, World.size_setCell, World.size_drew]; omega) | (simp; done) | (simp; omega))) | with_reducible refine Below.drew ?_ | with_reducible refine below_drewN ?_ _))⟩; (simp only [beq_iff_eq, beq_eq_false_iff_ne, ne_eq, decide_eq_true_eq, decide_eq_false_iff_not, Bool.not_eq_true', Bool.not_eq_false'] at *); (first | rfl | (show Ending.returned (.int .i64 _) = .returned (.int .i64 (one x i n)); congr 2; unfold one; have hcc := HC.out; rw [HF.out]; repeat (first | rw [if_pos (by omega)] | rw [if_neg (by omega)]))))
         | (go_quiet ((go_at_call 106; (first | exact behind_quiet _ _ _ hn hi | exact behind_quiet2 _ _ _ hn hi)))
            go_wp2
            all_goals (go_ret; go_light; refine ⟨?_, by (try refine below_drewN ?_ _); (repeat (first | with_reducible exact Below.refl _ _ | with_reducible assumption | ((with_reducible refine Below.setCell ?_ ?hp _); case hp => (first | omega | (simp only [World.size_alloc, World.size_setCell, World.size_drew]; omega) | (simp; done) | (simp; omega))) | ((with_reducible refine Below.alloc ?_ ?hp _); case hp => (first | omega | (simp only [World.size_alloc, World.size_setCell, World.size_drew]; omega) | (simp; done) | (simp; omega))) | with_reducible refine Below.drew ?_ | with_reducible refine below_drewN ?_ _))⟩; (simp only [beq_iff_eq, beq_eq_false_iff_ne, ne_eq, decide_eq_true_eq, decide_eq_false_iff_not, Bool.not_eq_true', Bool.not_eq_false'] at *); (first | rfl | (show Ending.returned (.int .i64 _) = .returned (.int .i64 (one x i n)); congr 2; unfold one; have hcc := HC.out; rw [HF.out]; repeat (first | rw [if_pos (by omega)] | rw [if_neg (by omega)]))))))

set_option maxHeartbeats 400000 in
theorem cone_f2 (x : Insn) (hx : x.Ok) (i n : Nat) (w : World) (hn : n ≤ 1000000) (hi : i ≤ 1000000) (hf : form x.code = 2) (hcc : x.code ≠ 32 ∧ x.code ≠ 52 ∧ x.code ≠ 100 ∧ x.code ≠ 116) :
    Calls Try.prog 64 #[(Value.agg #[.int .u16 x.code, .int .u8 x.jt, .int .u8 x.jf, .int .u32 x.k]), .int .i64 i, .int .i64 n] w fun e w' => e = .returned (.int .i64 (one x i n)) ∧ Below w.heap.size w w' := by
  have hc := hx.code
  have hk := hx.k
  have hjt := hx.jt
  have hjf := hx.jf
  have hbb := behind_le i n
  have HF := Lib.hid hf
  have c1 : ((x.code : Int) == 32) = false := by simp; omega
  have c2 : ((x.code : Int) == 52) = false := by simp; omega
  have c3 : ((x.code : Int) == 100) = false := by simp; omega
  have c4 : ((x.code : Int) == 116) = false := by simp; omega
  have HC := Lib.hid hcc
  clear hf hcc
  go_enter Try.func64, Try.ntmps64
  go_wp2_with (first | (go_at_call 105; refine (form_any x.code hc _).mono ?_; rw [HF.out]; rintro e w' ⟨rfl, hb⟩; (obtain ⟨hb_c, hb_f⟩ := bcell hb; have hb_z := (hb).size; have hb_0 : Below w.heap.size w _ := Below.trans (by (repeat (first | with_reducible exact Below.refl _ _ | with_reducible assumption | ((with_reducible refine Below.setCell ?_ ?hp _); case hp => (first | omega | (simp only [World.size_alloc, World.size_setCell, World.size_drew]; omega) | (simp; done) | (simp; omega))) | ((with_reducible refine Below.alloc ?_ ?hp _); case hp => (first | omega | (simp only [World.size_alloc, World.size_setCell, World.size_drew]; omega) | (simp; done) | (simp; omega))) | with_reducible refine Below.drew ?_ | with_reducible refine below_drewN ?_ _))) ((hb).mono (by (first | omega | (simp only [World.size_alloc, World.size_setCell, World.size_drew]; omega) | (simp; done) | (simp; omega)))); (try simp only [World.size_alloc, World.size_setCell, World.size_drew] at hb_z hb_c hb_f); clear hb); (have hb_k0 := hb_c (w.heap.size) 0 (by omega); simp [go_sem] at hb_k0; have hb_k1 := hb_c (w.heap.size) 1 (by omega); simp [go_sem] at hb_k1; have hb_k2 := hb_c (w.heap.size) 2 (by omega); simp [go_sem] at hb_k2; have hb_k3 := hb_c (w.heap.size) 3 (by omega); simp [go_sem] at hb_k3)))
  all_goals first
    | (go_ret; go_light; refine ⟨?_, by (try refine below_drewN ?_ _); (repeat (first | with_reducible exact Below.refl _ _ | with_reducible assumption | ((with_reducible refine Below.setCell ?_ ?hp _); case hp => (first | omega | (simp only [World.size_alloc, World.size_setCell, World.size_drew]; omega) | (simp; done) | (simp; omega))) | ((with_reducible refine Below.alloc ?_ ?hp _); case hp => (first | omega | (simp only [World.size_alloc, World.size_setCell, World.size_drew]; omega) | (simp; done) | (simp; omega))) | with_reducible refine Below.drew ?_ | with_reducible refine below_drewN ?_ _))⟩; (simp only [beq_iff_eq, beq_eq_false_iff_ne, ne_eq, decide_eq_true_eq, decide_eq_false_iff_not, Bool.not_eq_true', Bool.not_eq_false'] at *); (first | rfl | (show Ending.returned (.int .i64 _) = .returned (.int .i64 (one x i n)); congr 2; unfold one; have hcc := HC.out; rw [HF.out]; repeat (first | rw [if_pos (by omega)] | rw [if_neg (by omega)]))))
    | (go_quiet ((go_at_call 106; (first | exact behind_quiet _ _ _ hn hi | exact behind_quiet2 _ _ _ hn hi)))
       go_wp2
       all_goals first
         | (go_ret; go_light; refine ⟨?_, by (try refine below_drewN ?_ _); (repeat (first | with_reducible exact Below.refl _ _ | with_reducible assumption | ((with_reducible refine Below.setCell ?_ ?hp _); case hp => (first | omega | (simp only [World.size_alloc, World.size_setCell, World.size_drew]; omega) | (simp; done) | (simp; omega))) | ((with_reducible refine Below.alloc ?_ ?hp _); case hp => (first | omega | (simp only [World.size_alloc, World.size_setCell, World.size_drew]; omega) | (simp; done) | (simp; omega))) | with_reducible refine Below.drew ?_ | with_reducible refine below_drewN ?_ _))⟩; (simp only [beq_iff_eq, beq_eq_false_iff_ne, ne_eq, decide_eq_true_eq, decide_eq_false_iff_not, Bool.not_eq_true', Bool.not_eq_false'] at *); (first | rfl | (show Ending.returned (.int .i64 _) = .returned (.int .i64 (one x i n)); congr 2; unfold one; have hcc := HC.out; rw [HF.out]; repeat (first | rw [if_pos (by omega)] | rw [if_neg (by omega)]))))
         | (go_quiet ((go_at_call 106; (first | exact behind_quiet _ _ _ hn hi | exact behind_quiet2 _ _ _ hn hi)))
            go_wp2
            all_goals (go_ret; go_light; refine ⟨?_, by (try refine below_drewN ?_ _); (repeat (first | with_reducible exact Below.refl _ _ | with_reducible assumption | ((with_reducible refine Below.setCell ?_ ?hp _); case hp => (first | omega | (simp only [World.size_alloc, World.size_setCell, World.size_drew]; omega) | (simp; done) | (simp; omega))) | ((with_reducible refine Below.alloc ?_ ?hp _); case hp => (first | omega | (simp only [World.size_alloc, World.size_setCell, World.size_drew]; omega) | (simp; done) | (simp; omega))) | with_reducible refine Below.drew ?_ | with_reducible refine below_drewN ?_ _))⟩; (simp only [beq_iff_eq, beq_eq_false_iff_ne, ne_eq, decide_eq_true_eq, decide_eq_false_iff_not, Bool.not_eq_true', Bool.not_eq_false'] at *); (first | rfl | (show Ending.returned (.int .i64 _) = .returned (.int .i64 (one x i n)); congr 2; unfold one; have hcc := HC.out; rw [HF.out]; repeat (first | rw [if_pos (by omega)] | rw [if_neg (by omega)]))))))

set_option maxHeartbeats 400000 in
theorem cone_f3 (x : Insn) (hx : x.Ok) (i n : Nat) (w : World) (hn : n ≤ 1000000) (hi : i ≤ 1000000) (hf : form x.code = 3) (hcc : x.code ≠ 32 ∧ x.code ≠ 52 ∧ x.code ≠ 100 ∧ x.code ≠ 116) :
    Calls Try.prog 64 #[(Value.agg #[.int .u16 x.code, .int .u8 x.jt, .int .u8 x.jf, .int .u32 x.k]), .int .i64 i, .int .i64 n] w fun e w' => e = .returned (.int .i64 (one x i n)) ∧ Below w.heap.size w w' := by
  have hc := hx.code
  have hk := hx.k
  have hjt := hx.jt
  have hjf := hx.jf
  have hbb := behind_le i n
  have HF := Lib.hid hf
  have c1 : ((x.code : Int) == 32) = false := by simp; omega
  have c2 : ((x.code : Int) == 52) = false := by simp; omega
  have c3 : ((x.code : Int) == 100) = false := by simp; omega
  have c4 : ((x.code : Int) == 116) = false := by simp; omega
  have HC := Lib.hid hcc
  clear hf hcc
  go_enter Try.func64, Try.ntmps64
  go_wp2_with (first | (go_at_call 105; refine (form_any x.code hc _).mono ?_; rw [HF.out]; rintro e w' ⟨rfl, hb⟩; (obtain ⟨hb_c, hb_f⟩ := bcell hb; have hb_z := (hb).size; have hb_0 : Below w.heap.size w _ := Below.trans (by (repeat (first | with_reducible exact Below.refl _ _ | with_reducible assumption | ((with_reducible refine Below.setCell ?_ ?hp _); case hp => (first | omega | (simp only [World.size_alloc, World.size_setCell, World.size_drew]; omega) | (simp; done) | (simp; omega))) | ((with_reducible refine Below.alloc ?_ ?hp _); case hp => (first | omega | (simp only [World.size_alloc, World.size_setCell, World.size_drew]; omega) | (simp; done) | (simp; omega))) | with_reducible refine Below.drew ?_ | with_reducible refine below_drewN ?_ _))) ((hb).mono (by (first | omega | (simp only [World.size_alloc, World.size_setCell, World.size_drew]; omega) | (simp; done) | (simp; omega)))); (try simp only [World.size_alloc, World.size_setCell, World.size_drew] at hb_z hb_c hb_f); clear hb); (have hb_k0 := hb_c (w.heap.size) 0 (by omega); simp [go_sem] at hb_k0; have hb_k1 := hb_c (w.heap.size) 1 (by omega); simp [go_sem] at hb_k1; have hb_k2 := hb_c (w.heap.size) 2 (by omega); simp [go_sem] at hb_k2; have hb_k3 := hb_c (w.heap.size) 3 (by omega); simp [go_sem] at hb_k3)))
  all_goals first
    | (go_ret; go_light; refine ⟨?_, by (try refine below_drewN ?_ _); (repeat (first | with_reducible exact Below.refl _ _ | with_reducible assumption | ((with_reducible refine Below.setCell ?_ ?hp _); case hp => (first | omega | (simp only [World.size_alloc, World.size_setCell, World.size_drew]; omega) | (simp; done) | (simp; omega))) | ((with_reducible refine Below.alloc ?_ ?hp _); case hp => (first | omega | (simp only [World.size_alloc, World.size_setCell, World.size_drew]; omega) | (simp; done) | (simp; omega))) | with_reducible refine Below.drew ?_ | with_reducible refine below_drewN ?_ _))⟩; (simp only [beq_iff_eq, beq_eq_false_iff_ne, ne_eq, decide_eq_true_eq, decide_eq_false_iff_not, Bool.not_eq_true', Bool.not_eq_false'] at *); (first | rfl | (show Ending.returned (.int .i64 _) = .returned (.int .i64 (one x i n)); congr 2; unfold one; have hcc := HC.out; rw [HF.out]; repeat (first | rw [if_pos (by omega)] | rw [if_neg (by omega)]))))
    | (go_quiet ((go_at_call 106; (first | exact behind_quiet _ _ _ hn hi | exact behind_quiet2 _ _ _ hn hi)))
       go_wp2
       all_goals first
         | (go_ret; go_light; refine ⟨?_, by (try refine below_drewN ?_ _); (repeat (first | with_reducible exact Below.refl _ _ | with_reducible assumption | ((with_reducible refine Below.setCell ?_ ?hp _); case hp => (first | omega | (simp only [World.size_alloc, World.size_setCell, World.size_drew]; omega) | (simp; done) | (simp; omega))) | ((with_reducible refine Below.alloc ?_ ?hp _); case hp => (first | omega | (simp only [World.size_alloc, World.size_setCell, World.size_drew]; omega) | (simp; done) | (simp; omega))) | with_reducible refine Below.drew ?_ | with_reducible refine below_drewN ?_ _))⟩; (simp only [beq_iff_eq, beq_eq_false_iff_ne, ne_eq, decide_eq_true_eq, decide_eq_false_iff_not, Bool.not_eq_true', Bool.not_eq_false'] at *); (first | rfl | (show Ending.returned (.int .i64 _) = .returned (.int .i64 (one x i n)); congr 2; unfold one; have hcc := HC.out; rw [HF.out]; repeat (first | rw [if_pos (by omega)] | rw [if_neg (by omega)]))))
         | (go_quiet ((go_at_call 106; (first | exact behind_quiet _ _ _ hn hi | exact behind_quiet2 _ _ _ hn hi)))
            go_wp2
            all_goals (go_ret; go_light; refine ⟨?_, by (try refine below_drewN ?_ _); (repeat (first | with_reducible exact Below.refl _ _ | with_reducible assumption | ((with_reducible refine Below.setCell ?_ ?hp _); case hp => (first | omega | (simp only [World.size_alloc, World.size_setCell, World.size_drew]; omega) | (simp; done) | (simp; omega))) | ((with_reducible refine Below.alloc ?_ ?hp _); case hp => (first | omega | (simp only [World.size_alloc, World.size_setCell, World.size_drew]; omega) | (simp; done) | (simp; omega))) | with_reducible refine Below.drew ?_ | with_reducible refine below_drewN ?_ _))⟩; (simp only [beq_iff_eq, beq_eq_false_iff_ne, ne_eq, decide_eq_true_eq, decide_eq_false_iff_not, Bool.not_eq_true', Bool.not_eq_false'] at *); (first | rfl | (show Ending.returned (.int .i64 _) = .returned (.int .i64 (one x i n)); congr 2; unfold one; have hcc := HC.out; rw [HF.out]; repeat (first | rw [if_pos (by omega)] | rw [if_neg (by omega)]))))))

set_option maxHeartbeats 400000 in
theorem cone_f4 (x : Insn) (hx : x.Ok) (i n : Nat) (w : World) (hn : n ≤ 1000000) (hi : i ≤ 1000000) (hf : form x.code = 4) (hcc : x.code ≠ 32 ∧ x.code ≠ 52 ∧ x.code ≠ 100 ∧ x.code ≠ 116) :
    Calls Try.prog 64 #[(Value.agg #[.int .u16 x.code, .int .u8 x.jt, .int .u8 x.jf, .int .u32 x.k]), .int .i64 i, .int .i64 n] w fun e w' => e = .returned (.int .i64 (one x i n)) ∧ Below w.heap.size w w' := by
  have hc := hx.code
  have hk := hx.k
  have hjt := hx.jt
  have hjf := hx.jf
  have hbb := behind_le i n
  have HF := Lib.hid hf
  have c1 : ((x.code : Int) == 32) = false := by simp; omega
  have c2 : ((x.code : Int) == 52) = false := by simp; omega
  have c3 : ((x.code : Int) == 100) = false := by simp; omega
  have c4 : ((x.code : Int) == 116) = false := by simp; omega
  have HC := Lib.hid hcc
  clear hf hcc
  go_enter Try.func64, Try.ntmps64
  go_wp2_with (first | (go_at_call 105; refine (form_any x.code hc _).mono ?_; rw [HF.out]; rintro e w' ⟨rfl, hb⟩; (obtain ⟨hb_c, hb_f⟩ := bcell hb; have hb_z := (hb).size; have hb_0 : Below w.heap.size w _ := Below.trans (by (repeat (first | with_reducible exact Below.refl _ _ | with_reducible assumption | ((with_reducible refine Below.setCell ?_ ?hp _); case hp => (first | omega | (simp only [World.size_alloc, World.size_setCell, World.size_drew]; omega) | (simp; done) | (simp; omega))) | ((with_reducible refine Below.alloc ?_ ?hp _); case hp => (first | omega | (simp only [World.size_alloc, World.size_setCell, World.size_drew]; omega) | (simp; done) | (simp; omega))) | with_reducible refine Below.drew ?_ | with_reducible refine below_drewN ?_ _))) ((hb).mono (by (first | omega | (simp only [World.size_alloc, World.size_setCell, World.size_drew]; omega) | (simp; done) | (simp; omega)))); (try simp only [World.size_alloc, World.size_setCell, World.size_drew] at hb_z hb_c hb_f); clear hb); (have hb_k0 := hb_c (w.heap.size) 0 (by omega); simp [go_sem] at hb_k0; have hb_k1 := hb_c (w.heap.size) 1 (by omega); simp [go_sem] at hb_k1; have hb_k2 := hb_c (w.heap.size) 2 (by omega); simp [go_sem] at hb_k2; have hb_k3 := hb_c (w.heap.size) 3 (by omega); simp [go_sem] at hb_k3)))
  all_goals first
    | (go_ret; go_light; refine ⟨?_, by (try refine below_drewN ?_ _); (repeat (first | with_reducible exact Below.refl _ _ | with_reducible assumption | ((with_reducible refine Below.setCell ?_ ?hp _); case hp => (first | omega | (simp only [World.size_alloc, World.size_setCell, World.size_drew]; omega) | (simp; done) | (simp; omega))) | ((with_reducible refine Below.alloc ?_ ?hp _); case hp => (first | omega | (simp only [World.size_alloc, World.size_setCell, World.size_drew]; omega) | (simp; done) | (simp; omega))) | with_reducible refine Below.drew ?_ | with_reducible refine below_drewN ?_ _))⟩; (simp only [beq_iff_eq, beq_eq_false_iff_ne, ne_eq, decide_eq_true_eq, decide_eq_false_iff_not, Bool.not_eq_true', Bool.not_eq_false'] at *); (first | rfl | (show Ending.returned (.int .i64 _) = .returned (.int .i64 (one x i n)); congr 2; unfold one; have hcc := HC.out; rw [HF.out]; repeat (first | rw [if_pos (by omega)] | rw [if_neg (by omega)]))))
    | (go_quiet ((go_at_call 106; (first | exact behind_quiet _ _ _ hn hi | exact behind_quiet2 _ _ _ hn hi)))
       go_wp2
       all_goals first
         | (go_ret; go_light; refine ⟨?_, by (try refine below_drewN ?_ _); (repeat (first | with_reducible exact Below.refl _ _ | with_reducible assumption | ((with_reducible refine Below.setCell ?_ ?hp _); case hp => (first | omega | (simp only [World.size_alloc, World.size_setCell, World.size_drew]; omega) | (simp; done) | (simp; omega))) | ((with_reducible refine Below.alloc ?_ ?hp _); case hp => (first | omega | (simp only [World.size_alloc, World.size_setCell, World.size_drew]; omega) | (simp; done) | (simp; omega))) | with_reducible refine Below.drew ?_ | with_reducible refine below_drewN ?_ _))⟩; (simp only [beq_iff_eq, beq_eq_false_iff_ne, ne_eq, decide_eq_true_eq, decide_eq_false_iff_not, Bool.not_eq_true', Bool.not_eq_false'] at *); (first | rfl | (show Ending.returned (.int .i64 _) = .returned (.int .i64 (one x i n)); congr 2; unfold one; have hcc := HC.out; rw [HF.out]; repeat (first | rw [if_pos (by omega)] | rw [if_neg (by omega)]))))
         | (go_quiet ((go_at_call 106; (first | exact behind_quiet _ _ _ hn hi | exact behind_quiet2 _ _ _ hn hi)))
            go_wp2
            all_goals (go_ret; go_light; refine ⟨?_, by (try refine below_drewN ?_ _); (repeat (first | with_reducible exact Below.refl _ _ | with_reducible assumption | ((with_reducible refine Below.setCell ?_ ?hp _); case hp => (first | omega | (simp only [World.size_alloc, World.size_setCell, World.size_drew]; omega) | (simp; done) | (simp; omega))) | ((with_reducible refine Below.alloc ?_ ?hp _); case hp => (first | omega | (simp only [World.size_alloc, World.size_setCell, World.size_drew]; omega) | (simp; done) | (simp; omega))) | with_reducible refine Below.drew ?_ | with_reducible refine below_drewN ?_ _))⟩; (simp only [beq_iff_eq, beq_eq_false_iff_ne, ne_eq, decide_eq_true_eq, decide_eq_false_iff_not, Bool.not_eq_true', Bool.not_eq_false'] at *); (first | rfl | (show Ending.returned (.int .i64 _) = .returned (.int .i64 (one x i n)); congr 2; unfold one; have hcc := HC.out; rw [HF.out]; repeat (first | rw [if_pos (by omega)] | rw [if_neg (by omega)]))))))

set_option maxHeartbeats 400000 in
theorem cone_f5 (x : Insn) (hx : x.Ok) (i n : Nat) (w : World) (hn : n ≤ 1000000) (hi : i ≤ 1000000) (hf : form x.code = 5) (hcc : x.code ≠ 32 ∧ x.code ≠ 52 ∧ x.code ≠ 100 ∧ x.code ≠ 116) :
    Calls Try.prog 64 #[(Value.agg #[.int .u16 x.code, .int .u8 x.jt, .int .u8 x.jf, .int .u32 x.k]), .int .i64 i, .int .i64 n] w fun e w' => e = .returned (.int .i64 (one x i n)) ∧ Below w.heap.size w w' := by
  have hc := hx.code
  have hk := hx.k
  have hjt := hx.jt
  have hjf := hx.jf
  have hbb := behind_le i n
  have HF := Lib.hid hf
  have c1 : ((x.code : Int) == 32) = false := by simp; omega
  have c2 : ((x.code : Int) == 52) = false := by simp; omega
  have c3 : ((x.code : Int) == 100) = false := by simp; omega
  have c4 : ((x.code : Int) == 116) = false := by simp; omega
  have HC := Lib.hid hcc
  clear hf hcc
  go_enter Try.func64, Try.ntmps64
  go_wp2_with (first | (go_at_call 105; refine (form_any x.code hc _).mono ?_; rw [HF.out]; rintro e w' ⟨rfl, hb⟩; (obtain ⟨hb_c, hb_f⟩ := bcell hb; have hb_z := (hb).size; have hb_0 : Below w.heap.size w _ := Below.trans (by (repeat (first | with_reducible exact Below.refl _ _ | with_reducible assumption | ((with_reducible refine Below.setCell ?_ ?hp _); case hp => (first | omega | (simp only [World.size_alloc, World.size_setCell, World.size_drew]; omega) | (simp; done) | (simp; omega))) | ((with_reducible refine Below.alloc ?_ ?hp _); case hp => (first | omega | (simp only [World.size_alloc, World.size_setCell, World.size_drew]; omega) | (simp; done) | (simp; omega))) | with_reducible refine Below.drew ?_ | with_reducible refine below_drewN ?_ _))) ((hb).mono (by (first | omega | (simp only [World.size_alloc, World.size_setCell, World.size_drew]; omega) | (simp; done) | (simp; omega)))); (try simp only [World.size_alloc, World.size_setCell, World.size_drew] at hb_z hb_c hb_f); clear hb); (have hb_k0 := hb_c (w.heap.size) 0 (by omega); simp [go_sem] at hb_k0; have hb_k1 := hb_c (w.heap.size) 1 (by omega); simp [go_sem] at hb_k1; have hb_k2 := hb_c (w.heap.size) 2 (by omega); simp [go_sem] at hb_k2; have hb_k3 := hb_c (w.heap.size) 3 (by omega); simp [go_sem] at hb_k3)))
  all_goals first
    | (go_ret; go_light; refine ⟨?_, by (try refine below_drewN ?_ _); (repeat (first | with_reducible exact Below.refl _ _ | with_reducible assumption | ((with_reducible refine Below.setCell ?_ ?hp _); case hp => (first | omega | (simp only [World.size_alloc, World.size_setCell, World.size_drew]; omega) | (simp; done) | (simp; omega))) | ((with_reducible refine Below.alloc ?_ ?hp _); case hp => (first | omega | (simp only [World.size_alloc, World.size_setCell, World.size_drew]; omega) | (simp; done) | (simp; omega))) | with_reducible refine Below.drew ?_ | with_reducible refine below_drewN ?_ _))⟩; (simp only [beq_iff_eq, beq_eq_false_iff_ne, ne_eq, decide_eq_true_eq, decide_eq_false_iff_not, Bool.not_eq_true', Bool.not_eq_false'] at *); (first | rfl | (show Ending.returned (.int .i64 _) = .returned (.int .i64 (one x i n)); congr 2; unfold one; have hcc := HC.out; rw [HF.out]; repeat (first | rw [if_pos (by omega)] | rw [if_neg (by omega)]))))
    | (go_quiet ((go_at_call 106; (first | exact behind_quiet _ _ _ hn hi | exact behind_quiet2 _ _ _ hn hi)))
       go_wp2
       all_goals first
         | (go_ret; go_light; refine ⟨?_, by (try refine below_drewN ?_ _); (repeat (first | with_reducible exact Below.refl _ _ | with_reducible assumption | ((with_reducible refine Below.setCell ?_ ?hp _); case hp => (first | omega | (simp only [World.size_alloc, World.size_setCell, World.size_drew]; omega) | (simp; done) | (simp; omega))) | ((with_reducible refine Below.alloc ?_ ?hp _); case hp => (first | omega | (simp only [World.size_alloc, World.size_setCell, World.size_drew]; omega) | (simp; done) | (simp; omega))) | with_reducible refine Below.drew ?_ | with_reducible refine below_drewN ?_ _))⟩; (simp only [beq_iff_eq, beq_eq_false_iff_ne, ne_eq, decide_eq_true_eq, decide_eq_false_iff_not, Bool.not_eq_true', Bool.not_eq_false'] at *); (first | rfl | (show Ending.returned (.int .i64 _) = .returned (.int .i64 (one x i n)); congr 2; unfold one; have hcc := HC.out; rw [HF.out]; repeat (first | rw [if_pos (by omega)] | rw [if_neg (by omega)]))))
         | (go_quiet ((go_at_call 106; (first | exact behind_quiet _ _ _ hn hi | exact behind_quiet2 _ _ _ hn hi)))
            go_wp2
            all_goals (go_ret; go_light; refine ⟨?_, by (try refine below_drewN ?_ _); (repeat (first | with_reducible exact Below.refl _ _ | with_reducible assumption | ((with_reducible refine Below.setCell ?_ ?hp _); case hp => (first | omega | (simp only [World.size_alloc, World.size_setCell, World.size_drew]; omega) | (simp; done) | (simp; omega))) | ((with_reducible refine Below.alloc ?_ ?hp _); case hp => (first | omega | (simp only [World.size_alloc, World.size_setCell, World.size_drew]; omega) | (simp; done) | (simp; omega))) | with_reducible refine Below.drew ?_ | with_reducible refine below_drewN ?_ _))⟩; (simp only [beq_iff_eq, beq_eq_false_iff_ne, ne_eq, decide_eq_true_eq, decide_eq_false_iff_not, Bool.not_eq_true', Bool.not_eq_false'] at *); (first | rfl | (show Ending.returned (.int .i64 _) = .returned (.int .i64 (one x i n)); congr 2; unfold one; have hcc := HC.out; rw [HF.out]; repeat (first | rw [if_pos (by omega)] | rw [if_neg (by omega)]))))))

set_option maxHeartbeats 400000 in
theorem cone_f6 (x : Insn) (hx : x.Ok) (i n : Nat) (w : World) (hn : n ≤ 1000000) (hi : i ≤ 1000000) (hf : form x.code = 6) (hcc : x.code ≠ 32 ∧ x.code ≠ 52 ∧ x.code ≠ 100 ∧ x.code ≠ 116) :
    Calls Try.prog 64 #[(Value.agg #[.int .u16 x.code, .int .u8 x.jt, .int .u8 x.jf, .int .u32 x.k]), .int .i64 i, .int .i64 n] w fun e w' => e = .returned (.int .i64 (one x i n)) ∧ Below w.heap.size w w' := by
  have hc := hx.code
  have hk := hx.k
  have hjt := hx.jt
  have hjf := hx.jf
  have hbb := behind_le i n
  have HF := Lib.hid hf
  have c1 : ((x.code : Int) == 32) = false := by simp; omega
  have c2 : ((x.code : Int) == 52) = false := by simp; omega
  have c3 : ((x.code : Int) == 100) = false := by simp; omega
  have c4 : ((x.code : Int) == 116) = false := by simp; omega
  have HC := Lib.hid hcc
  clear hf hcc
  go_enter Try.func64, Try.ntmps64
  go_wp2_with (first | (go_at_call 105; refine (form_any x.code hc _).mono ?_; rw [HF.out]; rintro e w' ⟨rfl, hb⟩; (obtain ⟨hb_c, hb_f⟩ := bcell hb; have hb_z := (hb).size; have hb_0 : Below w.heap.size w _ := Below.trans (by (repeat (first | with_reducible exact Below.refl _ _ | with_reducible assumption | ((with_reducible refine Below.setCell ?_ ?hp _); case hp => (first | omega | (simp only [World.size_alloc, World.size_setCell, World.size_drew]; omega) | (simp; done) | (simp; omega))) | ((with_reducible refine Below.alloc ?_ ?hp _); case hp => (first | omega | (simp only [World.size_alloc, World.size_setCell, World.size_drew]; omega) | (simp; done) | (simp; omega))) | with_reducible refine Below.drew ?_ | with_reducible refine below_drewN ?_ _))) ((hb).mono (by (first | omega | (simp only [World.size_alloc, World.size_setCell, World.size_drew]; omega) | (simp; done) | (simp; omega)))); (try simp only [World.size_alloc, World.size_setCell, World.size_drew] at hb_z hb_c hb_f); clear hb); (have hb_k0 := hb_c (w.heap.size) 0 (by omega); simp [go_sem] at hb_k0; have hb_k1 := hb_c (w.heap.size) 1 (by omega); simp [go_sem] at hb_k1; have hb_k2 := hb_c (w.heap.size) 2 (by omega); simp [go_sem] at hb_k2; have hb_k3 := hb_c (w.heap.size) 3 (by omega); simp [go_sem] at hb_k3)))
  all_goals first
    | (go_ret; go_light; refine ⟨?_, by (try refine below_drewN ?_ _); (repeat (first | with_reducible exact Below.refl _ _ | with_reducible assumption | ((with_reducible refine Below.setCell ?_ ?hp _); case hp => (first | omega | (simp only [World.size_alloc, World.size_setCell, World.size_drew]; omega) | (simp; done) | (simp; omega))) | ((with_reducible refine Below.alloc ?_ ?hp _); case hp => (first | omega | (simp only [World.size_alloc, World.size_setCell, World.size_drew]; omega) | (simp; done) | (simp; omega))) | with_reducible refine Below.drew ?_ | with_reducible refine below_drewN ?_ _))⟩; (simp only [beq_iff_eq, beq_eq_false_iff_ne, ne_eq, decide_eq_true_eq, decide_eq_false_iff_not, Bool.not_eq_true', Bool.not_eq_false'] at *); (first | rfl | (show Ending.returned (.int .i64 _) = .returned (.int .i64 (one x i n)); congr 2; unfold one; have hcc := HC.out; rw [HF.out]; repeat (first | rw [if_pos (by omega)] | rw [if_neg (by omega)]))))
    | (go_quiet ((go_at_call 106; (first | exact behind_quiet _ _ _ hn hi | exact behind_quiet2 _ _ _ hn hi)))
       go_wp2
       all_goals first
         | (go_ret; go_light; refine ⟨?_, by (try refine below_drewN ?_ _); (repeat (first | with_reducible exact Below.refl _ _ | with_reducible assumption | ((with_reducible refine Below.setCell ?_ ?hp _); case hp => (first | omega | (simp only [World.size_alloc, World.size_setCell, World.size_drew]; omega) | (simp; done) | (simp; omega))) | ((with_reducible refine Below.alloc ?_ ?hp _); case hp => (first | omega | (simp only [World.size_alloc, World.size_setCell, World.size_drew]; omega) | (simp; done) | (simp; omega))) | with_reducible refine Below.drew ?_ | with_reducible refine below_drewN ?_ _))⟩; (simp only [beq_iff_eq, beq_eq_false_iff_ne, ne_eq, decide_eq_true_eq, decide_eq_false_iff_not, Bool.not_eq_true', Bool.not_eq_false'] at *); (first | rfl | (show Ending.returned (.int .i64 _) = .returned (.int .i64 (one x i n)); congr 2; unfold one; have hcc := HC.out; rw [HF.out]; repeat (first | rw [if_pos (by omega)] | rw [if_neg (by omega)]))))
         | (go_quiet ((go_at_call 106; (first | exact behind_quiet _ _ _ hn hi | exact behind_quiet2 _ _ _ hn hi)))
            go_wp2
            all_goals (go_ret; go_light; refine ⟨?_, by (try refine below_drewN ?_ _); (repeat (first | with_reducible exact Below.refl _ _ | with_reducible assumption | ((with_reducible refine Below.setCell ?_ ?hp _); case hp => (first | omega | (simp only [World.size_alloc, World.size_setCell, World.size_drew]; omega) | (simp; done) | (simp; omega))) | ((with_reducible refine Below.alloc ?_ ?hp _); case hp => (first | omega | (simp only [World.size_alloc, World.size_setCell, World.size_drew]; omega) | (simp; done) | (simp; omega))) | with_reducible refine Below.drew ?_ | with_reducible refine below_drewN ?_ _))⟩; (simp only [beq_iff_eq, beq_eq_false_iff_ne, ne_eq, decide_eq_true_eq, decide_eq_false_iff_not, Bool.not_eq_true', Bool.not_eq_false'] at *); (first | rfl | (show Ending.returned (.int .i64 _) = .returned (.int .i64 (one x i n)); congr 2; unfold one; have hcc := HC.out; rw [HF.out]; repeat (first | rw [if_pos (by omega)] | rw [if_neg (by omega)]))))))

set_option maxHeartbeats 400000 in
theorem cone_c32 (x : Insn) (hx : x.Ok) (i n : Nat) (w : World) (hn : n ≤ 1000000) (hi : i ≤ 1000000) (hcc : x.code = 32) :
    Calls Try.prog 64 #[(Value.agg #[.int .u16 x.code, .int .u8 x.jt, .int .u8 x.jf, .int .u32 x.k]), .int .i64 i, .int .i64 n] w fun e w' => e = .returned (.int .i64 (one x i n)) ∧ Below w.heap.size w w' := by
  have hc := hx.code
  have hk := hx.k
  have hjt := hx.jt
  have hjf := hx.jf
  have hbb := behind_le i n
  have HF := Lib.hid (show form x.code = 2 by rw [hcc]; decide)
  have c0 : ((x.code : Int) == 32) = true := by simp; omega
  have c1 : ((x.code : Int) == 52) = false := by simp; omega
  have c2 : ((x.code : Int) == 100) = false := by simp; omega
  have c3 : ((x.code : Int) == 116) = false := by simp; omega
  have HC := Lib.hid hcc
  clear hcc
  go_enter Try.func64, Try.ntmps64
  go_wp2_with (first | (go_at_call 105; refine (form_any x.code hc _).mono ?_; rw [HF.out]; rintro e w' ⟨rfl, hb⟩; (obtain ⟨hb_c, hb_f⟩ := bcell hb; have hb_z := (hb).size; have hb_0 : Below w.heap.size w _ := Below.trans (by (repeat (first | with_reducible exact Below.refl _ _ | with_reducible assumption | ((with_reducible refine Below.setCell ?_ ?hp _); case hp => (first | omega | (simp only [World.size_alloc, World.size_setCell, World.size_drew]; omega) | (simp; done) | (simp; omega))) | ((with_reducible refine Below.alloc ?_ ?hp _); case hp => (first | omega | (simp only [World.size_alloc, World.size_setCell, World.size_drew]; omega) | (simp; done) | (simp; omega))) | with_reducible refine Below.drew ?_ | with_reducible refine below_drewN ?_ _))) ((hb).mono (by (first | omega | (simp only [World.size_alloc, World.size_setCell, World.size_drew]; omega) | (simp; done) | (simp; omega)))); (try simp only [World.size_alloc, World.size_setCell, World.size_drew] at hb_z hb_c hb_f); clear hb); (have hb_k0 := hb_c (w.heap.size) 0 (by omega); simp [go_sem] at hb_k0; have hb_k1 := hb_c (w.heap.size) 1 (by omega); simp [go_sem] at hb_k1; have hb_k2 := hb_c (w.heap.size) 2 (by omega); simp [go_sem] at hb_k2; have hb_k3 := hb_c (w.heap.size) 3 (by omega); simp [go_sem] at hb_k3)))
  all_goals first
    | (go_ret; go_light; refine ⟨?_, by (try refine below_drewN ?_ _); (repeat (first | with_reducible exact Below.refl _ _ | with_reducible assumption | ((with_reducible refine Below.setCell ?_ ?hp _); case hp => (first | omega | (simp only [World.size_alloc, World.size_setCell, World.size_drew]; omega) | (simp; done) | (simp; omega))) | ((with_reducible refine Below.alloc ?_ ?hp _); case hp => (first | omega | (simp only [World.size_alloc, World.size_setCell, World.size_drew]; omega) | (simp; done) | (simp; omega))) | with_reducible refine Below.drew ?_ | with_reducible refine below_drewN ?_ _))⟩; (simp only [beq_iff_eq, beq_eq_false_iff_ne, ne_eq, decide_eq_true_eq, decide_eq_false_iff_not, Bool.not_eq_true', Bool.not_eq_false'] at *); (first | rfl | (show Ending.returned (.int .i64 _) = .returned (.int .i64 (one x i n)); congr 2; unfold one; have hcc := HC.out; rw [HF.out]; repeat (first | rw [if_pos (by omega)] | rw [if_neg (by omega)]))))
    | (go_quiet ((go_at_call 106; (first | exact behind_quiet _ _ _ hn hi | exact behind_quiet2 _ _ _ hn hi)))
       go_wp2
       all_goals first
         | (go_ret; go_light; refine ⟨?_, by (try refine below_drewN ?_ _); (repeat (first | with_reducible exact Below.refl _ _ | with_reducible assumption | ((with_reducible refine Below.setCell ?_ ?hp _); case hp => (first | omega | (simp only [World.size_alloc, World.size_setCell, World.size_drew]; omega) | (simp; done) | (simp; omega))) | ((with_reducible refine Below.alloc ?_ ?hp _); case hp => (first | omega | (simp only [World.size_alloc, World.size_setCell, World.size_drew]; omega) | (simp; done) | (simp; omega))) | with_reducible refine Below.drew ?_ | with_reducible refine below_drewN ?_ _))⟩; (simp only [beq_iff_eq, beq_eq_false_iff_ne, ne_eq, decide_eq_true_eq, decide_eq_false_iff_not, Bool.not_eq_true', Bool.not_eq_false'] at *); (first | rfl | (show Ending.returned (.int .i64 _) = .returned (.int .i64 (one x i n)); congr 2; unfold one; have hcc := HC.out; rw [HF.out]; repeat (first | rw [if_pos (by omega)] | rw [if_neg (by omega)]))))
         | (go_quiet ((go_at_call 106; (first | exact behind_quiet _ _ _ hn hi | exact behind_quiet2 _ _ _ hn hi)))
            go_wp2
            all_goals (go_ret; go_light; refine ⟨?_, by (try refine below_drewN ?_ _); (repeat (first | with_reducible exact Below.refl _ _ | with_reducible assumption | ((with_reducible refine Below.setCell ?_ ?hp _); case hp => (first | omega | (simp only [World.size_alloc, World.size_setCell, World.size_drew]; omega) | (simp; done) | (simp; omega))) | ((with_reducible refine Below.alloc ?_ ?hp _); case hp => (first | omega | (simp only [World.size_alloc, World.size_setCell, World.size_drew]; omega) | (simp; done) | (simp; omega))) | with_reducible refine Below.drew ?_ | with_reducible refine below_drewN ?_ _))⟩; (simp only [beq_iff_eq, beq_eq_false_iff_ne, ne_eq, decide_eq_true_eq, decide_eq_false_iff_not, Bool.not_eq_true', Bool.not_eq_false'] at *); (first | rfl | (show Ending.returned (.int .i64 _) = .returned (.int .i64 (one x i n)); congr 2; unfold one; have hcc := HC.out; rw [HF.out]; repeat (first | rw [if_pos (by omega)] | rw [if_neg (by omega)]))))))

set_option maxHeartbeats 400000 in
theorem cone_c52 (x : Insn) (hx : x.Ok) (i n : Nat) (w : World) (hn : n ≤ 1000000) (hi : i ≤ 1000000) (hcc : x.code = 52) :
    Calls Try.prog 64 #[(Value.agg #[.int .u16 x.code, .int .u8 x.jt, .int .u8 x.jf, .int .u32 x.k]), .int .i64 i, .int .i64 n] w fun e w' => e = .returned (.int .i64 (one x i n)) ∧ Below w.heap.size w w' := by
  have hc := hx.code
  have hk := hx.k
  have hjt := hx.jt
  have hjf := hx.jf
  have hbb := behind_le i n
  have HF := Lib.hid (show form x.code = 1 by rw [hcc]; decide)
  have c0 : ((x.code : Int) == 32) = false := by simp; omega
  have c1 : ((x.code : Int) == 52) = true := by simp; omega
  have c2 : ((x.code : Int) == 100) = false := by simp; omega
  have c3 : ((x.code : Int) == 116) = false := by simp; omega
  have HC := Lib.hid hcc
  clear hcc
  go_enter Try.func64, Try.ntmps64
  go_wp2_with (first | (go_at_call 105; refine (form_any x.code hc _).mono ?_; rw [HF.out]; rintro e w' ⟨rfl, hb⟩; (obtain ⟨hb_c, hb_f⟩ := bcell hb; have hb_z := (hb).size; have hb_0 : Below w.heap.size w _ := Below.trans (by (repeat (first | with_reducible exact Below.refl _ _ | with_reducible assumption | ((with_reducible refine Below.setCell ?_ ?hp _); case hp => (first | omega | (simp only [World.size_alloc, World.size_setCell, World.size_drew]; omega) | (simp; done) | (simp; omega))) | ((with_reducible refine Below.alloc ?_ ?hp _); case hp => (first | omega | (simp only [World.size_alloc, World.size_setCell, World.size_drew]; omega) | (simp; done) | (simp; omega))) | with_reducible refine Below.drew ?_ | with_reducible refine below_drewN ?_ _))) ((hb).mono (by (first | omega | (simp only [World.size_alloc, World.size_setCell, World.size_drew]; omega) | (simp; done) | (simp; omega)))); (try simp only [World.size_alloc, World.size_setCell, World.size_drew] at hb_z hb_c hb_f); clear hb); (have hb_k0 := hb_c (w.heap.size) 0 (by omega); simp [go_sem] at hb_k0; have hb_k1 := hb_c (w.heap.size) 1 (by omega); simp [go_sem] at hb_k1; have hb_k2 := hb_c (w.heap.size) 2 (by omega); simp [go_sem] at hb_k2; have hb_k3 := hb_c (w.heap.size) 3 (by omega); simp [go_sem] at hb_k3)))
  all_goals first
    | (go_ret; go_light; refine ⟨?_, by (try refine below_drewN ?_ _); (repeat (first | with_reducible exact Below.refl _ _ | with_reducible assumption | ((with_reducible refine Below.setCell ?_ ?hp _); case hp => (first | omega | (simp only [World.size_alloc, World.size_setCell, World.size_drew]; omega) | (simp; done) | (simp; omega))) | ((with_reducible refine Below.alloc ?_ ?hp _); case hp => (first | omega | (simp only [World.size_alloc, World.size_setCell, World.size_drew]; omega) | (simp; done) | (simp; omega))) | with_reducible refine Below.drew ?_ | with_reducible refine below_drewN ?_ _))⟩; (simp only [beq_iff_eq, beq_eq_false_iff_ne, ne_eq, decide_eq_true_eq, decide_eq_false_iff_not, Bool.not_eq_true', Bool.not_eq_false'] at *); (first | rfl | (show Ending.returned (.int .i64 _) = .returned (.int .i64 (one x i n)); congr 2; unfold one; have hcc := HC.out; rw [HF.out]; repeat (first | rw [if_pos (by omega)] | rw [if_neg (by omega)]))))
    | (go_quiet ((go_at_call 106; (first | exact behind_quiet _ _ _ hn hi | exact behind_quiet2 _ _ _ hn hi)))
       go_wp2
       all_goals first
         | (go_ret; go_light; refine ⟨?_, by (try refine below_drewN ?_ _); (repeat (first | with_reducible exact Below.refl _ _ | with_reducible assumption | ((with_reducible refine Below.setCell ?_ ?hp _); case hp => (first | omega | (simp only [World.size_alloc, World.size_setCell, World.size_drew]; omega) | (simp; done) | (simp; omega))) | ((with_reducible refine Below.alloc ?_ ?hp _); case hp => (first | omega | (simp only [World.size_alloc, World.size_setCell, World.size_drew]; omega) | (simp; done) | (simp; omega))) | with_reducible refine Below.drew ?_ | with_reducible refine below_drewN ?_ _))⟩; (simp only [beq_iff_eq, beq_eq_false_iff_ne, ne_eq, decide_eq_true_eq, decide_eq_false_iff_not, Bool.not_eq_true', Bool.not_eq_false'] at *); (first | rfl | (show Ending.returned (.int .i64 _) = .returned (.int .i64 (one x i n)); congr 2; unfold one; have hcc := HC.out; rw [HF.out]; repeat (first | rw [if_pos (by omega)] | rw [if_neg (by omega)]))))
         | (go_quiet ((go_at_call 106; (first | exact behind_quiet _ _ _ hn hi | exact behind_quiet2 _ _ _ hn hi)))
            go_wp2
            all_goals (go_ret; go_light; refine ⟨?_, by (try refine below_drewN ?_ _); (repeat (first | with_reducible exact Below.refl _ _ | with_reducible assumption | ((with_reducible refine Below.setCell ?_ ?hp _); case hp => (first | omega | (simp only [World.size_alloc, World.size_setCell, World.size_drew]; omega) | (simp; done) | (simp; omega))) | ((with_reducible refine Below.alloc ?_ ?hp _); case hp => (first | omega | (simp only [World.size_alloc, World.size_setCell, World.size_drew]; omega) | (simp; done) | (simp; omega))) | with_reducible refine Below.drew ?_ | with_reducible refine below_drewN ?_ _))⟩; (simp only [beq_iff_eq, beq_eq_false_iff_ne, ne_eq, decide_eq_true_eq, decide_eq_false_iff_not, Bool.not_eq_true', Bool.not_eq_false'] at *); (first | rfl | (show Ending.returned (.int .i64 _) = .returned (.int .i64 (one x i n)); congr 2; unfold one; have hcc := HC.out; rw [HF.out]; repeat (first | rw [if_pos (by omega)] | rw [if_neg (by omega)]))))))

set_option maxHeartbeats 400000 in
theorem cone_c100 (x : Insn) (hx : x.Ok) (i n : Nat) (w : World) (hn : n ≤ 1000000) (hi : i ≤ 1000000) (hcc : x.code = 100) :
    Calls Try.prog 64 #[(Value.agg #[.int .u16 x.code, .int .u8 x.jt, .int .u8 x.jf, .int .u32 x.k]), .int .i64 i, .int .i64 n] w fun e w' => e = .returned (.int .i64 (one x i n)) ∧ Below w.heap.size w w' := by
  have hc := hx.code
  have hk := hx.k
  have hjt := hx.jt
  have hjf := hx.jf
  have hbb := behind_le i n
  have HF := Lib.hid (show form x.code = 1 by rw [hcc]; decide)
  have c0 : ((x.code : Int) == 32) = false := by simp; omega
  have c1 : ((x.code : Int) == 52) = false := by simp; omega
  have c2 : ((x.code : Int) == 100) = true := by simp; omega
  have c3 : ((x.code : Int) == 116) = false := by simp; omega
  have HC := Lib.hid hcc
  clear hcc
  go_enter Try.func64, Try.ntmps64
  go_wp2_with (first | (go_at_call 105; refine (form_any x.code hc _).mono ?_; rw [HF.out]; rintro e w' ⟨rfl, hb⟩; (obtain ⟨hb_c, hb_f⟩ := bcell hb; have hb_z := (hb).size; have hb_0 : Below w.heap.size w _ := Below.trans (by (repeat (first | with_reducible exact Below.refl _ _ | with_reducible assumption | ((with_reducible refine Below.setCell ?_ ?hp _); case hp => (first | omega | (simp only [World.size_alloc, World.size_setCell, World.size_drew]; omega) | (simp; done) | (simp; omega))) | ((with_reducible refine Below.alloc ?_ ?hp _); case hp => (first | omega | (simp only [World.size_alloc, World.size_setCell, World.size_drew]; omega) | (simp; done) | (simp; omega))) | with_reducible refine Below.drew ?_ | with_reducible refine below_drewN ?_ _))) ((hb).mono (by (first | omega | (simp only [World.size_alloc, World.size_setCell, World.size_drew]; omega) | (simp; done) | (simp; omega)))); (try simp only [World.size_alloc, World.size_setCell, World.size_drew] at hb_z hb_c hb_f); clear hb); (have hb_k0 := hb_c (w.heap.size) 0 (by omega); simp [go_sem] at hb_k0; have hb_k1 := hb_c (w.heap.size) 1 (by omega); simp [go_sem] at hb_k1; have hb_k2 := hb_c (w.heap.size) 2 (by omega); simp [go_sem] at hb_k2; have hb_k3 := hb_c (w.heap.size) 3 (by omega); simp [go_sem] at hb_k3)))
  all_goals first
    | (go_ret; go_light; refine ⟨?_, by (try refine below_drewN ?_ _); (repeat (first | with_reducible exact Below.refl _ _ | with_reducible assumption | ((with_reducible refine Below.setCell ?_ ?hp _); case hp => (first | omega | (simp only [World.size_alloc, World.size_setCell, World.size_drew]; omega) | (simp; done) | (simp; omega))) | ((with_reducible refine Below.alloc ?_ ?hp _); case hp => (first | omega | (simp only [World.size_alloc, World.size_setCell, World.size_drew]; omega) | (simp; done) | (simp; omega))) | with_reducible refine Below.drew ?_ | with_reducible refine below_drewN ?_ _))⟩; (simp only [beq_iff_eq, beq_eq_false_iff_ne, ne_eq, decide_eq_true_eq, decide_eq_false_iff_not, Bool.not_eq_true', Bool.not_eq_false'] at *); (first | rfl | (show Ending.returned (.int .i64 _) = .returned (.int .i64 (one x i n)); congr 2; unfold one; have hcc := HC.out; rw [HF.out]; repeat (first | rw [if_pos (by omega)] | rw [if_neg (by omega)]))))
    | (go_quiet ((go_at_call 106; (first | exact behind_quiet _ _ _ hn hi | exact behind_quiet2 _ _ _ hn hi)))
       go_wp2
       all_goals first
         | (go_ret; go_light; refine ⟨?_, by (try refine below_drewN ?_ _); (repeat (first | with_reducible exact Below.refl _ _ | with_reducible assumption | ((with_reducible refine Below.setCell ?_ ?hp _); case hp => (first | omega | (simp only [World.size_alloc, World.size_setCell, World.size_drew]; omega) | (simp; done) | (simp; omega))) | ((with_reducible refine Below.alloc ?_ ?hp _); case hp => (first | omega | (simp only [World.size_alloc, World.size_setCell, World.size_drew]; omega) | (simp; done) | (simp; omega))) | with_reducible refine Below.drew ?_ | with_reducible refine below_drewN ?_ _))⟩; (simp only [beq_iff_eq, beq_eq_false_iff_ne, ne_eq, decide_eq_true_eq, decide_eq_false_iff_not, Bool.not_eq_true', Bool.not_eq_false'] at *); (first | rfl | (show Ending.returned (.int .i64 _) = .returned (.int .i64 (one x i n)); congr 2; unfold one; have hcc := HC.out; rw [HF.out]; repeat (first | rw [if_pos (by omega)] | rw [if_neg (by omega)]))))
         | (go_quiet ((go_at_call 106; (first | exact behind_quiet _ _ _ hn hi | exact behind_quiet2 _ _ _ hn hi)))
            go_wp2
            all_goals (go_ret; go_light; refine ⟨?_, by (try refine below_drewN ?_ _); (repeat (first | with_reducible exact Below.refl _ _ | with_reducible assumption | ((with_reducible refine Below.setCell ?_ ?hp _); case hp => (first | omega | (simp only [World.size_alloc, World.size_setCell, World.size_drew]; omega) | (simp; done) | (simp; omega))) | ((with_reducible refine Below.alloc ?_ ?hp _); case hp => (first | omega | (simp only [World.size_alloc, World.size_setCell, World.size_drew]; omega) | (simp; done) | (simp; omega))) | with_reducible refine Below.drew ?_ | with_reducible refine below_drewN ?_ _))⟩; (simp only [beq_iff_eq, beq_eq_false_iff_ne, ne_eq, decide_eq_true_eq, decide_eq_false_iff_not, Bool.not_eq_true', Bool.not_eq_false'] at *); (first | rfl | (show Ending.returned (.int .i64 _) = .returned (.int .i64 (one x i n)); congr 2; unfold one; have hcc := HC.out; rw [HF.out]; repeat (first | rw [if_pos (by omega)] | rw [if_neg (by omega)]))))))

set_option maxHeartbeats 400000 in
theorem cone_c116 (x : Insn) (hx : x.Ok) (i n : Nat) (w : World) (hn : n ≤ 1000000) (hi : i ≤ 1000000) (hcc : x.code = 116) :
    Calls Try.prog 64 #[(Value.agg #[.int .u16 x.code, .int .u8 x.jt, .int .u8 x.jf, .int .u32 x.k]), .int .i64 i, .int .i64 n] w fun e w' => e = .returned (.int .i64 (one x i n)) ∧ Below w.heap.size w w' := by
  have hc := hx.code
  have hk := hx.k
  have hjt := hx.jt
  have hjf := hx.jf
  have hbb := behind_le i n
  have HF := Lib.hid (show form x.code = 1 by rw [hcc]; decide)
  have c0 : ((x.code : Int) == 32) = false := by simp; omega
  have c1 : ((x.code : Int) == 52) = false := by simp; omega
  have c2 : ((x.code : Int) == 100) = false := by simp; omega
  have c3 : ((x.code : Int) == 116) = true := by simp; omega
  have HC := Lib.hid hcc
  clear hcc
  go_enter Try.func64, Try.ntmps64
  go_wp2_with (first | (go_at_call 105; refine (form_any x.code hc _).mono ?_; rw [HF.out]; rintro e w' ⟨rfl, hb⟩; (obtain ⟨hb_c, hb_f⟩ := bcell hb; have hb_z := (hb).size; have hb_0 : Below w.heap.size w _ := Below.trans (by (repeat (first | with_reducible exact Below.refl _ _ | with_reducible assumption | ((with_reducible refine Below.setCell ?_ ?hp _); case hp => (first | omega | (simp only [World.size_alloc, World.size_setCell, World.size_drew]; omega) | (simp; done) | (simp; omega))) | ((with_reducible refine Below.alloc ?_ ?hp _); case hp => (first | omega | (simp only [World.size_alloc, World.size_setCell, World.size_drew]; omega) | (simp; done) | (simp; omega))) | with_reducible refine Below.drew ?_ | with_reducible refine below_drewN ?_ _))) ((hb).mono (by (first | omega | (simp only [World.size_alloc, World.size_setCell, World.size_drew]; omega) | (simp; done) | (simp; omega)))); (try simp only [World.size_alloc, World.size_setCell, World.size_drew] at hb_z hb_c hb_f); clear hb); (have hb_k0 := hb_c (w.heap.size) 0 (by omega); simp [go_sem] at hb_k0; have hb_k1 := hb_c (w.heap.size) 1 (by omega); simp [go_sem] at hb_k1; have hb_k2 := hb_c (w.heap.size) 2 (by omega); simp [go_sem] at hb_k2; have hb_k3 := hb_c (w.heap.size) 3 (by omega); simp [go_sem] at hb_k3)))
  all_goals first
    | (go_ret; go_light; refine ⟨?_, by (try refine below_drewN ?_ _); (repeat (first | with_reducible exact Below.refl _ _ | with_reducible assumption | ((with_reducible refine Below.setCell ?_ ?hp _); case hp => (first | omega | (simp only [World.size_alloc, World.size_setCell, World.size_drew]; omega) | (simp; done) | (simp; omega))) | ((with_reducible refine Below.alloc ?_ ?hp _); case hp => (first | omega | (simp only [World.size_alloc, World.size_setCell, World.size_drew]; omega) | (simp; done) | (simp; omega))) | with_reducible refine Below.drew ?_ | with_reducible refine below_drewN ?_ _))⟩; (simp only [beq_iff_eq, beq_eq_false_iff_ne, ne_eq, decide_eq_true_eq, decide_eq_false_iff_not, Bool.not_eq_true', Bool.not_eq_false'] at *); (first | rfl | (show Ending.returned (.int .i64 _) = .returned (.int .i64 (one x i n)); congr 2; unfold one; have hcc := HC.out; rw [HF.out]; repeat (first | rw [if_pos (by omega)] | rw [if_neg (by omega)]))))
    | (go_quiet ((go_at_call 106; (first | exact behind_quiet _ _ _ hn hi | exact behind_quiet2 _ _ _ hn hi)))
       go_wp2
       all_goals first
         | (go_ret; go_light; refine ⟨?_, by (try refine below_drewN ?_ _); (repeat (first | with_reducible exact Below.refl _ _ | with_reducible assumption | ((with_reducible refine Below.setCell ?_ ?hp _); case hp => (first | omega | (simp only [World.size_alloc, World.size_setCell, World.size_drew]; omega) | (simp; done) | (simp; omega))) | ((with_reducible refine Below.alloc ?_ ?hp _); case hp => (first | omega | (simp only [World.size_alloc, World.size_setCell, World.size_drew]; omega) | (simp; done) | (simp; omega))) | with_reducible refine Below.drew ?_ | with_reducible refine below_drewN ?_ _))⟩; (simp only [beq_iff_eq, beq_eq_false_iff_ne, ne_eq, decide_eq_true_eq, decide_eq_false_iff_not, Bool.not_eq_true', Bool.not_eq_false'] at *); (first | rfl | (show Ending.returned (.int .i64 _) = .returned (.int .i64 (one x i n)); congr 2; unfold one; have hcc := HC.out; rw [HF.out]; repeat (first | rw [if_pos (by omega)] | rw [if_neg (by omega)]))))
         | (go_quiet ((go_at_call 106; (first | exact behind_quiet _ _ _ hn hi | exact behind_quiet2 _ _ _ hn hi)))
            go_wp2
            all_goals (go_ret; go_light; refine ⟨?_, by (try refine below_drewN ?_ _); (repeat (first | with_reducible exact Below.refl _ _ | with_reducible assumption | ((with_reducible refine Below.setCell ?_ ?hp _); case hp => (first | omega | (simp only [World.size_alloc, World.size_setCell, World.size_drew]; omega) | (simp; done) | (simp; omega))) | ((with_reducible refine Below.alloc ?_ ?hp _); case hp => (first | omega | (simp only [World.size_alloc, World.size_setCell, World.size_drew]; omega) | (simp; done) | (simp; omega))) | with_reducible refine Below.drew ?_ | with_reducible refine below_drewN ?_ _))⟩; (simp only [beq_iff_eq, beq_eq_false_iff_ne, ne_eq, decide_eq_true_eq, decide_eq_false_iff_not, Bool.not_eq_true', Bool.not_eq_false'] at *); (first | rfl | (show Ending.returned (.int .i64 _) = .returned (.int .i64 (one x i n)); congr 2; unfold one; have hcc := HC.out; rw [HF.out]; repeat (first | rw [if_pos (by omega)] | rw [if_neg (by omega)]))))))

theorem cone_any (x : Insn) (hx : x.Ok) (i n : Nat) (w : World) (hn : n ≤ 1000000) (hi : i ≤ 1000000) :
    Calls Try.prog 64 #[(Value.agg #[.int .u16 x.code, .int .u8 x.jt, .int .u8 x.jf, .int .u32 x.k]), .int .i64 i, .int .i64 n] w fun e w' => e = .returned (.int .i64 (one x i n)) ∧ Below w.heap.size w w' := by
  by_cases h1 : x.code = 32
  · exact cone_c32 x hx i n w hn hi h1
  by_cases h2 : x.code = 52
  · exact cone_c52 x hx i n w hn hi h2
  by_cases h3 : x.code = 100
  · exact cone_c100 x hx i n w hn hi h3
  by_cases h4 : x.code = 116
  · exact cone_c116 x hx i n w hn hi h4
  have hcc : x.code ≠ 32 ∧ x.code ≠ 52 ∧ x.code ≠ 100 ∧ x.code ≠ 116 := ⟨h1, h2, h3, h4⟩
  rcases form_vals x.code with hf | hf | hf | hf | hf | hf | hf | hf
  · exact cone_fm1 x hx i n w hn hi hf hcc
  · exact cone_f0 x hx i n w hn hi hf hcc
  · exact cone_f1 x hx i n w hn hi hf hcc
  · exact cone_f2 x hx i n w hn hi hf hcc
  · exact cone_f3 x hx i n w hn hi hf hcc
  · exact cone_f4 x hx i n w hn hi hf hcc
  · exact cone_f5 x hx i n w hn hi hf hcc
  · exact cone_f6 x hx i n w hn hi hf hcc

end Go.Proofs.Ytfjbanfibmpalaa

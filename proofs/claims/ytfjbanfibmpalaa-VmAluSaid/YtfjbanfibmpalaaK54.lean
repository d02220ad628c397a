/- Contracts: what becomes of two numbers. -/
import Derived.Test.YtfjbanfibmpalaaK53
import Derived.Laws.BitsAllLaws
import Derived.Deep.WholeRow
set_option linter.unusedVariables false
set_option linter.unusedSimpArgs false
namespace Go.Proofs.Ytfjbanfibmpalaa
open Go.RowKit Go.Shelf

theorem ret_two {x y : Int} {c : Bool} (h : x = y) : Ending.returned (.tuple #[.int .u32 x, .bool c]) = Ending.returned (.tuple #[.int .u32 y, .bool c]) := by rw [h]

theorem op3_eq (a b : Nat) (hb : b ≠ 0) : aluL 3 a b = (a / b, true) := by
  show (if b = 0 then ((0, false) : Nat × Bool) else (a / b, true)) = _
  rw [if_neg hb]
theorem shl_eq (a b : Nat) : (a : Int) * 2 ^ min b 32 % 4294967296 = ((aluL 6 a b).1 : Nat) := by
  show _ = (((if b < 32 then a * 2 ^ b % 4294967296 else 0 : Nat)) : Int)
  by_cases h : b < 32
  · rw [if_pos h, Nat.min_eq_left (by omega), Int.natCast_emod, Int.natCast_mul, Int.natCast_pow]; rfl
  · rw [if_neg h, Nat.min_eq_right (by omega)]
    rw [show (2 : Int) ^ 32 = 4294967296 from rfl, Int.mul_emod_left]; rfl
theorem shr_eq (a b : Nat) (ha : a < 4294967296) : (a : Int) / 2 ^ min b 32 = ((aluL 7 a b).1 : Nat) := by
  show _ = (((if b < 32 then a / 2 ^ b else 0 : Nat)) : Int)
  by_cases h : b < 32
  · rw [if_pos h, Nat.min_eq_left (by omega), Int.natCast_ediv, Int.natCast_pow]; rfl
  · rw [if_neg h, Nat.min_eq_right (by omega)]
    rw [show (2 : Int) ^ 32 = 4294967296 from rfl]; omega

set_option maxRecDepth 100000 in
set_option maxHeartbeats 400000 in
theorem op0_any (a b : Nat) (ha : a < 4294967296) (hb : b < 4294967296) (w : World) :
    Calls Try.prog 107 #[.int .u32 a, .int .u32 b] w fun e w' => e = .returned (.tuple #[.int .u32 ((aluL 0 a b).1 : Nat), .bool (aluL 0 a b).2]) ∧ w = w' := by
  go_enter Try.func107, Try.ntmps107
  go_wp2
  go_ret2
  exact ⟨ret_two (by show _ = (((a + b) % 4294967296 : Nat) : Int); omega), rfl⟩
set_option maxRecDepth 100000 in
set_option maxHeartbeats 400000 in
theorem op1_any (a b : Nat) (ha : a < 4294967296) (hb : b < 4294967296) (w : World) :
    Calls Try.prog 108 #[.int .u32 a, .int .u32 b] w fun e w' => e = .returned (.tuple #[.int .u32 ((aluL 1 a b).1 : Nat), .bool (aluL 1 a b).2]) ∧ w = w' := by
  go_enter Try.func108, Try.ntmps108
  go_wp2
  go_ret2
  exact ⟨ret_two (by show _ = (((a + 4294967296 - b) % 4294967296 : Nat) : Int); omega), rfl⟩
set_option maxRecDepth 100000 in
set_option maxHeartbeats 400000 in
theorem op2_any (a b : Nat) (ha : a < 4294967296) (hb : b < 4294967296) (w : World) :
    Calls Try.prog 109 #[.int .u32 a, .int .u32 b] w fun e w' => e = .returned (.tuple #[.int .u32 ((aluL 2 a b).1 : Nat), .bool (aluL 2 a b).2]) ∧ w = w' := by
  go_enter Try.func109, Try.ntmps109
  go_wp2
  go_ret2
  exact ⟨ret_two (by show _ = ((a * b % 4294967296 : Nat) : Int); rw [Int.natCast_emod, Int.natCast_mul]; rfl), rfl⟩
set_option maxRecDepth 100000 in
set_option maxHeartbeats 400000 in
theorem op3_any (a b : Nat) (ha : a < 4294967296) (hb : b < 4294967296) (w : World) :
    Calls Try.prog 110 #[.int .u32 a, .int .u32 b] w fun e w' => e = .returned (.tuple #[.int .u32 ((aluL 3 a b).1 : Nat), .bool (aluL 3 a b).2]) ∧ w = w' := by
  by_cases h0 : b = 0
  · subst h0
    go_enter Try.func110, Try.ntmps110
    go_wp2
    go_ret2
    exact ⟨rfl, rfl⟩
  · have e0 : ((b : Int) == 0) = false := by simpa using h0
    have e1 : ¬ (b : Int) = 0 := by omega
    rw [op3_eq a b h0]
    have hd : a / b < 4294967296 := Nat.lt_of_le_of_lt (Nat.div_le_self _ _) ha
    have HDV := Lib.hid (show (a : Int) / b % 4294967296 = ((a / b : Nat) : Int) by rw [← Int.natCast_ediv]; generalize a / b = q at *; omega)
    clear hd
    go_enter Try.func110, Try.ntmps110
    go_wp2
    go_ret2
    exact ⟨ret_two HDV.out, rfl⟩
set_option maxRecDepth 100000 in
set_option maxHeartbeats 400000 in
theorem op4_any (a b : Nat) (ha : a < 4294967296) (hb : b < 4294967296) (w : World) :
    Calls Try.prog 111 #[.int .u32 a, .int .u32 b] w fun e w' => e = .returned (.tuple #[.int .u32 ((aluL 4 a b).1 : Nat), .bool (aluL 4 a b).2]) ∧ w = w' := by
  go_enter Try.func111, Try.ntmps111
  go_wp2
  go_ret2
  exact ⟨ret_two (u32_or_nat a b ha hb), rfl⟩
set_option maxRecDepth 100000 in
set_option maxHeartbeats 400000 in
theorem op5_any (a b : Nat) (ha : a < 4294967296) (hb : b < 4294967296) (w : World) :
    Calls Try.prog 112 #[.int .u32 a, .int .u32 b] w fun e w' => e = .returned (.tuple #[.int .u32 ((aluL 5 a b).1 : Nat), .bool (aluL 5 a b).2]) ∧ w = w' := by
  go_enter Try.func112, Try.ntmps112
  go_wp2
  go_ret2
  exact ⟨ret_two (u32_and_nat a b ha hb), rfl⟩
set_option maxRecDepth 100000 in
set_option maxHeartbeats 400000 in
theorem op6_any (a b : Nat) (ha : a < 4294967296) (hb : b < 4294967296) (w : World) :
    Calls Try.prog 113 #[.int .u32 a, .int .u32 b] w fun e w' => e = .returned (.tuple #[.int .u32 ((aluL 6 a b).1 : Nat), .bool (aluL 6 a b).2]) ∧ w = w' := by
  go_enter Try.func113, Try.ntmps113
  go_wp2
  go_ret2
  exact ⟨ret_two (shl_eq a b), rfl⟩
set_option maxRecDepth 100000 in
set_option maxHeartbeats 400000 in
theorem op7_any (a b : Nat) (ha : a < 4294967296) (hb : b < 4294967296) (w : World) :
    Calls Try.prog 114 #[.int .u32 a, .int .u32 b] w fun e w' => e = .returned (.tuple #[.int .u32 ((aluL 7 a b).1 : Nat), .bool (aluL 7 a b).2]) ∧ w = w' := by
  go_enter Try.func114, Try.ntmps114
  go_wp2
  go_ret2
  exact ⟨ret_two (shr_eq a b ha), rfl⟩
set_option maxRecDepth 100000 in
set_option maxHeartbeats 400000 in
theorem op8_any (a b : Nat) (ha : a < 4294967296) (hb : b < 4294967296) (w : World) :
    Calls Try.prog 115 #[.int .u32 a, .int .u32 b] w fun e w' => e = .returned (.tuple #[.int .u32 ((aluL 8 a b).1 : Nat), .bool (aluL 8 a b).2]) ∧ w = w' := by
  go_enter Try.func115, Try.ntmps115
  go_wp2
  go_ret2
  exact ⟨ret_two (by show _ = (((4294967296 - a) % 4294967296 : Nat) : Int); omega), rfl⟩
set_option maxRecDepth 100000 in
set_option maxHeartbeats 400000 in
theorem op10_any (a b : Nat) (ha : a < 4294967296) (hb : b < 4294967296) (w : World) :
    Calls Try.prog 116 #[.int .u32 a, .int .u32 b] w fun e w' => e = .returned (.tuple #[.int .u32 ((aluL 10 a b).1 : Nat), .bool (aluL 10 a b).2]) ∧ w = w' := by
  go_enter Try.func116, Try.ntmps116
  go_wp2
  go_ret2
  exact ⟨ret_two (u32_xor_nat a b ha hb), rfl⟩

def opsV : Value := .agg #[.func (.func 107) #[] #[], .func (.func 108) #[] #[], .func (.func 109) #[] #[], .func (.func 110) #[] #[], .func (.func 111) #[] #[], .func (.func 112) #[] #[],
  .func (.func 113) #[] #[], .func (.func 114) #[] #[], .func (.func 115) #[] #[], .nilFunc, .func (.func 116) #[] #[]]

set_option maxHeartbeats 400000 in
theorem operations_any (w : World) :
    Calls Try.prog 66 #[] w fun e w' => e = .returned opsV ∧ Below w.heap.size w w' := by
  go_enter Try.func66, Try.ntmps66
  go_wp2_with (refine wpList_store_row rfl 99 (.tmp 0) (.tmp 1) rfl w.heap.size _ rfl rfl 99 _ (heap_alloc_new w _) (by kernel_rfl) rfl (by kernel_rfl) ?_; rw [World.setRow_alloc_new]; go_simp)
  exact bodyPost_ret (results_cell_row rfl _ _ w.heap.size 99 _ (0, 0) _ rfl (heap_alloc_new w _) Try.underlying99 rfl (by kernel_rfl)) rfl ⟨rfl, by (repeat (first | with_reducible exact Below.refl _ _ | with_reducible assumption | ((with_reducible refine Below.setCell ?_ ?hp _); case hp => (first | omega | (simp only [World.size_alloc, World.size_setCell, World.size_drew]; omega) | (simp; done) | (simp; omega))) | ((with_reducible refine Below.alloc ?_ ?hp _); case hp => (first | omega | (simp only [World.size_alloc, World.size_setCell, World.size_drew]; omega) | (simp; done) | (simp; omega))) | with_reducible refine Below.drew ?_ | with_reducible refine below_drewN ?_ _))⟩
end Go.Proofs.Ytfjbanfibmpalaa

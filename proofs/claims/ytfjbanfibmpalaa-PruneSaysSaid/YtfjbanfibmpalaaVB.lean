/- VB -/
import Derived.Test.YtfjbanfibmpalaaVA
import Derived.Laws.BitsAllLaws
import Derived.Deep.WholeRow
import Derived.Laws.StructEq

/- Contracts: what becomes of two numbers. -/
set_option linter.unusedVariables false
set_option linter.unusedSimpArgs false
namespace Go.Proofs.Ytfjbanfibmpalaa
open Go.RowKit Go.Shelf

theorem ret_two {x y : Int} {c : Bool} (h : x = y) : Ending.returned (.tuple #[.int .u32 x, .bool c]) = Ending.returned (.tuple #[.int .u32 y, .bool c]) := by rw [h]

theorem op3_eq (a b : Nat) (hb : b ≠ 0) : aluL 3 a b = (a / b, true) := by
  show (if b = 0 then ((0, false) : Nat × Bool) else (a / b, true)) = _
  rw [if_neg hb]
theorem shl_eq (a b : Nat) : (a : Int) * 2 ^ min b 32 % 4294967296 = ((aluL 6 a b).1 : Nat) := by
  show _ = (((if b < 32 then a * 2 ^ b % 4294967296 else 0 : Nat)) : Int)
  by_cases h : b < 32
  · rw [if_pos h, Nat.min_eq_left (by omega), Int.natCast_emod, Int.natCast_mul, Int.natCast_pow]; rfl
  · rw [if_neg h, Nat.min_eq_right (by omega)]
    rw [show (2 : Int) ^ 32 = 4294967296 from rfl, Int.mul_emod_left]; rfl
theorem shr_eq (a b : Nat) (ha : a < 4294967296) : (a : Int) / 2 ^ min b 32 = ((aluL 7 a b).1 : Nat) := by
  show _ = (((if b < 32 then a / 2 ^ b else 0 : Nat)) : Int)
  by_cases h : b < 32
  · rw [if_pos h, Nat.min_eq_left (by omega), Int.natCast_ediv, Int.natCast_pow]; rfl
  · rw [if_neg h, Nat.min_eq_right (by omega)]
    rw [show (2 : Int) ^ 32 = 4294967296 from rfl]; omega

set_option maxRecDepth 100000 in
set_option maxHeartbeats 400000 in
theorem op0_any (a b : Nat) (ha : a < 4294967296) (hb : b < 4294967296) (w : World) :
    Calls Try.prog 107 #[.int .u32 a, .int .u32 b] w fun e w' => e = .returned (.tuple #[.int .u32 ((aluL 0 a b).1 : Nat), .bool (aluL 0 a b).2]) ∧ w = w' := by
  go_enter Try.func107, Try.ntmps107
  go_wp2
  go_ret2
  exact ⟨ret_two (by show _ = (((a + b) % 4294967296 : Nat) : Int); omega), rfl⟩
set_option maxRecDepth 100000 in
set_option maxHeartbeats 400000 in
theorem op1_any (a b : Nat) (ha : a < 4294967296) (hb : b < 4294967296) (w : World) :
    Calls Try.prog 108 #[.int .u32 a, .int .u32 b] w fun e w' => e = .returned (.tuple #[.int .u32 ((aluL 1 a b).1 : Nat), .bool (aluL 1 a b).2]) ∧ w = w' := by
  go_enter Try.func108, Try.ntmps108
  go_wp2
  go_ret2
  exact ⟨ret_two (by show _ = (((a + 4294967296 - b) % 4294967296 : Nat) : Int); omega), rfl⟩
set_option maxRecDepth 100000 in
set_option maxHeartbeats 400000 in
theorem op2_any (a b : Nat) (ha : a < 4294967296) (hb : b < 4294967296) (w : World) :
    Calls Try.prog 109 #[.int .u32 a, .int .u32 b] w fun e w' => e = .returned (.tuple #[.int .u32 ((aluL 2 a b).1 : Nat), .bool (aluL 2 a b).2]) ∧ w = w' := by
  go_enter Try.func109, Try.ntmps109
  go_wp2
  go_ret2
  exact ⟨ret_two (by show _ = ((a * b % 4294967296 : Nat) : Int); rw [Int.natCast_emod, Int.natCast_mul]; rfl), rfl⟩
set_option maxRecDepth 100000 in
set_option maxHeartbeats 400000 in
theorem op3_any (a b : Nat) (ha : a < 4294967296) (hb : b < 4294967296) (w : World) :
    Calls Try.prog 110 #[.int .u32 a, .int .u32 b] w fun e w' => e = .returned (.tuple #[.int .u32 ((aluL 3 a b).1 : Nat), .bool (aluL 3 a b).2]) ∧ w = w' := by
  by_cases h0 : b = 0
  · subst h0
    go_enter Try.func110, Try.ntmps110
    go_wp2
    go_ret2
    exact ⟨rfl, rfl⟩
  · have e0 : ((b : Int) == 0) = false := by simpa using h0
    have e1 : ¬ (b : Int) = 0 := by omega
    rw [op3_eq a b h0]
    have hd : a / b < 4294967296 := Nat.lt_of_le_of_lt (Nat.div_le_self _ _) ha
    have HDV := Lib.hid (show (a : Int) / b % 4294967296 = ((a / b : Nat) : Int) by rw [← Int.natCast_ediv]; generalize a / b = q at *; omega)
    clear hd
    go_enter Try.func110, Try.ntmps110
    go_wp2
    go_ret2
    exact ⟨ret_two HDV.out, rfl⟩
set_option maxRecDepth 100000 in
set_option maxHeartbeats 400000 in
theorem op4_any (a b : Nat) (ha : a < 4294967296) (hb : b < 4294967296) (w : World) :
    Calls Try.prog 111 #[.int .u32 a, .int .u32 b] w fun e w' => e = .returned (.tuple #[.int .u32 ((aluL 4 a b).1 : Nat), .bool (aluL 4 a b).2]) ∧ w = w' := by
  go_enter Try.func111, Try.ntmps111
  go_wp2
  go_ret2
  exact ⟨ret_two (u32_or_nat a b ha hb), rfl⟩
set_option maxRecDepth 100000 in
set_option maxHeartbeats 400000 in
theorem op5_any (a b : Nat) (ha : a < 4294967296) (hb : b < 4294967296) (w : World) :
    Calls Try.prog 112 #[.int .u32 a, .int .u32 b] w fun e w' => e = .returned (.tuple #[.int .u32 ((aluL 5 a b).1 : Nat), .bool (aluL 5 a b).2]) ∧ w = w' := by
  go_enter Try.func112, Try.ntmps112
  go_wp2
  go_ret2
  exact ⟨ret_two (u32_and_nat a b ha hb), rfl⟩
set_option maxRecDepth 100000 in
set_option maxHeartbeats 400000 in
theorem op6_any (a b : Nat) (ha : a < 4294967296) (hb : b < 4294967296) (w : World) :
    Calls Try.prog 113 #[.int .u32 a, .int .u32 b] w fun e w' => e = .returned (.tuple #[.int .u32 ((aluL 6 a b).1 : Nat), .bool (aluL 6 a b).2]) ∧ w = w' := by
  go_enter Try.func113, Try.ntmps113
  go_wp2
  go_ret2
  exact ⟨ret_two (shl_eq a b), rfl⟩
set_option maxRecDepth 100000 in
set_option maxHeartbeats 400000 in
theorem op7_any (a b : Nat) (ha : a < 4294967296) (hb : b < 4294967296) (w : World) :
    Calls Try.prog 114 #[.int .u32 a, .int .u32 b] w fun e w' => e = .returned (.tuple #[.int .u32 ((aluL 7 a b).1 : Nat), .bool (aluL 7 a b).2]) ∧ w = w' := by
  go_enter Try.func114, Try.ntmps114
  go_wp2
  go_ret2
  exact ⟨ret_two (shr_eq a b ha), rfl⟩
set_option maxRecDepth 100000 in
set_option maxHeartbeats 400000 in
theorem op8_any (a b : Nat) (ha : a < 4294967296) (hb : b < 4294967296) (w : World) :
    Calls Try.prog 115 #[.int .u32 a, .int .u32 b] w fun e w' => e = .returned (.tuple #[.int .u32 ((aluL 8 a b).1 : Nat), .bool (aluL 8 a b).2]) ∧ w = w' := by
  go_enter Try.func115, Try.ntmps115
  go_wp2
  go_ret2
  exact ⟨ret_two (by show _ = (((4294967296 - a) % 4294967296 : Nat) : Int); omega), rfl⟩
set_option maxRecDepth 100000 in
set_option maxHeartbeats 400000 in
theorem op10_any (a b : Nat) (ha : a < 4294967296) (hb : b < 4294967296) (w : World) :
    Calls Try.prog 116 #[.int .u32 a, .int .u32 b] w fun e w' => e = .returned (.tuple #[.int .u32 ((aluL 10 a b).1 : Nat), .bool (aluL 10 a b).2]) ∧ w = w' := by
  go_enter Try.func116, Try.ntmps116
  go_wp2
  go_ret2
  exact ⟨ret_two (u32_xor_nat a b ha hb), rfl⟩

def opsV : Value := .agg #[.func (.func 107) #[] #[], .func (.func 108) #[] #[], .func (.func 109) #[] #[], .func (.func 110) #[] #[], .func (.func 111) #[] #[], .func (.func 112) #[] #[],
  .func (.func 113) #[] #[], .func (.func 114) #[] #[], .func (.func 115) #[] #[], .nilFunc, .func (.func 116) #[] #[]]

set_option maxHeartbeats 400000 in
theorem operations_any (w : World) :
    Calls Try.prog 66 #[] w fun e w' => e = .returned opsV ∧ Below w.heap.size w w' := by
  go_enter Try.func66, Try.ntmps66
  go_wp2_with (refine wpList_store_row rfl 99 (.tmp 0) (.tmp 1) rfl w.heap.size _ rfl rfl 99 _ (heap_alloc_new w _) (by kernel_rfl) rfl (by kernel_rfl) ?_; rw [World.setRow_alloc_new]; go_simp)
  exact bodyPost_ret (results_cell_row rfl _ _ w.heap.size 99 _ (0, 0) _ rfl (heap_alloc_new w _) Try.underlying99 rfl (by kernel_rfl)) rfl ⟨rfl, by (repeat (first | with_reducible exact Below.refl _ _ | with_reducible assumption | ((with_reducible refine Below.setCell ?_ ?hp _); case hp => (first | omega | (simp only [World.size_alloc, World.size_setCell, World.size_drew]; omega) | (simp; done) | (simp; omega))) | ((with_reducible refine Below.alloc ?_ ?hp _); case hp => (first | omega | (simp only [World.size_alloc, World.size_setCell, World.size_drew]; omega) | (simp; done) | (simp; omega))) | with_reducible refine Below.drew ?_ | with_reducible refine below_drewN ?_ _))⟩
end Go.Proofs.Ytfjbanfibmpalaa

/- Contracts: Alu and Holds. -/
set_option linter.unusedVariables false
set_option linter.unusedSimpArgs false
namespace Go.Proofs.Ytfjbanfibmpalaa
open Go.RowKit Go.Shelf

set_option maxRecDepth 100000 in
set_option maxHeartbeats 400000 in
theorem alu_0 (c a b : Nat) (hc : c < 65536) (ha : a < 4294967296) (hb : b < 4294967296) (hi : c / 16 % 16 = 0) (w : World) :
    Calls Try.prog 30 #[.int .u16 c, .int .u32 a, .int .u32 b] w fun e w' => e = .returned (.tuple #[.int .u32 ((aluL 0 a b).1 : Nat), .bool (aluL 0 a b).2]) ∧ Below w.heap.size w w' := by
  have hm : bits .and .u16 (c : Int) 240 = 0 := by rw [u16_240 c hc, hi]; rfl
  clear hi hc
  have HO := Lib.hid (fun W => op0_any a b ha hb W)
  have hix : ∀ w, (Instr.index 99 opsV (.int .i64 0)).run Try.prog w = .ok (.func (.func 107) #[] #[]) w := fun _ => by kernel_rfl
  have hnil : ∀ W, (binOp .eql 98 (.func (.func 107) #[] #[]) .nilFunc).run Try.prog W = .ok (.bool false) W := fun _ => by kernel_rfl
  generalize aluL 0 a b = r at *
  clear ha hb
  have HOP := Lib.hid (fun W => operations_any W)
  generalize opsV = ov at *
  have tok : True := trivial
  have tok2 : True := trivial
  go_enter Try.func30, Try.ntmps30
  go_wp2_with (first
    | (go_at_call 66; have _t := tok; refine (HOP.out w).mono ?_; rintro e w1 ⟨rfl, hb1⟩; have HB1 := Lib.hid hb1; clear hb1; clear tok)
    | (go_at_call 66; have _t := tok2; refine (HOP.out w1).mono ?_; rintro e w2 ⟨rfl, hb2⟩; have HB2 := Lib.hid (HB1.out.trans (hb2.mono HB1.out.size)); clear hb2; clear tok2)
    | (go_at_call 66; refine (HOP.out w2).mono ?_; rintro e w3 ⟨rfl, hb3⟩; have HB3 := Lib.hid (HB2.out.trans (hb3.mono HB2.out.size)); clear hb3)
    | (go_at_call 107; refine (HO.out w3).mono ?_; rintro e w4 ⟨rfl, rfl⟩))
  go_ret2
  exact ⟨rfl, HB3.out⟩

set_option maxRecDepth 100000 in
set_option maxHeartbeats 400000 in
theorem alu_1 (c a b : Nat) (hc : c < 65536) (ha : a < 4294967296) (hb : b < 4294967296) (hi : c / 16 % 16 = 1) (w : World) :
    Calls Try.prog 30 #[.int .u16 c, .int .u32 a, .int .u32 b] w fun e w' => e = .returned (.tuple #[.int .u32 ((aluL 1 a b).1 : Nat), .bool (aluL 1 a b).2]) ∧ Below w.heap.size w w' := by
  have hm : bits .and .u16 (c : Int) 240 = 16 := by rw [u16_240 c hc, hi]; rfl
  clear hi hc
  have HO := Lib.hid (fun W => op1_any a b ha hb W)
  have hix : ∀ w, (Instr.index 99 opsV (.int .i64 1)).run Try.prog w = .ok (.func (.func 108) #[] #[]) w := fun _ => by kernel_rfl
  have hnil : ∀ W, (binOp .eql 98 (.func (.func 108) #[] #[]) .nilFunc).run Try.prog W = .ok (.bool false) W := fun _ => by kernel_rfl
  generalize aluL 1 a b = r at *
  clear ha hb
  have HOP := Lib.hid (fun W => operations_any W)
  generalize opsV = ov at *
  have tok : True := trivial
  have tok2 : True := trivial
  go_enter Try.func30, Try.ntmps30
  go_wp2_with (first
    | (go_at_call 66; have _t := tok; refine (HOP.out w).mono ?_; rintro e w1 ⟨rfl, hb1⟩; have HB1 := Lib.hid hb1; clear hb1; clear tok)
    | (go_at_call 66; have _t := tok2; refine (HOP.out w1).mono ?_; rintro e w2 ⟨rfl, hb2⟩; have HB2 := Lib.hid (HB1.out.trans (hb2.mono HB1.out.size)); clear hb2; clear tok2)
    | (go_at_call 66; refine (HOP.out w2).mono ?_; rintro e w3 ⟨rfl, hb3⟩; have HB3 := Lib.hid (HB2.out.trans (hb3.mono HB2.out.size)); clear hb3)
    | (go_at_call 108; refine (HO.out w3).mono ?_; rintro e w4 ⟨rfl, rfl⟩))
  go_ret2
  exact ⟨rfl, HB3.out⟩

set_option maxRecDepth 100000 in
set_option maxHeartbeats 400000 in
theorem alu_2 (c a b : Nat) (hc : c < 65536) (ha : a < 4294967296) (hb : b < 4294967296) (hi : c / 16 % 16 = 2) (w : World) :
    Calls Try.prog 30 #[.int .u16 c, .int .u32 a, .int .u32 b] w fun e w' => e = .returned (.tuple #[.int .u32 ((aluL 2 a b).1 : Nat), .bool (aluL 2 a b).2]) ∧ Below w.heap.size w w' := by
  have hm : bits .and .u16 (c : Int) 240 = 32 := by rw [u16_240 c hc, hi]; rfl
  clear hi hc
  have HO := Lib.hid (fun W => op2_any a b ha hb W)
  have hix : ∀ w, (Instr.index 99 opsV (.int .i64 2)).run Try.prog w = .ok (.func (.func 109) #[] #[]) w := fun _ => by kernel_rfl
  have hnil : ∀ W, (binOp .eql 98 (.func (.func 109) #[] #[]) .nilFunc).run Try.prog W = .ok (.bool false) W := fun _ => by kernel_rfl
  generalize aluL 2 a b = r at *
  clear ha hb
  have HOP := Lib.hid (fun W => operations_any W)
  generalize opsV = ov at *
  have tok : True := trivial
  have tok2 : True := trivial
  go_enter Try.func30, Try.ntmps30
  go_wp2_with (first
    | (go_at_call 66; have _t := tok; refine (HOP.out w).mono ?_; rintro e w1 ⟨rfl, hb1⟩; have HB1 := Lib.hid hb1; clear hb1; clear tok)
    | (go_at_call 66; have _t := tok2; refine (HOP.out w1).mono ?_; rintro e w2 ⟨rfl, hb2⟩; have HB2 := Lib.hid (HB1.out.trans (hb2.mono HB1.out.size)); clear hb2; clear tok2)
    | (go_at_call 66; refine (HOP.out w2).mono ?_; rintro e w3 ⟨rfl, hb3⟩; have HB3 := Lib.hid (HB2.out.trans (hb3.mono HB2.out.size)); clear hb3)
    | (go_at_call 109; refine (HO.out w3).mono ?_; rintro e w4 ⟨rfl, rfl⟩))
  go_ret2
  exact ⟨rfl, HB3.out⟩

set_option maxRecDepth 100000 in
set_option maxHeartbeats 400000 in
theorem alu_3 (c a b : Nat) (hc : c < 65536) (ha : a < 4294967296) (hb : b < 4294967296) (hi : c / 16 % 16 = 3) (w : World) :
    Calls Try.prog 30 #[.int .u16 c, .int .u32 a, .int .u32 b] w fun e w' => e = .returned (.tuple #[.int .u32 ((aluL 3 a b).1 : Nat), .bool (aluL 3 a b).2]) ∧ Below w.heap.size w w' := by
  have hm : bits .and .u16 (c : Int) 240 = 48 := by rw [u16_240 c hc, hi]; rfl
  clear hi hc
  have HO := Lib.hid (fun W => op3_any a b ha hb W)
  have hix : ∀ w, (Instr.index 99 opsV (.int .i64 3)).run Try.prog w = .ok (.func (.func 110) #[] #[]) w := fun _ => by kernel_rfl
  have hnil : ∀ W, (binOp .eql 98 (.func (.func 110) #[] #[]) .nilFunc).run Try.prog W = .ok (.bool false) W := fun _ => by kernel_rfl
  generalize aluL 3 a b = r at *
  clear ha hb
  have HOP := Lib.hid (fun W => operations_any W)
  generalize opsV = ov at *
  have tok : True := trivial
  have tok2 : True := trivial
  go_enter Try.func30, Try.ntmps30
  go_wp2_with (first
    | (go_at_call 66; have _t := tok; refine (HOP.out w).mono ?_; rintro e w1 ⟨rfl, hb1⟩; have HB1 := Lib.hid hb1; clear hb1; clear tok)
    | (go_at_call 66; have _t := tok2; refine (HOP.out w1).mono ?_; rintro e w2 ⟨rfl, hb2⟩; have HB2 := Lib.hid (HB1.out.trans (hb2.mono HB1.out.size)); clear hb2; clear tok2)
    | (go_at_call 66; refine (HOP.out w2).mono ?_; rintro e w3 ⟨rfl, hb3⟩; have HB3 := Lib.hid (HB2.out.trans (hb3.mono HB2.out.size)); clear hb3)
    | (go_at_call 110; refine (HO.out w3).mono ?_; rintro e w4 ⟨rfl, rfl⟩))
  go_ret2
  exact ⟨rfl, HB3.out⟩

set_option maxRecDepth 100000 in
set_option maxHeartbeats 400000 in
theorem alu_4 (c a b : Nat) (hc : c < 65536) (ha : a < 4294967296) (hb : b < 4294967296) (hi : c / 16 % 16 = 4) (w : World) :
    Calls Try.prog 30 #[.int .u16 c, .int .u32 a, .int .u32 b] w fun e w' => e = .returned (.tuple #[.int .u32 ((aluL 4 a b).1 : Nat), .bool (aluL 4 a b).2]) ∧ Below w.heap.size w w' := by
  have hm : bits .and .u16 (c : Int) 240 = 64 := by rw [u16_240 c hc, hi]; rfl
  clear hi hc
  have HO := Lib.hid (fun W => op4_any a b ha hb W)
  have hix : ∀ w, (Instr.index 99 opsV (.int .i64 4)).run Try.prog w = .ok (.func (.func 111) #[] #[]) w := fun _ => by kernel_rfl
  have hnil : ∀ W, (binOp .eql 98 (.func (.func 111) #[] #[]) .nilFunc).run Try.prog W = .ok (.bool false) W := fun _ => by kernel_rfl
  generalize aluL 4 a b = r at *
  clear ha hb
  have HOP := Lib.hid (fun W => operations_any W)
  generalize opsV = ov at *
  have tok : True := trivial
  have tok2 : True := trivial
  go_enter Try.func30, Try.ntmps30
  go_wp2_with (first
    | (go_at_call 66; have _t := tok; refine (HOP.out w).mono ?_; rintro e w1 ⟨rfl, hb1⟩; have HB1 := Lib.hid hb1; clear hb1; clear tok)
    | (go_at_call 66; have _t := tok2; refine (HOP.out w1).mono ?_; rintro e w2 ⟨rfl, hb2⟩; have HB2 := Lib.hid (HB1.out.trans (hb2.mono HB1.out.size)); clear hb2; clear tok2)
    | (go_at_call 66; refine (HOP.out w2).mono ?_; rintro e w3 ⟨rfl, hb3⟩; have HB3 := Lib.hid (HB2.out.trans (hb3.mono HB2.out.size)); clear hb3)
    | (go_at_call 111; refine (HO.out w3).mono ?_; rintro e w4 ⟨rfl, rfl⟩))
  go_ret2
  exact ⟨rfl, HB3.out⟩

set_option maxRecDepth 100000 in
set_option maxHeartbeats 400000 in
theorem alu_5 (c a b : Nat) (hc : c < 65536) (ha : a < 4294967296) (hb : b < 4294967296) (hi : c / 16 % 16 = 5) (w : World) :
    Calls Try.prog 30 #[.int .u16 c, .int .u32 a, .int .u32 b] w fun e w' => e = .returned (.tuple #[.int .u32 ((aluL 5 a b).1 : Nat), .bool (aluL 5 a b).2]) ∧ Below w.heap.size w w' := by
  have hm : bits .and .u16 (c : Int) 240 = 80 := by rw [u16_240 c hc, hi]; rfl
  clear hi hc
  have HO := Lib.hid (fun W => op5_any a b ha hb W)
  have hix : ∀ w, (Instr.index 99 opsV (.int .i64 5)).run Try.prog w = .ok (.func (.func 112) #[] #[]) w := fun _ => by kernel_rfl
  have hnil : ∀ W, (binOp .eql 98 (.func (.func 112) #[] #[]) .nilFunc).run Try.prog W = .ok (.bool false) W := fun _ => by kernel_rfl
  generalize aluL 5 a b = r at *
  clear ha hb
  have HOP := Lib.hid (fun W => operations_any W)
  generalize opsV = ov at *
  have tok : True := trivial
  have tok2 : True := trivial
  go_enter Try.func30, Try.ntmps30
  go_wp2_with (first
    | (go_at_call 66; have _t := tok; refine (HOP.out w).mono ?_; rintro e w1 ⟨rfl, hb1⟩; have HB1 := Lib.hid hb1; clear hb1; clear tok)
    | (go_at_call 66; have _t := tok2; refine (HOP.out w1).mono ?_; rintro e w2 ⟨rfl, hb2⟩; have HB2 := Lib.hid (HB1.out.trans (hb2.mono HB1.out.size)); clear hb2; clear tok2)
    | (go_at_call 66; refine (HOP.out w2).mono ?_; rintro e w3 ⟨rfl, hb3⟩; have HB3 := Lib.hid (HB2.out.trans (hb3.mono HB2.out.size)); clear hb3)
    | (go_at_call 112; refine (HO.out w3).mono ?_; rintro e w4 ⟨rfl, rfl⟩))
  go_ret2
  exact ⟨rfl, HB3.out⟩

set_option maxRecDepth 100000 in
set_option maxHeartbeats 400000 in
theorem alu_6 (c a b : Nat) (hc : c < 65536) (ha : a < 4294967296) (hb : b < 4294967296) (hi : c / 16 % 16 = 6) (w : World) :
    Calls Try.prog 30 #[.int .u16 c, .int .u32 a, .int .u32 b] w fun e w' => e = .returned (.tuple #[.int .u32 ((aluL 6 a b).1 : Nat), .bool (aluL 6 a b).2]) ∧ Below w.heap.size w w' := by
  have hm : bits .and .u16 (c : Int) 240 = 96 := by rw [u16_240 c hc, hi]; rfl
  clear hi hc
  have HO := Lib.hid (fun W => op6_any a b ha hb W)
  have hix : ∀ w, (Instr.index 99 opsV (.int .i64 6)).run Try.prog w = .ok (.func (.func 113) #[] #[]) w := fun _ => by kernel_rfl
  have hnil : ∀ W, (binOp .eql 98 (.func (.func 113) #[] #[]) .nilFunc).run Try.prog W = .ok (.bool false) W := fun _ => by kernel_rfl
  generalize aluL 6 a b = r at *
  clear ha hb
  have HOP := Lib.hid (fun W => operations_any W)
  generalize opsV = ov at *
  have tok : True := trivial
  have tok2 : True := trivial
  go_enter Try.func30, Try.ntmps30
  go_wp2_with (first
    | (go_at_call 66; have _t := tok; refine (HOP.out w).mono ?_; rintro e w1 ⟨rfl, hb1⟩; have HB1 := Lib.hid hb1; clear hb1; clear tok)
    | (go_at_call 66; have _t := tok2; refine (HOP.out w1).mono ?_; rintro e w2 ⟨rfl, hb2⟩; have HB2 := Lib.hid (HB1.out.trans (hb2.mono HB1.out.size)); clear hb2; clear tok2)
    | (go_at_call 66; refine (HOP.out w2).mono ?_; rintro e w3 ⟨rfl, hb3⟩; have HB3 := Lib.hid (HB2.out.trans (hb3.mono HB2.out.size)); clear hb3)
    | (go_at_call 113; refine (HO.out w3).mono ?_; rintro e w4 ⟨rfl, rfl⟩))
  go_ret2
  exact ⟨rfl, HB3.out⟩

set_option maxRecDepth 100000 in
set_option maxHeartbeats 400000 in
theorem alu_7 (c a b : Nat) (hc : c < 65536) (ha : a < 4294967296) (hb : b < 4294967296) (hi : c / 16 % 16 = 7) (w : World) :
    Calls Try.prog 30 #[.int .u16 c, .int .u32 a, .int .u32 b] w fun e w' => e = .returned (.tuple #[.int .u32 ((aluL 7 a b).1 : Nat), .bool (aluL 7 a b).2]) ∧ Below w.heap.size w w' := by
  have hm : bits .and .u16 (c : Int) 240 = 112 := by rw [u16_240 c hc, hi]; rfl
  clear hi hc
  have HO := Lib.hid (fun W => op7_any a b ha hb W)
  have hix : ∀ w, (Instr.index 99 opsV (.int .i64 7)).run Try.prog w = .ok (.func (.func 114) #[] #[]) w := fun _ => by kernel_rfl
  have hnil : ∀ W, (binOp .eql 98 (.func (.func 114) #[] #[]) .nilFunc).run Try.prog W = .ok (.bool false) W := fun _ => by kernel_rfl
  generalize aluL 7 a b = r at *
  clear ha hb
  have HOP := Lib.hid (fun W => operations_any W)
  generalize opsV = ov at *
  have tok : True := trivial
  have tok2 : True := trivial
  go_enter Try.func30, Try.ntmps30
  go_wp2_with (first
    | (go_at_call 66; have _t := tok; refine (HOP.out w).mono ?_; rintro e w1 ⟨rfl, hb1⟩; have HB1 := Lib.hid hb1; clear hb1; clear tok)
    | (go_at_call 66; have _t := tok2; refine (HOP.out w1).mono ?_; rintro e w2 ⟨rfl, hb2⟩; have HB2 := Lib.hid (HB1.out.trans (hb2.mono HB1.out.size)); clear hb2; clear tok2)
    | (go_at_call 66; refine (HOP.out w2).mono ?_; rintro e w3 ⟨rfl, hb3⟩; have HB3 := Lib.hid (HB2.out.trans (hb3.mono HB2.out.size)); clear hb3)
    | (go_at_call 114; refine (HO.out w3).mono ?_; rintro e w4 ⟨rfl, rfl⟩))
  go_ret2
  exact ⟨rfl, HB3.out⟩

set_option maxRecDepth 100000 in
set_option maxHeartbeats 400000 in
theorem alu_8 (c a b : Nat) (hc : c < 65536) (ha : a < 4294967296) (hb : b < 4294967296) (hi : c / 16 % 16 = 8) (w : World) :
    Calls Try.prog 30 #[.int .u16 c, .int .u32 a, .int .u32 b] w fun e w' => e = .returned (.tuple #[.int .u32 ((aluL 8 a b).1 : Nat), .bool (aluL 8 a b).2]) ∧ Below w.heap.size w w' := by
  have hm : bits .and .u16 (c : Int) 240 = 128 := by rw [u16_240 c hc, hi]; rfl
  clear hi hc
  have HO := Lib.hid (fun W => op8_any a b ha hb W)
  have hix : ∀ w, (Instr.index 99 opsV (.int .i64 8)).run Try.prog w = .ok (.func (.func 115) #[] #[]) w := fun _ => by kernel_rfl
  have hnil : ∀ W, (binOp .eql 98 (.func (.func 115) #[] #[]) .nilFunc).run Try.prog W = .ok (.bool false) W := fun _ => by kernel_rfl
  generalize aluL 8 a b = r at *
  clear ha hb
  have HOP := Lib.hid (fun W => operations_any W)
  generalize opsV = ov at *
  have tok : True := trivial
  have tok2 : True := trivial
  go_enter Try.func30, Try.ntmps30
  go_wp2_with (first
    | (go_at_call 66; have _t := tok; refine (HOP.out w).mono ?_; rintro e w1 ⟨rfl, hb1⟩; have HB1 := Lib.hid hb1; clear hb1; clear tok)
    | (go_at_call 66; have _t := tok2; refine (HOP.out w1).mono ?_; rintro e w2 ⟨rfl, hb2⟩; have HB2 := Lib.hid (HB1.out.trans (hb2.mono HB1.out.size)); clear hb2; clear tok2)
    | (go_at_call 66; refine (HOP.out w2).mono ?_; rintro e w3 ⟨rfl, hb3⟩; have HB3 := Lib.hid (HB2.out.trans (hb3.mono HB2.out.size)); clear hb3)
    | (go_at_call 115; refine (HO.out w3).mono ?_; rintro e w4 ⟨rfl, rfl⟩))
  go_ret2
  exact ⟨rfl, HB3.out⟩

set_option maxRecDepth 100000 in
set_option maxHeartbeats 400000 in
theorem alu_9 (c a b : Nat) (hc : c < 65536) (ha : a < 4294967296) (hb : b < 4294967296) (hi : c / 16 % 16 = 9) (w : World) :
    Calls Try.prog 30 #[.int .u16 c, .int .u32 a, .int .u32 b] w fun e w' => e = .returned (.tuple #[.int .u32 ((aluL 9 a b).1 : Nat), .bool (aluL 9 a b).2]) ∧ Below w.heap.size w w' := by
  have hm : bits .and .u16 (c : Int) 240 = 144 := by rw [u16_240 c hc, hi]; rfl
  clear hi hc
  have e : aluL 9 a b = (0, false) := rfl
  rw [e]
  clear e ha hb
  have hix : ∀ w, (Instr.index 99 opsV (.int .i64 9)).run Try.prog w = .ok .nilFunc w := fun _ => by kernel_rfl
  have hnil : ∀ W, (binOp .eql 98 .nilFunc .nilFunc).run Try.prog W = .ok (.bool true) W := fun _ => by kernel_rfl
  have HOP := Lib.hid (fun W => operations_any W)
  generalize opsV = ov at *
  have tok : True := trivial
  have tok2 : True := trivial
  go_enter Try.func30, Try.ntmps30
  go_wp2_with (first
    | (go_at_call 66; have _t := tok; refine (HOP.out w).mono ?_; rintro e w1 ⟨rfl, hb1⟩; have HB1 := Lib.hid hb1; clear hb1; clear tok)
    | (go_at_call 66; have _t := tok2; refine (HOP.out w1).mono ?_; rintro e w2 ⟨rfl, hb2⟩; have HB2 := Lib.hid (HB1.out.trans (hb2.mono HB1.out.size)); clear hb2; clear tok2)
    | (go_at_call 66; refine (HOP.out w2).mono ?_; rintro e w3 ⟨rfl, hb3⟩; have HB3 := Lib.hid (HB2.out.trans (hb3.mono HB2.out.size)); clear hb3))
  go_ret2
  exact ⟨rfl, HB2.out⟩

set_option maxRecDepth 100000 in
set_option maxHeartbeats 400000 in
theorem alu_10 (c a b : Nat) (hc : c < 65536) (ha : a < 4294967296) (hb : b < 4294967296) (hi : c / 16 % 16 = 10) (w : World) :
    Calls Try.prog 30 #[.int .u16 c, .int .u32 a, .int .u32 b] w fun e w' => e = .returned (.tuple #[.int .u32 ((aluL 10 a b).1 : Nat), .bool (aluL 10 a b).2]) ∧ Below w.heap.size w w' := by
  have hm : bits .and .u16 (c : Int) 240 = 160 := by rw [u16_240 c hc, hi]; rfl
  clear hi hc
  have HO := Lib.hid (fun W => op10_any a b ha hb W)
  have hix : ∀ w, (Instr.index 99 opsV (.int .i64 10)).run Try.prog w = .ok (.func (.func 116) #[] #[]) w := fun _ => by kernel_rfl
  have hnil : ∀ W, (binOp .eql 98 (.func (.func 116) #[] #[]) .nilFunc).run Try.prog W = .ok (.bool false) W := fun _ => by kernel_rfl
  generalize aluL 10 a b = r at *
  clear ha hb
  have HOP := Lib.hid (fun W => operations_any W)
  generalize opsV = ov at *
  have tok : True := trivial
  have tok2 : True := trivial
  go_enter Try.func30, Try.ntmps30
  go_wp2_with (first
    | (go_at_call 66; have _t := tok; refine (HOP.out w).mono ?_; rintro e w1 ⟨rfl, hb1⟩; have HB1 := Lib.hid hb1; clear hb1; clear tok)
    | (go_at_call 66; have _t := tok2; refine (HOP.out w1).mono ?_; rintro e w2 ⟨rfl, hb2⟩; have HB2 := Lib.hid (HB1.out.trans (hb2.mono HB1.out.size)); clear hb2; clear tok2)
    | (go_at_call 66; refine (HOP.out w2).mono ?_; rintro e w3 ⟨rfl, hb3⟩; have HB3 := Lib.hid (HB2.out.trans (hb3.mono HB2.out.size)); clear hb3)
    | (go_at_call 116; refine (HO.out w3).mono ?_; rintro e w4 ⟨rfl, rfl⟩))
  go_ret2
  exact ⟨rfl, HB3.out⟩

set_option maxRecDepth 100000 in
set_option maxHeartbeats 400000 in
theorem alu_11 (c a b : Nat) (hc : c < 65536) (ha : a < 4294967296) (hb : b < 4294967296) (hi : c / 16 % 16 = 11) (w : World) :
    Calls Try.prog 30 #[.int .u16 c, .int .u32 a, .int .u32 b] w fun e w' => e = .returned (.tuple #[.int .u32 ((aluL 11 a b).1 : Nat), .bool (aluL 11 a b).2]) ∧ Below w.heap.size w w' := by
  have hm : bits .and .u16 (c : Int) 240 = 176 := by rw [u16_240 c hc, hi]; rfl
  clear hi hc
  have e : aluL 11 a b = (0, false) := rfl
  rw [e]
  clear e ha hb
  have hix : ∀ w, (Instr.index 99 opsV (.int .i64 9)).run Try.prog w = .ok .nilFunc w := fun _ => by kernel_rfl
  have hnil : ∀ W, (binOp .eql 98 .nilFunc .nilFunc).run Try.prog W = .ok (.bool true) W := fun _ => by kernel_rfl
  have HOP := Lib.hid (fun W => operations_any W)
  generalize opsV = ov at *
  have tok : True := trivial
  have tok2 : True := trivial
  go_enter Try.func30, Try.ntmps30
  go_wp2_with (first
    | (go_at_call 66; have _t := tok; refine (HOP.out w).mono ?_; rintro e w1 ⟨rfl, hb1⟩; have HB1 := Lib.hid hb1; clear hb1; clear tok)
    | (go_at_call 66; have _t := tok2; refine (HOP.out w1).mono ?_; rintro e w2 ⟨rfl, hb2⟩; have HB2 := Lib.hid (HB1.out.trans (hb2.mono HB1.out.size)); clear hb2; clear tok2)
    | (go_at_call 66; refine (HOP.out w2).mono ?_; rintro e w3 ⟨rfl, hb3⟩; have HB3 := Lib.hid (HB2.out.trans (hb3.mono HB2.out.size)); clear hb3))
  go_ret2
  exact ⟨rfl, HB1.out⟩

set_option maxRecDepth 100000 in
set_option maxHeartbeats 400000 in
theorem alu_12 (c a b : Nat) (hc : c < 65536) (ha : a < 4294967296) (hb : b < 4294967296) (hi : c / 16 % 16 = 12) (w : World) :
    Calls Try.prog 30 #[.int .u16 c, .int .u32 a, .int .u32 b] w fun e w' => e = .returned (.tuple #[.int .u32 ((aluL 12 a b).1 : Nat), .bool (aluL 12 a b).2]) ∧ Below w.heap.size w w' := by
  have hm : bits .and .u16 (c : Int) 240 = 192 := by rw [u16_240 c hc, hi]; rfl
  clear hi hc
  have e : aluL 12 a b = (0, false) := rfl
  rw [e]
  clear e ha hb
  have hix : ∀ w, (Instr.index 99 opsV (.int .i64 9)).run Try.prog w = .ok .nilFunc w := fun _ => by kernel_rfl
  have hnil : ∀ W, (binOp .eql 98 .nilFunc .nilFunc).run Try.prog W = .ok (.bool true) W := fun _ => by kernel_rfl
  have HOP := Lib.hid (fun W => operations_any W)
  generalize opsV = ov at *
  have tok : True := trivial
  have tok2 : True := trivial
  go_enter Try.func30, Try.ntmps30
  go_wp2_with (first
    | (go_at_call 66; have _t := tok; refine (HOP.out w).mono ?_; rintro e w1 ⟨rfl, hb1⟩; have HB1 := Lib.hid hb1; clear hb1; clear tok)
    | (go_at_call 66; have _t := tok2; refine (HOP.out w1).mono ?_; rintro e w2 ⟨rfl, hb2⟩; have HB2 := Lib.hid (HB1.out.trans (hb2.mono HB1.out.size)); clear hb2; clear tok2)
    | (go_at_call 66; refine (HOP.out w2).mono ?_; rintro e w3 ⟨rfl, hb3⟩; have HB3 := Lib.hid (HB2.out.trans (hb3.mono HB2.out.size)); clear hb3))
  go_ret2
  exact ⟨rfl, HB1.out⟩

set_option maxRecDepth 100000 in
set_option maxHeartbeats 400000 in
theorem alu_13 (c a b : Nat) (hc : c < 65536) (ha : a < 4294967296) (hb : b < 4294967296) (hi : c / 16 % 16 = 13) (w : World) :
    Calls Try.prog 30 #[.int .u16 c, .int .u32 a, .int .u32 b] w fun e w' => e = .returned (.tuple #[.int .u32 ((aluL 13 a b).1 : Nat), .bool (aluL 13 a b).2]) ∧ Below w.heap.size w w' := by
  have hm : bits .and .u16 (c : Int) 240 = 208 := by rw [u16_240 c hc, hi]; rfl
  clear hi hc
  have e : aluL 13 a b = (0, false) := rfl
  rw [e]
  clear e ha hb
  have hix : ∀ w, (Instr.index 99 opsV (.int .i64 9)).run Try.prog w = .ok .nilFunc w := fun _ => by kernel_rfl
  have hnil : ∀ W, (binOp .eql 98 .nilFunc .nilFunc).run Try.prog W = .ok (.bool true) W := fun _ => by kernel_rfl
  have HOP := Lib.hid (fun W => operations_any W)
  generalize opsV = ov at *
  have tok : True := trivial
  have tok2 : True := trivial
  go_enter Try.func30, Try.ntmps30
  go_wp2_with (first
    | (go_at_call 66; have _t := tok; refine (HOP.out w).mono ?_; rintro e w1 ⟨rfl, hb1⟩; have HB1 := Lib.hid hb1; clear hb1; clear tok)
    | (go_at_call 66; have _t := tok2; refine (HOP.out w1).mono ?_; rintro e w2 ⟨rfl, hb2⟩; have HB2 := Lib.hid (HB1.out.trans (hb2.mono HB1.out.size)); clear hb2; clear tok2)
    | (go_at_call 66; refine (HOP.out w2).mono ?_; rintro e w3 ⟨rfl, hb3⟩; have HB3 := Lib.hid (HB2.out.trans (hb3.mono HB2.out.size)); clear hb3))
  go_ret2
  exact ⟨rfl, HB1.out⟩

set_option maxRecDepth 100000 in
set_option maxHeartbeats 400000 in
theorem alu_14 (c a b : Nat) (hc : c < 65536) (ha : a < 4294967296) (hb : b < 4294967296) (hi : c / 16 % 16 = 14) (w : World) :
    Calls Try.prog 30 #[.int .u16 c, .int .u32 a, .int .u32 b] w fun e w' => e = .returned (.tuple #[.int .u32 ((aluL 14 a b).1 : Nat), .bool (aluL 14 a b).2]) ∧ Below w.heap.size w w' := by
  have hm : bits .and .u16 (c : Int) 240 = 224 := by rw [u16_240 c hc, hi]; rfl
  clear hi hc
  have e : aluL 14 a b = (0, false) := rfl
  rw [e]
  clear e ha hb
  have hix : ∀ w, (Instr.index 99 opsV (.int .i64 9)).run Try.prog w = .ok .nilFunc w := fun _ => by kernel_rfl
  have hnil : ∀ W, (binOp .eql 98 .nilFunc .nilFunc).run Try.prog W = .ok (.bool true) W := fun _ => by kernel_rfl
  have HOP := Lib.hid (fun W => operations_any W)
  generalize opsV = ov at *
  have tok : True := trivial
  have tok2 : True := trivial
  go_enter Try.func30, Try.ntmps30
  go_wp2_with (first
    | (go_at_call 66; have _t := tok; refine (HOP.out w).mono ?_; rintro e w1 ⟨rfl, hb1⟩; have HB1 := Lib.hid hb1; clear hb1; clear tok)
    | (go_at_call 66; have _t := tok2; refine (HOP.out w1).mono ?_; rintro e w2 ⟨rfl, hb2⟩; have HB2 := Lib.hid (HB1.out.trans (hb2.mono HB1.out.size)); clear hb2; clear tok2)
    | (go_at_call 66; refine (HOP.out w2).mono ?_; rintro e w3 ⟨rfl, hb3⟩; have HB3 := Lib.hid (HB2.out.trans (hb3.mono HB2.out.size)); clear hb3))
  go_ret2
  exact ⟨rfl, HB1.out⟩

set_option maxRecDepth 100000 in
set_option maxHeartbeats 400000 in
theorem alu_15 (c a b : Nat) (hc : c < 65536) (ha : a < 4294967296) (hb : b < 4294967296) (hi : c / 16 % 16 = 15) (w : World) :
    Calls Try.prog 30 #[.int .u16 c, .int .u32 a, .int .u32 b] w fun e w' => e = .returned (.tuple #[.int .u32 ((aluL 15 a b).1 : Nat), .bool (aluL 15 a b).2]) ∧ Below w.heap.size w w' := by
  have hm : bits .and .u16 (c : Int) 240 = 240 := by rw [u16_240 c hc, hi]; rfl
  clear hi hc
  have e : aluL 15 a b = (0, false) := rfl
  rw [e]
  clear e ha hb
  have hix : ∀ w, (Instr.index 99 opsV (.int .i64 9)).run Try.prog w = .ok .nilFunc w := fun _ => by kernel_rfl
  have hnil : ∀ W, (binOp .eql 98 .nilFunc .nilFunc).run Try.prog W = .ok (.bool true) W := fun _ => by kernel_rfl
  have HOP := Lib.hid (fun W => operations_any W)
  generalize opsV = ov at *
  have tok : True := trivial
  have tok2 : True := trivial
  go_enter Try.func30, Try.ntmps30
  go_wp2_with (first
    | (go_at_call 66; have _t := tok; refine (HOP.out w).mono ?_; rintro e w1 ⟨rfl, hb1⟩; have HB1 := Lib.hid hb1; clear hb1; clear tok)
    | (go_at_call 66; have _t := tok2; refine (HOP.out w1).mono ?_; rintro e w2 ⟨rfl, hb2⟩; have HB2 := Lib.hid (HB1.out.trans (hb2.mono HB1.out.size)); clear hb2; clear tok2)
    | (go_at_call 66; refine (HOP.out w2).mono ?_; rintro e w3 ⟨rfl, hb3⟩; have HB3 := Lib.hid (HB2.out.trans (hb3.mono HB2.out.size)); clear hb3))
  go_ret2
  exact ⟨rfl, HB1.out⟩

theorem alu_any (c a b : Nat) (hc : c < 65536) (ha : a < 4294967296) (hb : b < 4294967296) (w : World) :
    Calls Try.prog 30 #[.int .u16 c, .int .u32 a, .int .u32 b] w fun e w' => e = .returned (.tuple #[.int .u32 ((aluL (c / 16 % 16) a b).1 : Nat), .bool (aluL (c / 16 % 16) a b).2]) ∧ Below w.heap.size w w' := by
  have h : c / 16 % 16 < 16 := Nat.mod_lt _ (by decide)
  obtain ⟨i, hi⟩ : ∃ i, c / 16 % 16 = i := ⟨_, rfl⟩
  rw [hi] at h
  rw [hi]
  match i, h, hi with
  | 0, _, hi => exact alu_0 c a b hc ha hb hi w
  | 1, _, hi => exact alu_1 c a b hc ha hb hi w
  | 2, _, hi => exact alu_2 c a b hc ha hb hi w
  | 3, _, hi => exact alu_3 c a b hc ha hb hi w
  | 4, _, hi => exact alu_4 c a b hc ha hb hi w
  | 5, _, hi => exact alu_5 c a b hc ha hb hi w
  | 6, _, hi => exact alu_6 c a b hc ha hb hi w
  | 7, _, hi => exact alu_7 c a b hc ha hb hi w
  | 8, _, hi => exact alu_8 c a b hc ha hb hi w
  | 9, _, hi => exact alu_9 c a b hc ha hb hi w
  | 10, _, hi => exact alu_10 c a b hc ha hb hi w
  | 11, _, hi => exact alu_11 c a b hc ha hb hi w
  | 12, _, hi => exact alu_12 c a b hc ha hb hi w
  | 13, _, hi => exact alu_13 c a b hc ha hb hi w
  | 14, _, hi => exact alu_14 c a b hc ha hb hi w
  | 15, _, hi => exact alu_15 c a b hc ha hb hi w
  | n + 16, h, _ => omega

theorem holdsL_1 (a b : Nat) : ((a : Int) == b) = holdsL 1 a b := by
  have : ((a : Int) == b) = (a == b) := by rw [Bool.eq_iff_iff]; simp only [beq_iff_eq]; omega
  rw [this]; simp [holdsL]
theorem holdsL_2 (a b : Nat) : decide (b < a) = holdsL 2 a b := by simp [holdsL]
theorem holdsL_3 (a b : Nat) : decide (b ≤ a) = holdsL 3 a b := by simp [holdsL]
theorem holdsL_4 (a b : Nat) : (((a &&& b : Nat) : Int) != 0) = holdsL 4 a b := by
  have : (((a &&& b : Nat) : Int) != 0) = ((a &&& b) != 0) := by rw [Bool.eq_iff_iff]; simp only [bne_iff_ne, ne_eq]; omega
  rw [this]; simp [holdsL]
theorem holdsL_0 (i a b : Nat) (h1 : i ≠ 1) (h2 : i ≠ 2) (h3 : i ≠ 3) (h4 : i ≠ 4) : false = holdsL i a b := by simp [holdsL, h1, h2, h3, h4]
theorem ret_bool {x y : Bool} (h : x = y) : Ending.returned (.bool x) = Ending.returned (.bool y) := by rw [h]

set_option maxHeartbeats 400000 in
theorem holds_any (c a b : Nat) (hc : c < 65536) (ha : a < 4294967296) (hb : b < 4294967296) (w : World) :
    Calls Try.prog 32 #[.int .u16 c, .int .u32 a, .int .u32 b] w fun e w' => e = .returned (.bool (holdsL (c / 16 % 16) a b)) ∧ w = w' := by
  have hm := u16_240 c hc
  have hand := u32_and_nat a b ha hb
  have hi : c / 16 % 16 < 16 := Nat.mod_lt _ (by decide)
  generalize c / 16 % 16 = i at *
  clear hc ha hb
  go_enter Try.func32, Try.ntmps32
  go_wp2
  all_goals
    go_ret
    refine ⟨?_, rfl⟩
    simp only [beq_iff_eq, beq_eq_false_iff_ne, ne_eq] at *
    first
      | (obtain rfl : i = 1 := by omega
         exact ret_bool (holdsL_1 a b))
      | (obtain rfl : i = 2 := by omega
         exact ret_bool (holdsL_2 a b))
      | (obtain rfl : i = 3 := by omega
         exact ret_bool (holdsL_3 a b))
      | (obtain rfl : i = 4 := by omega
         exact ret_bool (holdsL_4 a b))
      | exact ret_bool (holdsL_0 i a b (by omega) (by omega) (by omega) (by omega))
end Go.Proofs.Ytfjbanfibmpalaa

/- Contracts: the document's Alu and Holds. -/
set_option linter.unusedVariables false
set_option linter.unusedSimpArgs false
namespace Go.Proofs.Ytfjbanfibmpalaa
open Go.RowKit Go.Shelf

/-- So many times two, going round. -/
def powL (b : Nat) : Nat := if b < 32 then 2 ^ b else 0

set_option maxRecDepth 100000 in
set_option maxHeartbeats 400000 in
theorem power_any (b : Nat) (hb : b < 4294967296) (w : World) :
    Calls Try.prog 67 #[.int .u32 b] w fun e w' => e = .returned (.int .u32 (powL b : Nat)) ∧ w = w' := by
  go_enter Try.func67, Try.ntmps67
  go_wp2
  go_loopw [3, 4] (fun n i wr => ∃ k : Nat, k ≤ b ∧ k ≤ 32 ∧ i = .int .u32 k ∧ n = .int .u32 (powL k : Nat) ∧ wr = w) (fun _ i _ => b - (intOf i).toNat)
  case atStart => exact ⟨0, by omega, by omega, rfl, rfl, rfl⟩
  case round =>
    obtain ⟨k, hk, hk2, rfl, rfl, rfl⟩ := hrel
    by_cases h1 : k < b
    · by_cases h2 : k < 32
      · have e : powL (k + 1) = 2 * powL k % 4294967296 := by
          unfold powL
          rw [if_pos h2]
          by_cases h3 : k + 1 < 32
          · rw [if_pos h3, Nat.pow_succ]
            have : 2 ^ k * 2 < 4294967296 := by
              have := Nat.pow_lt_pow_right (a := 2) (by decide) h3
              rw [Nat.pow_succ] at this; exact this
            omega
          · have : k = 31 := by omega
            subst this; rfl
        have HE := Lib.hid e
        generalize powL k = p at *
        have t2 : (k : Int) < 32 := by omega
        clear e
        go_wp2
        go_roundw
        case rel => exact ⟨k + 1, by omega, by omega, by go_num, by rw [HE.out, Int.natCast_emod, Int.natCast_mul]; rfl, trivial⟩
        case measure => simp [intOf]; omega
      · have : k = 32 := by omega
        subst this
        have e : powL b = powL 32 := by unfold powL; rw [if_neg (by omega), if_neg (by omega)]
        have HE := Lib.hid e
        clear e
        go_wp2
        go_ret
        exact ⟨by rw [HE.out]; rfl, rfl⟩
    · have : k = b := by omega
      subst this
      go_wp2
      go_ret
      exact ⟨rfl, rfl⟩

theorem mulp_eq (a b : Nat) : (a : Int) * ((powL b : Nat) : Int) % 4294967296 = ((aluL 6 a b).1 : Nat) := by
  show _ = (((if b < 32 then a * 2 ^ b % 4294967296 else 0 : Nat)) : Int)
  unfold powL
  by_cases h : b < 32
  · rw [if_pos h, if_pos h, Int.natCast_emod, Int.natCast_mul]; rfl
  · rw [if_neg h, if_neg h, Int.natCast_zero, Int.mul_zero]; rfl
theorem divp_eq (a b : Nat) (ha : a < 4294967296) (h : b < 32) : (a : Int) / ((powL b : Nat) : Int) % 4294967296 = ((aluL 7 a b).1 : Nat) := by
  show _ = (((if b < 32 then a / 2 ^ b else 0 : Nat)) : Int)
  unfold powL
  rw [if_pos h, if_pos h, ← Int.natCast_ediv]
  have : a / 2 ^ b < 4294967296 := Nat.lt_of_le_of_lt (Nat.div_le_self _ _) ha
  generalize a / 2 ^ b = q at *
  omega
theorem powL_pos (b : Nat) (h : b < 32) : 0 < powL b := by unfold powL; rw [if_pos h]; exact Nat.two_pow_pos _

theorem rhold4 (a b : Nat) : decide (0 < (a &&& b)) = holdsL 4 a b := by
  rw [← holdsL_4]
  rw [Bool.eq_iff_iff]
  simp only [decide_eq_true_eq, bne_iff_ne, ne_eq]
  omega

set_option maxRecDepth 100000 in
set_option maxHeartbeats 400000 in
theorem ralu_0 (c a b : Nat) (hc : c < 65536) (ha : a < 4294967296) (hb : b < 4294967296) (hi : c / 16 % 16 = 0) (w : World) :
    Calls Try.prog 31 #[.int .u16 c, .int .u32 a, .int .u32 b] w fun e w' => e = .returned (.tuple #[.int .u32 ((aluL 0 a b).1 : Nat), .bool (aluL 0 a b).2]) ∧ w = w' := by
  have hm : (c : Int) / 16 % 16 = 0 := by omega
  clear hi
  go_enter Try.func31, Try.ntmps31
  go_wp2
  go_ret2
  exact ⟨ret_two (by show _ = (((a + b) % 4294967296 : Nat) : Int); omega), rfl⟩
set_option maxRecDepth 100000 in
set_option maxHeartbeats 400000 in
theorem ralu_1 (c a b : Nat) (hc : c < 65536) (ha : a < 4294967296) (hb : b < 4294967296) (hi : c / 16 % 16 = 1) (w : World) :
    Calls Try.prog 31 #[.int .u16 c, .int .u32 a, .int .u32 b] w fun e w' => e = .returned (.tuple #[.int .u32 ((aluL 1 a b).1 : Nat), .bool (aluL 1 a b).2]) ∧ w = w' := by
  have hm : (c : Int) / 16 % 16 = 1 := by omega
  clear hi
  go_enter Try.func31, Try.ntmps31
  go_wp2
  go_ret2
  exact ⟨ret_two (by show _ = (((a + 4294967296 - b) % 4294967296 : Nat) : Int); omega), rfl⟩
set_option maxRecDepth 100000 in
set_option maxHeartbeats 400000 in
theorem ralu_2 (c a b : Nat) (hc : c < 65536) (ha : a < 4294967296) (hb : b < 4294967296) (hi : c / 16 % 16 = 2) (w : World) :
    Calls Try.prog 31 #[.int .u16 c, .int .u32 a, .int .u32 b] w fun e w' => e = .returned (.tuple #[.int .u32 ((aluL 2 a b).1 : Nat), .bool (aluL 2 a b).2]) ∧ w = w' := by
  have hm : (c : Int) / 16 % 16 = 2 := by omega
  clear hi
  go_enter Try.func31, Try.ntmps31
  go_wp2
  go_ret2
  exact ⟨ret_two (by show _ = ((a * b % 4294967296 : Nat) : Int); rw [Int.natCast_emod, Int.natCast_mul]; rfl), rfl⟩
set_option maxRecDepth 100000 in
set_option maxHeartbeats 400000 in
theorem ralu_3 (c a b : Nat) (hc : c < 65536) (ha : a < 4294967296) (hb : b < 4294967296) (hi : c / 16 % 16 = 3) (w : World) :
    Calls Try.prog 31 #[.int .u16 c, .int .u32 a, .int .u32 b] w fun e w' => e = .returned (.tuple #[.int .u32 ((aluL 3 a b).1 : Nat), .bool (aluL 3 a b).2]) ∧ w = w' := by
  have hm : (c : Int) / 16 % 16 = 3 := by omega
  clear hi
  by_cases h0 : b = 0
  · subst h0
    go_enter Try.func31, Try.ntmps31
    go_wp2
    go_ret2
    exact ⟨rfl, rfl⟩
  · have e0 : ((b : Int) == 0) = false := by simpa using h0
    have e1 : ¬ (b : Int) = 0 := by omega
    rw [op3_eq a b h0]
    have hd : a / b < 4294967296 := Nat.lt_of_le_of_lt (Nat.div_le_self _ _) ha
    have HDV := Lib.hid (show (a : Int) / b % 4294967296 = ((a / b : Nat) : Int) by rw [← Int.natCast_ediv]; generalize a / b = q at *; omega)
    clear hd
    go_enter Try.func31, Try.ntmps31
    go_wp2
    go_ret2
    exact ⟨ret_two HDV.out, rfl⟩
set_option maxRecDepth 100000 in
set_option maxHeartbeats 400000 in
theorem ralu_4 (c a b : Nat) (hc : c < 65536) (ha : a < 4294967296) (hb : b < 4294967296) (hi : c / 16 % 16 = 4) (w : World) :
    Calls Try.prog 31 #[.int .u16 c, .int .u32 a, .int .u32 b] w fun e w' => e = .returned (.tuple #[.int .u32 ((aluL 4 a b).1 : Nat), .bool (aluL 4 a b).2]) ∧ w = w' := by
  have hm : (c : Int) / 16 % 16 = 4 := by omega
  clear hi
  go_enter Try.func31, Try.ntmps31
  go_wp2
  go_ret2
  exact ⟨ret_two (u32_or_nat a b ha hb), rfl⟩
set_option maxRecDepth 100000 in
set_option maxHeartbeats 400000 in
theorem ralu_5 (c a b : Nat) (hc : c < 65536) (ha : a < 4294967296) (hb : b < 4294967296) (hi : c / 16 % 16 = 5) (w : World) :
    Calls Try.prog 31 #[.int .u16 c, .int .u32 a, .int .u32 b] w fun e w' => e = .returned (.tuple #[.int .u32 ((aluL 5 a b).1 : Nat), .bool (aluL 5 a b).2]) ∧ w = w' := by
  have hm : (c : Int) / 16 % 16 = 5 := by omega
  clear hi
  go_enter Try.func31, Try.ntmps31
  go_wp2
  go_ret2
  exact ⟨ret_two (u32_and_nat a b ha hb), rfl⟩
set_option maxRecDepth 100000 in
set_option maxHeartbeats 400000 in
theorem ralu_6 (c a b : Nat) (hc : c < 65536) (ha : a < 4294967296) (hb : b < 4294967296) (hi : c / 16 % 16 = 6) (w : World) :
    Calls Try.prog 31 #[.int .u16 c, .int .u32 a, .int .u32 b] w fun e w' => e = .returned (.tuple #[.int .u32 ((aluL 6 a b).1 : Nat), .bool (aluL 6 a b).2]) ∧ w = w' := by
  have hm : (c : Int) / 16 % 16 = 6 := by omega
  clear hi
  have HP := Lib.hid (fun W => power_any b hb W)
  have HM := Lib.hid (mulp_eq a b)
  generalize (aluL 6 a b).1 = r at *
  generalize powL b = p at *
  go_enter Try.func31, Try.ntmps31
  go_wp2_with (go_at_call 67; refine (HP.out _).mono ?_; rintro e w1 ⟨rfl, rfl⟩)
  go_ret2
  exact ⟨ret_two HM.out, rfl⟩
set_option maxRecDepth 100000 in
set_option maxHeartbeats 400000 in
theorem ralu_7 (c a b : Nat) (hc : c < 65536) (ha : a < 4294967296) (hb : b < 4294967296) (hi : c / 16 % 16 = 7) (w : World) :
    Calls Try.prog 31 #[.int .u16 c, .int .u32 a, .int .u32 b] w fun e w' => e = .returned (.tuple #[.int .u32 ((aluL 7 a b).1 : Nat), .bool (aluL 7 a b).2]) ∧ w = w' := by
  have hm : (c : Int) / 16 % 16 = 7 := by omega
  clear hi
  by_cases h : b < 32
  · have h1 : (b : Int) < 32 := by omega
    have h2 : ¬ (32 : Int) ≤ b := by omega
    have HP := Lib.hid (fun W => power_any b hb W)
    have HM := Lib.hid (divp_eq a b ha h)
    have hp := powL_pos b h
    generalize (aluL 7 a b).1 = r at *
    generalize powL b = p at *
    have e1 : ¬ (p : Int) = 0 := by omega
    have e2 : ¬ p = 0 := by omega
    go_enter Try.func31, Try.ntmps31
    go_wp2_with (go_at_call 67; refine (HP.out _).mono ?_; rintro e w1 ⟨rfl, rfl⟩)
    go_ret2
    exact ⟨ret_two HM.out, rfl⟩
  · have h1 : (32 : Int) ≤ b := by omega
    have e : (aluL 7 a b).1 = 0 := by show (if b < 32 then a / 2 ^ b else 0) = 0; rw [if_neg h]
    rw [e]
    clear e
    go_enter Try.func31, Try.ntmps31
    go_wp2
    go_ret2
    exact ⟨rfl, rfl⟩
set_option maxRecDepth 100000 in
set_option maxHeartbeats 400000 in
theorem ralu_8 (c a b : Nat) (hc : c < 65536) (ha : a < 4294967296) (hb : b < 4294967296) (hi : c / 16 % 16 = 8) (w : World) :
    Calls Try.prog 31 #[.int .u16 c, .int .u32 a, .int .u32 b] w fun e w' => e = .returned (.tuple #[.int .u32 ((aluL 8 a b).1 : Nat), .bool (aluL 8 a b).2]) ∧ w = w' := by
  have hm : (c : Int) / 16 % 16 = 8 := by omega
  clear hi
  go_enter Try.func31, Try.ntmps31
  go_wp2
  go_ret2
  exact ⟨ret_two (by show _ = (((4294967296 - a) % 4294967296 : Nat) : Int); omega), rfl⟩
set_option maxRecDepth 100000 in
set_option maxHeartbeats 400000 in
theorem ralu_9 (c a b : Nat) (hc : c < 65536) (ha : a < 4294967296) (hb : b < 4294967296) (hi : c / 16 % 16 = 9) (w : World) :
    Calls Try.prog 31 #[.int .u16 c, .int .u32 a, .int .u32 b] w fun e w' => e = .returned (.tuple #[.int .u32 ((aluL 9 a b).1 : Nat), .bool (aluL 9 a b).2]) ∧ w = w' := by
  have hm : (c : Int) / 16 % 16 = 9 := by omega
  clear hi
  have e : aluL 9 a b = (0, false) := rfl
  rw [e]
  clear e
  go_enter Try.func31, Try.ntmps31
  go_wp2
  go_ret2
  exact ⟨rfl, rfl⟩
set_option maxRecDepth 100000 in
set_option maxHeartbeats 400000 in
theorem ralu_10 (c a b : Nat) (hc : c < 65536) (ha : a < 4294967296) (hb : b < 4294967296) (hi : c / 16 % 16 = 10) (w : World) :
    Calls Try.prog 31 #[.int .u16 c, .int .u32 a, .int .u32 b] w fun e w' => e = .returned (.tuple #[.int .u32 ((aluL 10 a b).1 : Nat), .bool (aluL 10 a b).2]) ∧ w = w' := by
  have hm : (c : Int) / 16 % 16 = 10 := by omega
  clear hi
  go_enter Try.func31, Try.ntmps31
  go_wp2
  go_ret2
  exact ⟨ret_two (u32_xor_nat a b ha hb), rfl⟩
set_option maxRecDepth 100000 in
set_option maxHeartbeats 400000 in
theorem ralu_11 (c a b : Nat) (hc : c < 65536) (ha : a < 4294967296) (hb : b < 4294967296) (hi : c / 16 % 16 = 11) (w : World) :
    Calls Try.prog 31 #[.int .u16 c, .int .u32 a, .int .u32 b] w fun e w' => e = .returned (.tuple #[.int .u32 ((aluL 11 a b).1 : Nat), .bool (aluL 11 a b).2]) ∧ w = w' := by
  have hm : (c : Int) / 16 % 16 = 11 := by omega
  clear hi
  have e : aluL 11 a b = (0, false) := rfl
  rw [e]
  clear e
  go_enter Try.func31, Try.ntmps31
  go_wp2
  go_ret2
  exact ⟨rfl, rfl⟩
set_option maxRecDepth 100000 in
set_option maxHeartbeats 400000 in
theorem ralu_12 (c a b : Nat) (hc : c < 65536) (ha : a < 4294967296) (hb : b < 4294967296) (hi : c / 16 % 16 = 12) (w : World) :
    Calls Try.prog 31 #[.int .u16 c, .int .u32 a, .int .u32 b] w fun e w' => e = .returned (.tuple #[.int .u32 ((aluL 12 a b).1 : Nat), .bool (aluL 12 a b).2]) ∧ w = w' := by
  have hm : (c : Int) / 16 % 16 = 12 := by omega
  clear hi
  have e : aluL 12 a b = (0, false) := rfl
  rw [e]
  clear e
  go_enter Try.func31, Try.ntmps31
  go_wp2
  go_ret2
  exact ⟨rfl, rfl⟩
set_option maxRecDepth 100000 in
set_option maxHeartbeats 400000 in
theorem ralu_13 (c a b : Nat) (hc : c < 65536) (ha : a < 4294967296) (hb : b < 4294967296) (hi : c / 16 % 16 = 13) (w : World) :
    Calls Try.prog 31 #[.int .u16 c, .int .u32 a, .int .u32 b] w fun e w' => e = .returned (.tuple #[.int .u32 ((aluL 13 a b).1 : Nat), .bool (aluL 13 a b).2]) ∧ w = w' := by
  have hm : (c : Int) / 16 % 16 = 13 := by omega
  clear hi
  have e : aluL 13 a b = (0, false) := rfl
  rw [e]
  clear e
  go_enter Try.func31, Try.ntmps31
  go_wp2
  go_ret2
  exact ⟨rfl, rfl⟩
set_option maxRecDepth 100000 in
set_option maxHeartbeats 400000 in
theorem ralu_14 (c a b : Nat) (hc : c < 65536) (ha : a < 4294967296) (hb : b < 4294967296) (hi : c / 16 % 16 = 14) (w : World) :
    Calls Try.prog 31 #[.int .u16 c, .int .u32 a, .int .u32 b] w fun e w' => e = .returned (.tuple #[.int .u32 ((aluL 14 a b).1 : Nat), .bool (aluL 14 a b).2]) ∧ w = w' := by
  have hm : (c : Int) / 16 % 16 = 14 := by omega
  clear hi
  have e : aluL 14 a b = (0, false) := rfl
  rw [e]
  clear e
  go_enter Try.func31, Try.ntmps31
  go_wp2
  go_ret2
  exact ⟨rfl, rfl⟩
set_option maxRecDepth 100000 in
set_option maxHeartbeats 400000 in
theorem ralu_15 (c a b : Nat) (hc : c < 65536) (ha : a < 4294967296) (hb : b < 4294967296) (hi : c / 16 % 16 = 15) (w : World) :
    Calls Try.prog 31 #[.int .u16 c, .int .u32 a, .int .u32 b] w fun e w' => e = .returned (.tuple #[.int .u32 ((aluL 15 a b).1 : Nat), .bool (aluL 15 a b).2]) ∧ w = w' := by
  have hm : (c : Int) / 16 % 16 = 15 := by omega
  clear hi
  have e : aluL 15 a b = (0, false) := rfl
  rw [e]
  clear e
  go_enter Try.func31, Try.ntmps31
  go_wp2
  go_ret2
  exact ⟨rfl, rfl⟩

theorem ralu_any (c a b : Nat) (hc : c < 65536) (ha : a < 4294967296) (hb : b < 4294967296) (w : World) :
    Calls Try.prog 31 #[.int .u16 c, .int .u32 a, .int .u32 b] w fun e w' => e = .returned (.tuple #[.int .u32 ((aluL (c / 16 % 16) a b).1 : Nat), .bool (aluL (c / 16 % 16) a b).2]) ∧ w = w' := by
  have h : c / 16 % 16 < 16 := Nat.mod_lt _ (by decide)
  obtain ⟨i, hi⟩ : ∃ i, c / 16 % 16 = i := ⟨_, rfl⟩
  rw [hi] at h
  rw [hi]
  match i, h, hi with
  | 0, _, hi => exact ralu_0 c a b hc ha hb hi w
  | 1, _, hi => exact ralu_1 c a b hc ha hb hi w
  | 2, _, hi => exact ralu_2 c a b hc ha hb hi w
  | 3, _, hi => exact ralu_3 c a b hc ha hb hi w
  | 4, _, hi => exact ralu_4 c a b hc ha hb hi w
  | 5, _, hi => exact ralu_5 c a b hc ha hb hi w
  | 6, _, hi => exact ralu_6 c a b hc ha hb hi w
  | 7, _, hi => exact ralu_7 c a b hc ha hb hi w
  | 8, _, hi => exact ralu_8 c a b hc ha hb hi w
  | 9, _, hi => exact ralu_9 c a b hc ha hb hi w
  | 10, _, hi => exact ralu_10 c a b hc ha hb hi w
  | 11, _, hi => exact ralu_11 c a b hc ha hb hi w
  | 12, _, hi => exact ralu_12 c a b hc ha hb hi w
  | 13, _, hi => exact ralu_13 c a b hc ha hb hi w
  | 14, _, hi => exact ralu_14 c a b hc ha hb hi w
  | 15, _, hi => exact ralu_15 c a b hc ha hb hi w
  | n + 16, h, _ => omega

set_option maxHeartbeats 400000 in
theorem rholds_1 (c a b : Nat) (hc : c < 65536) (ha : a < 4294967296) (hb : b < 4294967296) (hi : c / 16 % 16 = 1) (w : World) :
    Calls Try.prog 33 #[.int .u16 c, .int .u32 a, .int .u32 b] w fun e w' => e = .returned (.bool (holdsL 1 a b)) ∧ w = w' := by
  have hm : (c : Int) / 16 % 16 = 1 := by omega
  have hand := u32_and_nat a b ha hb
  clear hi
  go_enter Try.func33, Try.ntmps33
  go_wp2
  all_goals
    go_ret
    refine ⟨?_, rfl⟩
    refine ret_bool ?_
    first
      | exact (holdsL_1 a b)
      | (rw [eq_comm, ← (holdsL_1 a b)]; simp [*] <;> omega)
      | (rw [← (holdsL_1 a b)]; simp [*] <;> omega)
set_option maxHeartbeats 400000 in
theorem rholds_2 (c a b : Nat) (hc : c < 65536) (ha : a < 4294967296) (hb : b < 4294967296) (hi : c / 16 % 16 = 2) (w : World) :
    Calls Try.prog 33 #[.int .u16 c, .int .u32 a, .int .u32 b] w fun e w' => e = .returned (.bool (holdsL 2 a b)) ∧ w = w' := by
  have hm : (c : Int) / 16 % 16 = 2 := by omega
  have hand := u32_and_nat a b ha hb
  clear hi
  go_enter Try.func33, Try.ntmps33
  go_wp2
  all_goals
    go_ret
    refine ⟨?_, rfl⟩
    refine ret_bool ?_
    first
      | exact (holdsL_2 a b)
      | (rw [eq_comm, ← (holdsL_2 a b)]; simp [*] <;> omega)
      | (rw [← (holdsL_2 a b)]; simp [*] <;> omega)
set_option maxHeartbeats 400000 in
theorem rholds_3 (c a b : Nat) (hc : c < 65536) (ha : a < 4294967296) (hb : b < 4294967296) (hi : c / 16 % 16 = 3) (w : World) :
    Calls Try.prog 33 #[.int .u16 c, .int .u32 a, .int .u32 b] w fun e w' => e = .returned (.bool (holdsL 3 a b)) ∧ w = w' := by
  have hm : (c : Int) / 16 % 16 = 3 := by omega
  have hand := u32_and_nat a b ha hb
  clear hi
  go_enter Try.func33, Try.ntmps33
  go_wp2
  all_goals
    go_ret
    refine ⟨?_, rfl⟩
    refine ret_bool ?_
    first
      | exact (holdsL_3 a b)
      | (rw [eq_comm, ← (holdsL_3 a b)]; simp [*] <;> omega)
      | (rw [← (holdsL_3 a b)]; simp [*] <;> omega)
set_option maxHeartbeats 400000 in
theorem rholds_4 (c a b : Nat) (hc : c < 65536) (ha : a < 4294967296) (hb : b < 4294967296) (hi : c / 16 % 16 = 4) (w : World) :
    Calls Try.prog 33 #[.int .u16 c, .int .u32 a, .int .u32 b] w fun e w' => e = .returned (.bool (holdsL 4 a b)) ∧ w = w' := by
  have hm : (c : Int) / 16 % 16 = 4 := by omega
  have hand := u32_and_nat a b ha hb
  clear hi
  go_enter Try.func33, Try.ntmps33
  go_wp2
  all_goals
    go_ret
    refine ⟨?_, rfl⟩
    refine ret_bool ?_
    first
      | exact (rhold4 a b)
      | (rw [eq_comm, ← (rhold4 a b)]; simp [*] <;> omega)
      | (rw [← (rhold4 a b)]; simp [*] <;> omega)
set_option maxHeartbeats 400000 in
theorem rholds_0 (c a b : Nat) (hc : c < 65536) (ha : a < 4294967296) (hb : b < 4294967296) (i : Nat) (hi : c / 16 % 16 = i) (h1 : i ≠ 1) (h2 : i ≠ 2) (h3 : i ≠ 3) (h4 : i ≠ 4) (w : World) :
    Calls Try.prog 33 #[.int .u16 c, .int .u32 a, .int .u32 b] w fun e w' => e = .returned (.bool (holdsL i a b)) ∧ w = w' := by
  have hm : (c : Int) / 16 % 16 = i := by omega
  have e1 : ((i : Int) == 1) = false := by simp; omega
  have e2 : ((i : Int) == 2) = false := by simp; omega
  have e3 : ((i : Int) == 3) = false := by simp; omega
  have e4 : ((i : Int) == 4) = false := by simp; omega
  rw [← holdsL_0 i a b h1 h2 h3 h4]
  clear hi h1 h2 h3 h4
  go_enter Try.func33, Try.ntmps33
  go_wp2
  go_ret
  exact ⟨rfl, rfl⟩

theorem rholds_any (c a b : Nat) (hc : c < 65536) (ha : a < 4294967296) (hb : b < 4294967296) (w : World) :
    Calls Try.prog 33 #[.int .u16 c, .int .u32 a, .int .u32 b] w fun e w' => e = .returned (.bool (holdsL (c / 16 % 16) a b)) ∧ w = w' := by
  obtain ⟨i, hi⟩ : ∃ i, c / 16 % 16 = i := ⟨_, rfl⟩
  rw [hi]
  by_cases h1 : i = 1
  · subst h1; exact rholds_1 c a b hc ha hb hi w
  by_cases h2 : i = 2
  · subst h2; exact rholds_2 c a b hc ha hb hi w
  by_cases h3 : i = 3
  · subst h3; exact rholds_3 c a b hc ha hb hi w
  by_cases h4 : i = 4
  · subst h4; exact rholds_4 c a b hc ha hb hi w
  exact rholds_0 c a b hc ha hb i hi h1 h2 h3 h4 w
end Go.Proofs.Ytfjbanfibmpalaa

/- Contracts: the machine's loads and steps. -/
set_option linter.unusedVariables false
set_option linter.unusedSimpArgs false
namespace Go.Proofs.Ytfjbanfibmpalaa
open Go.RowKit Go.Shelf

/-- A machine's cells. -/
def vmA (pc : Int) (r : Rg) : Array Value := (Value.int .i64 pc :: Value.int .u32 r.a :: Value.int .u32 r.x :: r.mem.map fun (m : Nat) => Value.int .u32 (m : Int)).toArray
structure Rg.Ok (r : Rg) : Prop where
  a : r.a < 4294967296
  x : r.x < 4294967296
  len : r.mem.length = 16
  mem : ∀ m ∈ r.mem, m < 4294967296

theorem vmA_size (pc : Int) (r : Rg) (h : r.Ok) : (vmA pc r).size = 19 := by simp [vmA, h.len]
theorem vmA_0 (pc : Int) (r : Rg) : (vmA pc r)[0]? = some (.int .i64 pc) := by simp [vmA]
theorem vmA_1 (pc : Int) (r : Rg) : (vmA pc r)[1]? = some (.int .u32 r.a) := by simp [vmA]
theorem vmA_2 (pc : Int) (r : Rg) : (vmA pc r)[2]? = some (.int .u32 r.x) := by simp [vmA]
theorem vmA_m (pc : Int) (r : Rg) (h : r.Ok) (k : Nat) (hk : k < 16) : (vmA pc r)[3 + k]? = some (.int .u32 ((r.mem.getD k 0 : Nat) : Int)) := by
  have : k < r.mem.length := by rw [h.len]; exact hk
  rw [show 3 + k = k + 1 + 1 + 1 by omega]
  simp [vmA, this]
theorem vmA_one (pc : Int) (r : Rg) : (vmA pc r).all (·.oneCell') = true := by
  rw [vmA, List.all_toArray]
  simp only [List.all_cons, List.all_map]
  simp [Value.oneCell', Function.comp_def]
theorem vmA_pc (pc q : Int) (r : Rg) : (vmA pc r).setIfInBounds 0 (.int .i64 q) = vmA q r := by simp [vmA]
theorem vmA_a (pc : Int) (r : Rg) (v : Nat) : (vmA pc r).setIfInBounds 1 (.int .u32 v) = vmA pc { r with a := v } := by simp [vmA]
theorem vmA_x (pc : Int) (r : Rg) (v : Nat) : (vmA pc r).setIfInBounds 2 (.int .u32 v) = vmA pc { r with x := v } := by simp [vmA]
theorem vmA_mem (pc : Int) (r : Rg) (k v : Nat) : (vmA pc r).setIfInBounds (3 + k) (.int .u32 v) = vmA pc { r with mem := r.mem.set k v } := by
  rw [show 3 + k = k + 1 + 1 + 1 by omega]
  simp [vmA, List.map_set]

/-- What is loaded at an offset. -/
def datL (d : Dt) (k : Nat) : Nat := if placeOk k then wordD d k else 0
theorem datL_lt {d : Dt} (h : d.Ok) (k : Nat) : datL d k < 4294967296 := by
  unfold datL; split
  · exact wordD_lt h k
  · decide
theorem word_any (d : Dt) (hd : d.Ok) (k : Nat) (w : World) :
    Calls Try.prog 43 #[(Value.agg #[.int .u32 d.nr, .int .u32 d.arch, .int .u64 d.ip, .int .u64 d.a0, .int .u64 d.a1, .int .u64 d.a2, .int .u64 d.a3, .int .u64 d.a4, .int .u64 d.a5]), .int .u32 k] w fun e w' => (∃ q, e = .returned (.tuple #[.int .u32 ((datL d k : Nat) : Int), .int .i64 q])) ∧ Below w.heap.size w w' := by
  by_cases hk : placeOk k = true
  · refine (word_good d hd k w hk).mono ?_
    rintro e w' ⟨rfl, hb⟩
    exact ⟨⟨0, by rw [datL, if_pos hk]⟩, hb⟩
  · refine (word_bad d k w (by simpa using hk)).mono ?_
    rintro e w' ⟨rfl, hb⟩
    exact ⟨⟨2, by rw [datL, if_neg hk]; rfl⟩, hb⟩

set_option maxRecDepth 100000 in
set_option maxHeartbeats 400000 in
theorem loaded_any (y : Insn) (hy : y.Ok) (d : Dt) (hd : d.Ok) (pc : Int) (r : Rg) (hr : r.Ok) (hk : y.code / 32 % 8 = 3 → y.k < 16) (w : World) :
    Calls Try.prog 117 #[(Value.agg #[.int .u16 y.code, .int .u8 y.jt, .int .u8 y.jf, .int .u32 y.k]), (Value.agg #[.int .u32 d.nr, .int .u32 d.arch, .int .u64 d.ip, .int .u64 d.a0, .int .u64 d.a1, .int .u64 d.a2, .int .u64 d.a3, .int .u64 d.a4, .int .u64 d.a5]), .agg (vmA pc r)] w fun e w' => e = .returned (.int .u32 ((loadL y (datL d) r : Nat) : Int)) ∧ Below w.heap.size w w' := by
  have hm := u16_224 y.code hy.code
  have hi : y.code / 32 % 8 < 8 := Nat.mod_lt _ (by decide)
  have HW := Lib.hid (fun k W => word_any d hd k W)
  have HR := Lib.hid hr
  have HD := Lib.hid (fun k => datL_lt hd k)
  unfold loadL
  generalize y.code / 32 % 8 = i at *
  generalize datL d = dd at *
  by_cases h0 : i = 0
  · subst h0
    have hm0 : bits .and .u16 (y.code : Int) 224 = 0 := by rw [hm]; rfl
    clear hm hi hk
    go_enter Try.func117, Try.ntmps117
    go_wp2
    go_ret
    exact ⟨rfl, by (repeat (first | with_reducible exact Below.refl _ _ | with_reducible assumption | ((with_reducible refine Below.setCell ?_ ?hp _); case hp => (first | omega | (simp only [World.size_alloc, World.size_setCell, World.size_drew]; omega) | (simp; done) | (simp; omega))) | ((with_reducible refine Below.alloc ?_ ?hp _); case hp => (first | omega | (simp only [World.size_alloc, World.size_setCell, World.size_drew]; omega) | (simp; done) | (simp; omega))) | with_reducible refine Below.drew ?_ | with_reducible refine below_drewN ?_ _))⟩
  by_cases h1 : i = 1
  · subst h1
    have hm0 : bits .and .u16 (y.code : Int) 224 = 32 := by rw [hm]; rfl
    clear hm hi hk
    go_enter Try.func117, Try.ntmps117
    go_wp2_with (go_at_call 43; refine (HW.out _ _).mono ?_; rintro e w1 ⟨⟨q, rfl⟩, hb1⟩)
    go_ret
    exact ⟨rfl, Below.trans (by (repeat (first | with_reducible exact Below.refl _ _ | with_reducible assumption | ((with_reducible refine Below.setCell ?_ ?hp _); case hp => (first | omega | (simp only [World.size_alloc, World.size_setCell, World.size_drew]; omega) | (simp; done) | (simp; omega))) | ((with_reducible refine Below.alloc ?_ ?hp _); case hp => (first | omega | (simp only [World.size_alloc, World.size_setCell, World.size_drew]; omega) | (simp; done) | (simp; omega))) | with_reducible refine Below.drew ?_ | with_reducible refine below_drewN ?_ _))) (hb1.mono (by simp; omega))⟩
  by_cases h3 : i = 3
  · subst h3
    have hm0 : bits .and .u16 (y.code : Int) 224 = 96 := by rw [hm]; rfl
    have hk' := hk rfl
    have hv := vmA_m pc r hr y.k hk'
    have i1 : ((y.k : Nat) : Int) < 16 := by omega
    have i2 : (0 : Int) ≤ ((y.k : Nat) : Int) := by omega
    clear hm hi hk
    rw [if_neg (by omega), if_neg (by omega), if_pos rfl]
    generalize r.mem.getD y.k 0 = z at *
    generalize vmA pc r = va at *
    go_enter Try.func117, Try.ntmps117
    go_wp2
    go_ret
    exact ⟨rfl, by (repeat (first | with_reducible exact Below.refl _ _ | with_reducible assumption | ((with_reducible refine Below.setCell ?_ ?hp _); case hp => (first | omega | (simp only [World.size_alloc, World.size_setCell, World.size_drew]; omega) | (simp; done) | (simp; omega))) | ((with_reducible refine Below.alloc ?_ ?hp _); case hp => (first | omega | (simp only [World.size_alloc, World.size_setCell, World.size_drew]; omega) | (simp; done) | (simp; omega))) | with_reducible refine Below.drew ?_ | with_reducible refine below_drewN ?_ _))⟩
  · have hm0 : ((bits .and .u16 (y.code : Int) 224 == 0) = false) ∧ ((bits .and .u16 (y.code : Int) 224 == 32) = false) ∧ ((bits .and .u16 (y.code : Int) 224 == 96) = false) := by
      rw [hm]; simp; omega
    obtain ⟨m0, m1, m2⟩ := hm0
    rw [if_neg h0, if_neg h1, if_neg h3]
    clear hm hi hk
    go_enter Try.func117, Try.ntmps117
    go_wp2
    go_ret
    exact ⟨rfl, by (repeat (first | with_reducible exact Below.refl _ _ | with_reducible assumption | ((with_reducible refine Below.setCell ?_ ?hp _); case hp => (first | omega | (simp only [World.size_alloc, World.size_setCell, World.size_drew]; omega) | (simp; done) | (simp; omega))) | ((with_reducible refine Below.alloc ?_ ?hp _); case hp => (first | omega | (simp only [World.size_alloc, World.size_setCell, World.size_drew]; omega) | (simp; done) | (simp; omega))) | with_reducible refine Below.drew ?_ | with_reducible refine below_drewN ?_ _))⟩

theorem results_cell3 {P : Program} {fn : Func} {p t u : Tmp} {ty : TypeId} (h : fn.results = #[.cell p ty, .tmp t, .tmp u]) (tmps : Array Value) (w : World) (g : Nat) (tt : TypeId) (cs : Array Value) (fr : Nat × Nat) (d : TypeDesc)
    (hp : tmps.getD p undef = .pointer (some ⟨g, 0, none⟩)) (hg : w.heap[g]? = some (.cells cs tt fr))
    (hu : P.underlying ty = some d) (hd : (match d with | .struct _ | .array _ _ => true | _ => false) = true) (hi : (P.info? ty).map (·.size) = some cs.size) :
    (results fn tmps).run P w = .ok (.tuple #[.agg cs, tmps.getD t undef, tmps.getD u undef]) w := by
  have hp' : tmps[p]?.getD undef = .pointer (some ⟨g, 0, none⟩) := by simpa using hp
  simp [results, h, hp', asAddr, run_loadVar_row w g tt ty cs fr d hg hu hd hi]

theorem info_vm (pc : Int) (r : Rg) (h : r.Ok) : (Try.prog.info? 50).map (·.size) = some (vmA pc r).size := by rw [vmA_size pc r h]; kernel_rfl

/-- A machine of noughts. -/
theorem vmA_zero : vmA 0 rg0 = #[.int .i64 0, .int .u32 0, .int .u32 0, .int .u32 0, .int .u32 0, .int .u32 0, .int .u32 0, .int .u32 0, .int .u32 0, .int .u32 0, .int .u32 0, .int .u32 0, .int .u32 0, .int .u32 0, .int .u32 0, .int .u32 0, .int .u32 0, .int .u32 0, .int .u32 0] := rfl
theorem rg0_ok : rg0.Ok := ⟨by decide, by decide, rfl, by intro m hm; have := List.eq_of_mem_replicate hm; omega⟩

/-- What a step comes to. -/
def stepV (y : Insn) (dd : Nat → Nat) (pc : Int) (r : Rg) : Value :=
  match endsL y r with
  | some v => .tuple #[.agg (vmA pc r), .int .u32 (v : Nat), .bool true]
  | none => .tuple #[.agg (vmA (pc + 1 + offL y r) (effL y dd r)), .int .u32 0, .bool false]
end Go.Proofs.Ytfjbanfibmpalaa

/- Words: structs and arrays that lie in cells held against each other (==, !=). -/
set_option linter.unusedVariables false
set_option linter.unusedSimpArgs false
namespace Go.Proofs.Ytfjbanfibmpalaa
open Go.RowKit Go.Shelf

section
variable {P : Program}
theorem part_cell {t : TypeId} {xs : Array Value} {off : Nat} {v : Value} (ha : ∀ w, (isAgg t).run P w = .ok false w) (h : xs[off]? = some v) (w : World) : (part t xs off).run P w = .ok v w := by
  simp [part, ha, h]
theorem part_agg {t : TypeId} {xs : Array Value} {off n : Nat} (ha : ∀ w, (isAgg t).run P w = .ok true w) (hs : ∀ w, (sizeOf t).run P w = .ok n w) (w : World) : (part t xs off).run P w = .ok (.agg (xs.extract off (off + n))) w := by
  simp [part, ha, hs]

theorem all_range' (f : Nat → Bool) : ∀ (n a : Nat), ((List.range' a (n + 1)).all f) = (f a && (List.range' (a + 1) n).all f) := fun n a => by
  rw [List.range'_succ, List.all_cons]

/-- An array, element by element. -/
theorem run_equalIn_array {d : Nat} {t e : TypeId} {n s : Nat} {xs ys : Array Value} (ht : P.underlying t = some (.array n e)) (hs : ∀ w, (sizeOf e).run P w = .ok s w) (a b : Nat → Value) (f : Nat → Bool)
    (hx : ∀ i, i < n → ∀ w, (part e xs (i * s)).run P w = .ok (a i) w) (hy : ∀ i, i < n → ∀ w, (part e ys (i * s)).run P w = .ok (b i) w) (hf : ∀ i, i < n → ∀ w, (Op.equalIn d e (a i) (b i)).run P w = .ok (f i) w) (w : World) :
    (Op.equalIn (d + 1) t (.agg xs) (.agg ys)).run P w = .ok ((List.range n).all f) w := by
  simp only [Op.equalIn, Sem.run_bind, run_underlying ht, Result.andThen_ok, hs]
  rw [Std.Legacy.Range.forIn_eq_forIn_range']
  simp only [Std.Legacy.Range.size, Nat.sub_zero, Nat.add_sub_cancel, Nat.div_one]
  rw [List.range_eq_range']
  have go : ∀ (m k : Nat), k + m = n → ∀ (w : World), Sem.run P (forIn (List.range' k m) ((none, ()) : Option Bool × Unit) fun i __s => do
      let __do_lift ← part e xs (i * s)
      let __do_lift_1 ← part e ys (i * s)
      let __do_lift ← Op.equalIn d e __do_lift __do_lift_1
      if (!__do_lift) = true then pure (ForInStep.done (some false, ())) else pure (ForInStep.yield (none, ()))) w = .ok (if (List.range' k m).all f then none else some false, ()) w := by
    intro m
    induction m with
    | zero => intro k _ w; simp
    | succ m ih =>
      intro k hk w
      rw [List.range'_succ, List.forIn_cons, List.all_cons]
      simp only [Sem.run_bind, hx k (by omega) w, hy k (by omega) w, hf k (by omega) w, Result.andThen_ok]
      cases hfk : f k
      · simp
      · simp only [Bool.not_true, Bool.false_eq_true, if_false, Sem.run_pure, Result.andThen_ok, Bool.true_and]
        exact ih (k + 1) (by omega) w
  rw [go n 0 (by omega)]
  simp only [Result.andThen_ok]
  cases hall : (List.range' 0 n).all f <;> simp
end

theorem agg_u32 (w : World) : (isAgg 33).run Try.prog w = .ok false w := by kernel_rfl
theorem agg_int (w : World) : (isAgg 3).run Try.prog w = .ok false w := by kernel_rfl
theorem agg_m16 (w : World) : (isAgg 48).run Try.prog w = .ok true w := by kernel_rfl
theorem size_u32 (w : World) : (sizeOf 33).run Try.prog w = .ok 1 w := by kernel_rfl
theorem size_m16 (w : World) : (sizeOf 48).run Try.prog w = .ok 16 w := by kernel_rfl

theorem vmA_mem16 (pc : Int) (r : Rg) (h : r.Ok) (i : Nat) (hi : i < 16) : ((vmA pc r).extract 3 (3 + 16))[i]? = some (.int .u32 ((r.mem.getD i 0 : Nat) : Int)) := by
  rw [Array.getElem?_extract, vmA_size pc r h]
  rw [if_pos (by omega)]
  exact vmA_m pc r h i hi

set_option maxRecDepth 100000 in
theorem eqIn_vm (pc : Int) (r : Rg) (h : r.Ok) (w : World) : (Op.equalIn 10000 50 (.agg (vmA pc r)) (.agg (vmA pc r))).run Try.prog w = .ok true w := by
  have k0 := vmA_0 pc r
  have k1 := vmA_1 pc r
  have k2 := vmA_2 pc r
  rw [show (10000 : Nat) = 9999 + 1 from rfl, run_equalIn_struct w 9999 50 _ _ (by kernel_rfl) (by kernel_rfl)]
  have hm : ∀ w, (Op.equalIn 9999 48 (.agg ((vmA pc r).extract 3 (3 + 16))) (.agg ((vmA pc r).extract 3 (3 + 16)))).run Try.prog w = .ok true w := fun w => by
    rw [show (9999 : Nat) = 9998 + 1 from rfl, run_equalIn_array (f := fun _ => true) Try.underlying48 size_u32 (fun i => .int .u32 ((r.mem.getD i 0 : Nat) : Int)) (fun i => .int .u32 ((r.mem.getD i 0 : Nat) : Int))
      (fun i hi w => part_cell agg_u32 (by rw [Nat.mul_one]; exact vmA_mem16 pc r h i hi) w) (fun i hi w => part_cell agg_u32 (by rw [Nat.mul_one]; exact vmA_mem16 pc r h i hi) w)
      (fun i hi w => by rw [show (9998 : Nat) = 9997 + 1 from rfl, run_equalIn_int _ _ _ _ _ _ _ Try.underlying33]; simp) w]
    rfl
  have hp : ∀ w, (part 48 (vmA pc r) 3).run Try.prog w = .ok (.agg ((vmA pc r).extract 3 (3 + 16))) w := part_agg agg_m16 size_m16
  have q0 : ∀ w, (part 3 (vmA pc r) 0).run Try.prog w = .ok (.int .i64 pc) w := part_cell agg_int k0
  have q1 : ∀ w, (part 33 (vmA pc r) 1).run Try.prog w = .ok (.int .u32 r.a) w := part_cell agg_u32 k1
  have q2 : ∀ w, (part 33 (vmA pc r) 2).run Try.prog w = .ok (.int .u32 r.x) w := part_cell agg_u32 k2
  have e0 : ∀ w, (Op.equalIn 9999 3 (.int .i64 pc) (.int .i64 pc)).run Try.prog w = .ok true w := fun w => by
    rw [show (9999 : Nat) = 9998 + 1 from rfl, run_equalIn_int _ _ _ _ _ _ _ Try.underlying3]; simp
  have e1 : ∀ (z : Int) w, (Op.equalIn 9999 33 (.int .u32 z) (.int .u32 z)).run Try.prog w = .ok true w := fun z w => by
    rw [show (9999 : Nat) = 9998 + 1 from rfl, run_equalIn_int _ _ _ _ _ _ _ Try.underlying33]; simp
  simp [Program.fieldsOf, Try.underlying50, Op.eqFields, q0, q1, q2, hp, hm, e0, e1]
theorem eql_vm (pc : Int) (r : Rg) (h : r.Ok) (w : World) : (binOp .eql 50 (.agg (vmA pc r)) (.agg (vmA pc r))).run Try.prog w = .ok (.bool true) w := by
  rw [run_eql_struct, eqIn_vm pc r h]; rfl
theorem neq_vm (pc : Int) (r : Rg) (h : r.Ok) (w : World) : (binOp .neq 50 (.agg (vmA pc r)) (.agg (vmA pc r))).run Try.prog w = .ok (.bool false) w := by
  rw [run_neq_struct, eqIn_vm pc r h]; rfl
end Go.Proofs.Ytfjbanfibmpalaa

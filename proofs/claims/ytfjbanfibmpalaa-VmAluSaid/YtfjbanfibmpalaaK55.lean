/- Contracts: Alu and Holds. -/
import Derived.Test.YtfjbanfibmpalaaK54
set_option linter.unusedVariables false
set_option linter.unusedSimpArgs false
namespace Go.Proofs.Ytfjbanfibmpalaa
open Go.RowKit Go.Shelf

set_option maxRecDepth 100000 in
set_option maxHeartbeats 400000 in
theorem alu_0 (c a b : Nat) (hc : c < 65536) (ha : a < 4294967296) (hb : b < 4294967296) (hi : c / 16 % 16 = 0) (w : World) :
    Calls Try.prog 30 #[.int .u16 c, .int .u32 a, .int .u32 b] w fun e w' => e = .returned (.tuple #[.int .u32 ((aluL 0 a b).1 : Nat), .bool (aluL 0 a b).2]) ∧ Below w.heap.size w w' := by
  have hm : bits .and .u16 (c : Int) 240 = 0 := by rw [u16_240 c hc, hi]; rfl
  clear hi hc
  have HO := Lib.hid (fun W => op0_any a b ha hb W)
  have hix : ∀ w, (Instr.index 99 opsV (.int .i64 0)).run Try.prog w = .ok (.func (.func 107) #[] #[]) w := fun _ => by kernel_rfl
  have hnil : ∀ W, (binOp .eql 98 (.func (.func 107) #[] #[]) .nilFunc).run Try.prog W = .ok (.bool false) W := fun _ => by kernel_rfl
  generalize aluL 0 a b = r at *
  clear ha hb
  have HOP := Lib.hid (fun W => operations_any W)
  generalize opsV = ov at *
  have tok : True := trivial
  have tok2 : True := trivial
  go_enter Try.func30, Try.ntmps30
  go_wp2_with (first
    | (go_at_call 66; have _t := tok; refine (HOP.out w).mono ?_; rintro e w1 ⟨rfl, hb1⟩; have HB1 := Lib.hid hb1; clear hb1; clear tok)
    | (go_at_call 66; have _t := tok2; refine (HOP.out w1).mono ?_; rintro e w2 ⟨rfl, hb2⟩; have HB2 := Lib.hid (HB1.out.trans (hb2.mono HB1.out.size)); clear hb2; clear tok2)
    | (go_at_call 66; refine (HOP.out w2).mono ?_; rintro e w3 ⟨rfl, hb3⟩; have HB3 := Lib.hid (HB2.out.trans (hb3.mono HB2.out.size)); clear hb3)
    | (go_at_call 107; refine (HO.out w3).mono ?_; rintro e w4 ⟨rfl, rfl⟩))
  go_ret2
  exact ⟨rfl, HB3.out⟩

set_option maxRecDepth 100000 in
set_option maxHeartbeats 400000 in
theorem alu_1 (c a b : Nat) (hc : c < 65536) (ha : a < 4294967296) (hb : b < 4294967296) (hi : c / 16 % 16 = 1) (w : World) :
    Calls Try.prog 30 #[.int .u16 c, .int .u32 a, .int .u32 b] w fun e w' => e = .returned (.tuple #[.int .u32 ((aluL 1 a b).1 : Nat), .bool (aluL 1 a b).2]) ∧ Below w.heap.size w w' := by
  have hm : bits .and .u16 (c : Int) 240 = 16 := by rw [u16_240 c hc, hi]; rfl
  clear hi hc
  have HO := Lib.hid (fun W => op1_any a b ha hb W)
  have hix : ∀ w, (Instr.index 99 opsV (.int .i64 1)).run Try.prog w = .ok (.func (.func 108) #[] #[]) w := fun _ => by kernel_rfl
  have hnil : ∀ W, (binOp .eql 98 (.func (.func 108) #[] #[]) .nilFunc).run Try.prog W = .ok (.bool false) W := fun _ => by kernel_rfl
  generalize aluL 1 a b = r at *
  clear ha hb
  have HOP := Lib.hid (fun W => operations_any W)
  generalize opsV = ov at *
  have tok : True := trivial
  have tok2 : True := trivial
  go_enter Try.func30, Try.ntmps30
  go_wp2_with (first
    | (go_at_call 66; have _t := tok; refine (HOP.out w).mono ?_; rintro e w1 ⟨rfl, hb1⟩; have HB1 := Lib.hid hb1; clear hb1; clear tok)
    | (go_at_call 66; have _t := tok2; refine (HOP.out w1).mono ?_; rintro e w2 ⟨rfl, hb2⟩; have HB2 := Lib.hid (HB1.out.trans (hb2.mono HB1.out.size)); clear hb2; clear tok2)
    | (go_at_call 66; refine (HOP.out w2).mono ?_; rintro e w3 ⟨rfl, hb3⟩; have HB3 := Lib.hid (HB2.out.trans (hb3.mono HB2.out.size)); clear hb3)
    | (go_at_call 108; refine (HO.out w3).mono ?_; rintro e w4 ⟨rfl, rfl⟩))
  go_ret2
  exact ⟨rfl, HB3.out⟩

set_option maxRecDepth 100000 in
set_option maxHeartbeats 400000 in
theorem alu_2 (c a b : Nat) (hc : c < 65536) (ha : a < 4294967296) (hb : b < 4294967296) (hi : c / 16 % 16 = 2) (w : World) :
    Calls Try.prog 30 #[.int .u16 c, .int .u32 a, .int .u32 b] w fun e w' => e = .returned (.tuple #[.int .u32 ((aluL 2 a b).1 : Nat), .bool (aluL 2 a b).2]) ∧ Below w.heap.size w w' := by
  have hm : bits .and .u16 (c : Int) 240 = 32 := by rw [u16_240 c hc, hi]; rfl
  clear hi hc
  have HO := Lib.hid (fun W => op2_any a b ha hb W)
  have hix : ∀ w, (Instr.index 99 opsV (.int .i64 2)).run Try.prog w = .ok (.func (.func 109) #[] #[]) w := fun _ => by kernel_rfl
  have hnil : ∀ W, (binOp .eql 98 (.func (.func 109) #[] #[]) .nilFunc).run Try.prog W = .ok (.bool false) W := fun _ => by kernel_rfl
  generalize aluL 2 a b = r at *
  clear ha hb
  have HOP := Lib.hid (fun W => operations_any W)
  generalize opsV = ov at *
  have tok : True := trivial
  have tok2 : True := trivial
  go_enter Try.func30, Try.ntmps30
  go_wp2_with (first
    | (go_at_call 66; have _t := tok; refine (HOP.out w).mono ?_; rintro e w1 ⟨rfl, hb1⟩; have HB1 := Lib.hid hb1; clear hb1; clear tok)
    | (go_at_call 66; have _t := tok2; refine (HOP.out w1).mono ?_; rintro e w2 ⟨rfl, hb2⟩; have HB2 := Lib.hid (HB1.out.trans (hb2.mono HB1.out.size)); clear hb2; clear tok2)
    | (go_at_call 66; refine (HOP.out w2).mono ?_; rintro e w3 ⟨rfl, hb3⟩; have HB3 := Lib.hid (HB2.out.trans (hb3.mono HB2.out.size)); clear hb3)
    | (go_at_call 109; refine (HO.out w3).mono ?_; rintro e w4 ⟨rfl, rfl⟩))
  go_ret2
  exact ⟨rfl, HB3.out⟩

set_option maxRecDepth 100000 in
set_option maxHeartbeats 400000 in
theorem alu_3 (c a b : Nat) (hc : c < 65536) (ha : a < 4294967296) (hb : b < 4294967296) (hi : c / 16 % 16 = 3) (w : World) :
    Calls Try.prog 30 #[.int .u16 c, .int .u32 a, .int .u32 b] w fun e w' => e = .returned (.tuple #[.int .u32 ((aluL 3 a b).1 : Nat), .bool (aluL 3 a b).2]) ∧ Below w.heap.size w w' := by
  have hm : bits .and .u16 (c : Int) 240 = 48 := by rw [u16_240 c hc, hi]; rfl
  clear hi hc
  have HO := Lib.hid (fun W => op3_any a b ha hb W)
  have hix : ∀ w, (Instr.index 99 opsV (.int .i64 3)).run Try.prog w = .ok (.func (.func 110) #[] #[]) w := fun _ => by kernel_rfl
  have hnil : ∀ W, (binOp .eql 98 (.func (.func 110) #[] #[]) .nilFunc).run Try.prog W = .ok (.bool false) W := fun _ => by kernel_rfl
  generalize aluL 3 a b = r at *
  clear ha hb
  have HOP := Lib.hid (fun W => operations_any W)
  generalize opsV = ov at *
  have tok : True := trivial
  have tok2 : True := trivial
  go_enter Try.func30, Try.ntmps30
  go_wp2_with (first
    | (go_at_call 66; have _t := tok; refine (HOP.out w).mono ?_; rintro e w1 ⟨rfl, hb1⟩; have HB1 := Lib.hid hb1; clear hb1; clear tok)
    | (go_at_call 66; have _t := tok2; refine (HOP.out w1).mono ?_; rintro e w2 ⟨rfl, hb2⟩; have HB2 := Lib.hid (HB1.out.trans (hb2.mono HB1.out.size)); clear hb2; clear tok2)
    | (go_at_call 66; refine (HOP.out w2).mono ?_; rintro e w3 ⟨rfl, hb3⟩; have HB3 := Lib.hid (HB2.out.trans (hb3.mono HB2.out.size)); clear hb3)
    | (go_at_call 110; refine (HO.out w3).mono ?_; rintro e w4 ⟨rfl, rfl⟩))
  go_ret2
  exact ⟨rfl, HB3.out⟩

set_option maxRecDepth 100000 in
set_option maxHeartbeats 400000 in
theorem alu_4 (c a b : Nat) (hc : c < 65536) (ha : a < 4294967296) (hb : b < 4294967296) (hi : c / 16 % 16 = 4) (w : World) :
    Calls Try.prog 30 #[.int .u16 c, .int .u32 a, .int .u32 b] w fun e w' => e = .returned (.tuple #[.int .u32 ((aluL 4 a b).1 : Nat), .bool (aluL 4 a b).2]) ∧ Below w.heap.size w w' := by
  have hm : bits .and .u16 (c : Int) 240 = 64 := by rw [u16_240 c hc, hi]; rfl
  clear hi hc
  have HO := Lib.hid (fun W => op4_any a b ha hb W)
  have hix : ∀ w, (Instr.index 99 opsV (.int .i64 4)).run Try.prog w = .ok (.func (.func 111) #[] #[]) w := fun _ => by kernel_rfl
  have hnil : ∀ W, (binOp .eql 98 (.func (.func 111) #[] #[]) .nilFunc).run Try.prog W = .ok (.bool false) W := fun _ => by kernel_rfl
  generalize aluL 4 a b = r at *
  clear ha hb
  have HOP := Lib.hid (fun W => operations_any W)
  generalize opsV = ov at *
  have tok : True := trivial
  have tok2 : True := trivial
  go_enter Try.func30, Try.ntmps30
  go_wp2_with (first
    | (go_at_call 66; have _t := tok; refine (HOP.out w).mono ?_; rintro e w1 ⟨rfl, hb1⟩; have HB1 := Lib.hid hb1; clear hb1; clear tok)
    | (go_at_call 66; have _t := tok2; refine (HOP.out w1).mono ?_; rintro e w2 ⟨rfl, hb2⟩; have HB2 := Lib.hid (HB1.out.trans (hb2.mono HB1.out.size)); clear hb2; clear tok2)
    | (go_at_call 66; refine (HOP.out w2).mono ?_; rintro e w3 ⟨rfl, hb3⟩; have HB3 := Lib.hid (HB2.out.trans (hb3.mono HB2.out.size)); clear hb3)
    | (go_at_call 111; refine (HO.out w3).mono ?_; rintro e w4 ⟨rfl, rfl⟩))
  go_ret2
  exact ⟨rfl, HB3.out⟩

set_option maxRecDepth 100000 in
set_option maxHeartbeats 400000 in
theorem alu_5 (c a b : Nat) (hc : c < 65536) (ha : a < 4294967296) (hb : b < 4294967296) (hi : c / 16 % 16 = 5) (w : World) :
    Calls Try.prog 30 #[.int .u16 c, .int .u32 a, .int .u32 b] w fun e w' => e = .returned (.tuple #[.int .u32 ((aluL 5 a b).1 : Nat), .bool (aluL 5 a b).2]) ∧ Below w.heap.size w w' := by
  have hm : bits .and .u16 (c : Int) 240 = 80 := by rw [u16_240 c hc, hi]; rfl
  clear hi hc
  have HO := Lib.hid (fun W => op5_any a b ha hb W)
  have hix : ∀ w, (Instr.index 99 opsV (.int .i64 5)).run Try.prog w = .ok (.func (.func 112) #[] #[]) w := fun _ => by kernel_rfl
  have hnil : ∀ W, (binOp .eql 98 (.func (.func 112) #[] #[]) .nilFunc).run Try.prog W = .ok (.bool false) W := fun _ => by kernel_rfl
  generalize aluL 5 a b = r at *
  clear ha hb
  have HOP := Lib.hid (fun W => operations_any W)
  generalize opsV = ov at *
  have tok : True := trivial
  have tok2 : True := trivial
  go_enter Try.func30, Try.ntmps30
  go_wp2_with (first
    | (go_at_call 66; have _t := tok; refine (HOP.out w).mono ?_; rintro e w1 ⟨rfl, hb1⟩; have HB1 := Lib.hid hb1; clear hb1; clear tok)
    | (go_at_call 66; have _t := tok2; refine (HOP.out w1).mono ?_; rintro e w2 ⟨rfl, hb2⟩; have HB2 := Lib.hid (HB1.out.trans (hb2.mono HB1.out.size)); clear hb2; clear tok2)
    | (go_at_call 66; refine (HOP.out w2).mono ?_; rintro e w3 ⟨rfl, hb3⟩; have HB3 := Lib.hid (HB2.out.trans (hb3.mono HB2.out.size)); clear hb3)
    | (go_at_call 112; refine (HO.out w3).mono ?_; rintro e w4 ⟨rfl, rfl⟩))
  go_ret2
  exact ⟨rfl, HB3.out⟩

set_option maxRecDepth 100000 in
set_option maxHeartbeats 400000 in
theorem alu_6 (c a b : Nat) (hc : c < 65536) (ha : a < 4294967296) (hb : b < 4294967296) (hi : c / 16 % 16 = 6) (w : World) :
    Calls Try.prog 30 #[.int .u16 c, .int .u32 a, .int .u32 b] w fun e w' => e = .returned (.tuple #[.int .u32 ((aluL 6 a b).1 : Nat), .bool (aluL 6 a b).2]) ∧ Below w.heap.size w w' := by
  have hm : bits .and .u16 (c : Int) 240 = 96 := by rw [u16_240 c hc, hi]; rfl
  clear hi hc
  have HO := Lib.hid (fun W => op6_any a b ha hb W)
  have hix : ∀ w, (Instr.index 99 opsV (.int .i64 6)).run Try.prog w = .ok (.func (.func 113) #[] #[]) w := fun _ => by kernel_rfl
  have hnil : ∀ W, (binOp .eql 98 (.func (.func 113) #[] #[]) .nilFunc).run Try.prog W = .ok (.bool false) W := fun _ => by kernel_rfl
  generalize aluL 6 a b = r at *
  clear ha hb
  have HOP := Lib.hid (fun W => operations_any W)
  generalize opsV = ov at *
  have tok : True := trivial
  have tok2 : True := trivial
  go_enter Try.func30, Try.ntmps30
  go_wp2_with (first
    | (go_at_call 66; have _t := tok; refine (HOP.out w).mono ?_; rintro e w1 ⟨rfl, hb1⟩; have HB1 := Lib.hid hb1; clear hb1; clear tok)
    | (go_at_call 66; have _t := tok2; refine (HOP.out w1).mono ?_; rintro e w2 ⟨rfl, hb2⟩; have HB2 := Lib.hid (HB1.out.trans (hb2.mono HB1.out.size)); clear hb2; clear tok2)
    | (go_at_call 66; refine (HOP.out w2).mono ?_; rintro e w3 ⟨rfl, hb3⟩; have HB3 := Lib.hid (HB2.out.trans (hb3.mono HB2.out.size)); clear hb3)
    | (go_at_call 113; refine (HO.out w3).mono ?_; rintro e w4 ⟨rfl, rfl⟩))
  go_ret2
  exact ⟨rfl, HB3.out⟩

set_option maxRecDepth 100000 in
set_option maxHeartbeats 400000 in
theorem alu_7 (c a b : Nat) (hc : c < 65536) (ha : a < 4294967296) (hb : b < 4294967296) (hi : c / 16 % 16 = 7) (w : World) :
    Calls Try.prog 30 #[.int .u16 c, .int .u32 a, .int .u32 b] w fun e w' => e = .returned (.tuple #[.int .u32 ((aluL 7 a b).1 : Nat), .bool (aluL 7 a b).2]) ∧ Below w.heap.size w w' := by
  have hm : bits .and .u16 (c : Int) 240 = 112 := by rw [u16_240 c hc, hi]; rfl
  clear hi hc
  have HO := Lib.hid (fun W => op7_any a b ha hb W)
  have hix : ∀ w, (Instr.index 99 opsV (.int .i64 7)).run Try.prog w = .ok (.func (.func 114) #[] #[]) w := fun _ => by kernel_rfl
  have hnil : ∀ W, (binOp .eql 98 (.func (.func 114) #[] #[]) .nilFunc).run Try.prog W = .ok (.bool false) W := fun _ => by kernel_rfl
  generalize aluL 7 a b = r at *
  clear ha hb
  have HOP := Lib.hid (fun W => operations_any W)
  generalize opsV = ov at *
  have tok : True := trivial
  have tok2 : True := trivial
  go_enter Try.func30, Try.ntmps30
  go_wp2_with (first
    | (go_at_call 66; have _t := tok; refine (HOP.out w).mono ?_; rintro e w1 ⟨rfl, hb1⟩; have HB1 := Lib.hid hb1; clear hb1; clear tok)
    | (go_at_call 66; have _t := tok2; refine (HOP.out w1).mono ?_; rintro e w2 ⟨rfl, hb2⟩; have HB2 := Lib.hid (HB1.out.trans (hb2.mono HB1.out.size)); clear hb2; clear tok2)
    | (go_at_call 66; refine (HOP.out w2).mono ?_; rintro e w3 ⟨rfl, hb3⟩; have HB3 := Lib.hid (HB2.out.trans (hb3.mono HB2.out.size)); clear hb3)
    | (go_at_call 114; refine (HO.out w3).mono ?_; rintro e w4 ⟨rfl, rfl⟩))
  go_ret2
  exact ⟨rfl, HB3.out⟩

set_option maxRecDepth 100000 in
set_option maxHeartbeats 400000 in
theorem alu_8 (c a b : Nat) (hc : c < 65536) (ha : a < 4294967296) (hb : b < 4294967296) (hi : c / 16 % 16 = 8) (w : World) :
    Calls Try.prog 30 #[.int .u16 c, .int .u32 a, .int .u32 b] w fun e w' => e = .returned (.tuple #[.int .u32 ((aluL 8 a b).1 : Nat), .bool (aluL 8 a b).2]) ∧ Below w.heap.size w w' := by
  have hm : bits .and .u16 (c : Int) 240 = 128 := by rw [u16_240 c hc, hi]; rfl
  clear hi hc
  have HO := Lib.hid (fun W => op8_any a b ha hb W)
  have hix : ∀ w, (Instr.index 99 opsV (.int .i64 8)).run Try.prog w = .ok (.func (.func 115) #[] #[]) w := fun _ => by kernel_rfl
  have hnil : ∀ W, (binOp .eql 98 (.func (.func 115) #[] #[]) .nilFunc).run Try.prog W = .ok (.bool false) W := fun _ => by kernel_rfl
  generalize aluL 8 a b = r at *
  clear ha hb
  have HOP := Lib.hid (fun W => operations_any W)
  generalize opsV = ov at *
  have tok : True := trivial
  have tok2 : True := trivial
  go_enter Try.func30, Try.ntmps30
  go_wp2_with (first
    | (go_at_call 66; have _t := tok; refine (HOP.out w).mono ?_; rintro e w1 ⟨rfl, hb1⟩; have HB1 := Lib.hid hb1; clear hb1; clear tok)
    | (go_at_call 66; have _t := tok2; refine (HOP.out w1).mono ?_; rintro e w2 ⟨rfl, hb2⟩; have HB2 := Lib.hid (HB1.out.trans (hb2.mono HB1.out.size)); clear hb2; clear tok2)
    | (go_at_call 66; refine (HOP.out w2).mono ?_; rintro e w3 ⟨rfl, hb3⟩; have HB3 := Lib.hid (HB2.out.trans (hb3.mono HB2.out.size)); clear hb3)
    | (go_at_call 115; refine (HO.out w3).mono ?_; rintro e w4 ⟨rfl, rfl⟩))
  go_ret2
  exact ⟨rfl, HB3.out⟩

set_option maxRecDepth 100000 in
set_option maxHeartbeats 400000 in
theorem alu_9 (c a b : Nat) (hc : c < 65536) (ha : a < 4294967296) (hb : b < 4294967296) (hi : c / 16 % 16 = 9) (w : World) :
    Calls Try.prog 30 #[.int .u16 c, .int .u32 a, .int .u32 b] w fun e w' => e = .returned (.tuple #[.int .u32 ((aluL 9 a b).1 : Nat), .bool (aluL 9 a b).2]) ∧ Below w.heap.size w w' := by
  have hm : bits .and .u16 (c : Int) 240 = 144 := by rw [u16_240 c hc, hi]; rfl
  clear hi hc
  have e : aluL 9 a b = (0, false) := rfl
  rw [e]
  clear e ha hb
  have hix : ∀ w, (Instr.index 99 opsV (.int .i64 9)).run Try.prog w = .ok .nilFunc w := fun _ => by kernel_rfl
  have hnil : ∀ W, (binOp .eql 98 .nilFunc .nilFunc).run Try.prog W = .ok (.bool true) W := fun _ => by kernel_rfl
  have HOP := Lib.hid (fun W => operations_any W)
  generalize opsV = ov at *
  have tok : True := trivial
  have tok2 : True := trivial
  go_enter Try.func30, Try.ntmps30
  go_wp2_with (first
    | (go_at_call 66; have _t := tok; refine (HOP.out w).mono ?_; rintro e w1 ⟨rfl, hb1⟩; have HB1 := Lib.hid hb1; clear hb1; clear tok)
    | (go_at_call 66; have _t := tok2; refine (HOP.out w1).mono ?_; rintro e w2 ⟨rfl, hb2⟩; have HB2 := Lib.hid (HB1.out.trans (hb2.mono HB1.out.size)); clear hb2; clear tok2)
    | (go_at_call 66; refine (HOP.out w2).mono ?_; rintro e w3 ⟨rfl, hb3⟩; have HB3 := Lib.hid (HB2.out.trans (hb3.mono HB2.out.size)); clear hb3))
  go_ret2
  exact ⟨rfl, HB2.out⟩

set_option maxRecDepth 100000 in
set_option maxHeartbeats 400000 in
theorem alu_10 (c a b : Nat) (hc : c < 65536) (ha : a < 4294967296) (hb : b < 4294967296) (hi : c / 16 % 16 = 10) (w : World) :
    Calls Try.prog 30 #[.int .u16 c, .int .u32 a, .int .u32 b] w fun e w' => e = .returned (.tuple #[.int .u32 ((aluL 10 a b).1 : Nat), .bool (aluL 10 a b).2]) ∧ Below w.heap.size w w' := by
  have hm : bits .and .u16 (c : Int) 240 = 160 := by rw [u16_240 c hc, hi]; rfl
  clear hi hc
  have HO := Lib.hid (fun W => op10_any a b ha hb W)
  have hix : ∀ w, (Instr.index 99 opsV (.int .i64 10)).run Try.prog w = .ok (.func (.func 116) #[] #[]) w := fun _ => by kernel_rfl
  have hnil : ∀ W, (binOp .eql 98 (.func (.func 116) #[] #[]) .nilFunc).run Try.prog W = .ok (.bool false) W := fun _ => by kernel_rfl
  generalize aluL 10 a b = r at *
  clear ha hb
  have HOP := Lib.hid (fun W => operations_any W)
  generalize opsV = ov at *
  have tok : True := trivial
  have tok2 : True := trivial
  go_enter Try.func30, Try.ntmps30
  go_wp2_with (first
    | (go_at_call 66; have _t := tok; refine (HOP.out w).mono ?_; rintro e w1 ⟨rfl, hb1⟩; have HB1 := Lib.hid hb1; clear hb1; clear tok)
    | (go_at_call 66; have _t := tok2; refine (HOP.out w1).mono ?_; rintro e w2 ⟨rfl, hb2⟩; have HB2 := Lib.hid (HB1.out.trans (hb2.mono HB1.out.size)); clear hb2; clear tok2)
    | (go_at_call 66; refine (HOP.out w2).mono ?_; rintro e w3 ⟨rfl, hb3⟩; have HB3 := Lib.hid (HB2.out.trans (hb3.mono HB2.out.size)); clear hb3)
    | (go_at_call 116; refine (HO.out w3).mono ?_; rintro e w4 ⟨rfl, rfl⟩))
  go_ret2
  exact ⟨rfl, HB3.out⟩

set_option maxRecDepth 100000 in
set_option maxHeartbeats 400000 in
theorem alu_11 (c a b : Nat) (hc : c < 65536) (ha : a < 4294967296) (hb : b < 4294967296) (hi : c / 16 % 16 = 11) (w : World) :
    Calls Try.prog 30 #[.int .u16 c, .int .u32 a, .int .u32 b] w fun e w' => e = .returned (.tuple #[.int .u32 ((aluL 11 a b).1 : Nat), .bool (aluL 11 a b).2]) ∧ Below w.heap.size w w' := by
  have hm : bits .and .u16 (c : Int) 240 = 176 := by rw [u16_240 c hc, hi]; rfl
  clear hi hc
  have e : aluL 11 a b = (0, false) := rfl
  rw [e]
  clear e ha hb
  have hix : ∀ w, (Instr.index 99 opsV (.int .i64 9)).run Try.prog w = .ok .nilFunc w := fun _ => by kernel_rfl
  have hnil : ∀ W, (binOp .eql 98 .nilFunc .nilFunc).run Try.prog W = .ok (.bool true) W := fun _ => by kernel_rfl
  have HOP := Lib.hid (fun W => operations_any W)
  generalize opsV = ov at *
  have tok : True := trivial
  have tok2 : True := trivial
  go_enter Try.func30, Try.ntmps30
  go_wp2_with (first
    | (go_at_call 66; have _t := tok; refine (HOP.out w).mono ?_; rintro e w1 ⟨rfl, hb1⟩; have HB1 := Lib.hid hb1; clear hb1; clear tok)
    | (go_at_call 66; have _t := tok2; refine (HOP.out w1).mono ?_; rintro e w2 ⟨rfl, hb2⟩; have HB2 := Lib.hid (HB1.out.trans (hb2.mono HB1.out.size)); clear hb2; clear tok2)
    | (go_at_call 66; refine (HOP.out w2).mono ?_; rintro e w3 ⟨rfl, hb3⟩; have HB3 := Lib.hid (HB2.out.trans (hb3.mono HB2.out.size)); clear hb3))
  go_ret2
  exact ⟨rfl, HB1.out⟩

set_option maxRecDepth 100000 in
set_option maxHeartbeats 400000 in
theorem alu_12 (c a b : Nat) (hc : c < 65536) (ha : a < 4294967296) (hb : b < 4294967296) (hi : c / 16 % 16 = 12) (w : World) :
    Calls Try.prog 30 #[.int .u16 c, .int .u32 a, .int .u32 b] w fun e w' => e = .returned (.tuple #[.int .u32 ((aluL 12 a b).1 : Nat), .bool (aluL 12 a b).2]) ∧ Below w.heap.size w w' := by
  have hm : bits .and .u16 (c : Int) 240 = 192 := by rw [u16_240 c hc, hi]; rfl
  clear hi hc
  have e : aluL 12 a b = (0, false) := rfl
  rw [e]
  clear e ha hb
  have hix : ∀ w, (Instr.index 99 opsV (.int .i64 9)).run Try.prog w = .ok .nilFunc w := fun _ => by kernel_rfl
  have hnil : ∀ W, (binOp .eql 98 .nilFunc .nilFunc).run Try.prog W = .ok (.bool true) W := fun _ => by kernel_rfl
  have HOP := Lib.hid (fun W => operations_any W)
  generalize opsV = ov at *
  have tok : True := trivial
  have tok2 : True := trivial
  go_enter Try.func30, Try.ntmps30
  go_wp2_with (first
    | (go_at_call 66; have _t := tok; refine (HOP.out w).mono ?_; rintro e w1 ⟨rfl, hb1⟩; have HB1 := Lib.hid hb1; clear hb1; clear tok)
    | (go_at_call 66; have _t := tok2; refine (HOP.out w1).mono ?_; rintro e w2 ⟨rfl, hb2⟩; have HB2 := Lib.hid (HB1.out.trans (hb2.mono HB1.out.size)); clear hb2; clear tok2)
    | (go_at_call 66; refine (HOP.out w2).mono ?_; rintro e w3 ⟨rfl, hb3⟩; have HB3 := Lib.hid (HB2.out.trans (hb3.mono HB2.out.size)); clear hb3))
  go_ret2
  exact ⟨rfl, HB1.out⟩

set_option maxRecDepth 100000 in
set_option maxHeartbeats 400000 in
theorem alu_13 (c a b : Nat) (hc : c < 65536) (ha : a < 4294967296) (hb : b < 4294967296) (hi : c / 16 % 16 = 13) (w : World) :
    Calls Try.prog 30 #[.int .u16 c, .int .u32 a, .int .u32 b] w fun e w' => e = .returned (.tuple #[.int .u32 ((aluL 13 a b).1 : Nat), .bool (aluL 13 a b).2]) ∧ Below w.heap.size w w' := by
  have hm : bits .and .u16 (c : Int) 240 = 208 := by rw [u16_240 c hc, hi]; rfl
  clear hi hc
  have e : aluL 13 a b = (0, false) := rfl
  rw [e]
  clear e ha hb
  have hix : ∀ w, (Instr.index 99 opsV (.int .i64 9)).run Try.prog w = .ok .nilFunc w := fun _ => by kernel_rfl
  have hnil : ∀ W, (binOp .eql 98 .nilFunc .nilFunc).run Try.prog W = .ok (.bool true) W := fun _ => by kernel_rfl
  have HOP := Lib.hid (fun W => operations_any W)
  generalize opsV = ov at *
  have tok : True := trivial
  have tok2 : True := trivial
  go_enter Try.func30, Try.ntmps30
  go_wp2_with (first
    | (go_at_call 66; have _t := tok; refine (HOP.out w).mono ?_; rintro e w1 ⟨rfl, hb1⟩; have HB1 := Lib.hid hb1; clear hb1; clear tok)
    | (go_at_call 66; have _t := tok2; refine (HOP.out w1).mono ?_; rintro e w2 ⟨rfl, hb2⟩; have HB2 := Lib.hid (HB1.out.trans (hb2.mono HB1.out.size)); clear hb2; clear tok2)
    | (go_at_call 66; refine (HOP.out w2).mono ?_; rintro e w3 ⟨rfl, hb3⟩; have HB3 := Lib.hid (HB2.out.trans (hb3.mono HB2.out.size)); clear hb3))
  go_ret2
  exact ⟨rfl, HB1.out⟩

set_option maxRecDepth 100000 in
set_option maxHeartbeats 400000 in
theorem alu_14 (c a b : Nat) (hc : c < 65536) (ha : a < 4294967296) (hb : b < 4294967296) (hi : c / 16 % 16 = 14) (w : World) :
    Calls Try.prog 30 #[.int .u16 c, .int .u32 a, .int .u32 b] w fun e w' => e = .returned (.tuple #[.int .u32 ((aluL 14 a b).1 : Nat), .bool (aluL 14 a b).2]) ∧ Below w.heap.size w w' := by
  have hm : bits .and .u16 (c : Int) 240 = 224 := by rw [u16_240 c hc, hi]; rfl
  clear hi hc
  have e : aluL 14 a b = (0, false) := rfl
  rw [e]
  clear e ha hb
  have hix : ∀ w, (Instr.index 99 opsV (.int .i64 9)).run Try.prog w = .ok .nilFunc w := fun _ => by kernel_rfl
  have hnil : ∀ W, (binOp .eql 98 .nilFunc .nilFunc).run Try.prog W = .ok (.bool true) W := fun _ => by kernel_rfl
  have HOP := Lib.hid (fun W => operations_any W)
  generalize opsV = ov at *
  have tok : True := trivial
  have tok2 : True := trivial
  go_enter Try.func30, Try.ntmps30
  go_wp2_with (first
    | (go_at_call 66; have _t := tok; refine (HOP.out w).mono ?_; rintro e w1 ⟨rfl, hb1⟩; have HB1 := Lib.hid hb1; clear hb1; clear tok)
    | (go_at_call 66; have _t := tok2; refine (HOP.out w1).mono ?_; rintro e w2 ⟨rfl, hb2⟩; have HB2 := Lib.hid (HB1.out.trans (hb2.mono HB1.out.size)); clear hb2; clear tok2)
    | (go_at_call 66; refine (HOP.out w2).mono ?_; rintro e w3 ⟨rfl, hb3⟩; have HB3 := Lib.hid (HB2.out.trans (hb3.mono HB2.out.size)); clear hb3))
  go_ret2
  exact ⟨rfl, HB1.out⟩

set_option maxRecDepth 100000 in
set_option maxHeartbeats 400000 in
theorem alu_15 (c a b : Nat) (hc : c < 65536) (ha : a < 4294967296) (hb : b < 4294967296) (hi : c / 16 % 16 = 15) (w : World) :
    Calls Try.prog 30 #[.int .u16 c, .int .u32 a, .int .u32 b] w fun e w' => e = .returned (.tuple #[.int .u32 ((aluL 15 a b).1 : Nat), .bool (aluL 15 a b).2]) ∧ Below w.heap.size w w' := by
  have hm : bits .and .u16 (c : Int) 240 = 240 := by rw [u16_240 c hc, hi]; rfl
  clear hi hc
  have e : aluL 15 a b = (0, false) := rfl
  rw [e]
  clear e ha hb
  have hix : ∀ w, (Instr.index 99 opsV (.int .i64 9)).run Try.prog w = .ok .nilFunc w := fun _ => by kernel_rfl
  have hnil : ∀ W, (binOp .eql 98 .nilFunc .nilFunc).run Try.prog W = .ok (.bool true) W := fun _ => by kernel_rfl
  have HOP := Lib.hid (fun W => operations_any W)
  generalize opsV = ov at *
  have tok : True := trivial
  have tok2 : True := trivial
  go_enter Try.func30, Try.ntmps30
  go_wp2_with (first
    | (go_at_call 66; have _t := tok; refine (HOP.out w).mono ?_; rintro e w1 ⟨rfl, hb1⟩; have HB1 := Lib.hid hb1; clear hb1; clear tok)
    | (go_at_call 66; have _t := tok2; refine (HOP.out w1).mono ?_; rintro e w2 ⟨rfl, hb2⟩; have HB2 := Lib.hid (HB1.out.trans (hb2.mono HB1.out.size)); clear hb2; clear tok2)
    | (go_at_call 66; refine (HOP.out w2).mono ?_; rintro e w3 ⟨rfl, hb3⟩; have HB3 := Lib.hid (HB2.out.trans (hb3.mono HB2.out.size)); clear hb3))
  go_ret2
  exact ⟨rfl, HB1.out⟩

theorem alu_any (c a b : Nat) (hc : c < 65536) (ha : a < 4294967296) (hb : b < 4294967296) (w : World) :
    Calls Try.prog 30 #[.int .u16 c, .int .u32 a, .int .u32 b] w fun e w' => e = .returned (.tuple #[.int .u32 ((aluL (c / 16 % 16) a b).1 : Nat), .bool (aluL (c / 16 % 16) a b).2]) ∧ Below w.heap.size w w' := by
  have h : c / 16 % 16 < 16 := Nat.mod_lt _ (by decide)
  obtain ⟨i, hi⟩ : ∃ i, c / 16 % 16 = i := ⟨_, rfl⟩
  rw [hi] at h
  rw [hi]
  match i, h, hi with
  | 0, _, hi => exact alu_0 c a b hc ha hb hi w
  | 1, _, hi => exact alu_1 c a b hc ha hb hi w
  | 2, _, hi => exact alu_2 c a b hc ha hb hi w
  | 3, _, hi => exact alu_3 c a b hc ha hb hi w
  | 4, _, hi => exact alu_4 c a b hc ha hb hi w
  | 5, _, hi => exact alu_5 c a b hc ha hb hi w
  | 6, _, hi => exact alu_6 c a b hc ha hb hi w
  | 7, _, hi => exact alu_7 c a b hc ha hb hi w
  | 8, _, hi => exact alu_8 c a b hc ha hb hi w
  | 9, _, hi => exact alu_9 c a b hc ha hb hi w
  | 10, _, hi => exact alu_10 c a b hc ha hb hi w
  | 11, _, hi => exact alu_11 c a b hc ha hb hi w
  | 12, _, hi => exact alu_12 c a b hc ha hb hi w
  | 13, _, hi => exact alu_13 c a b hc ha hb hi w
  | 14, _, hi => exact alu_14 c a b hc ha hb hi w
  | 15, _, hi => exact alu_15 c a b hc ha hb hi w
  | n + 16, h, _ => omega

theorem holdsL_1 (a b : Nat) : ((a : Int) == b) = holdsL 1 a b := by
  have : ((a : Int) == b) = (a == b) := by rw [Bool.eq_iff_iff]; simp only [beq_iff_eq]; omega
  rw [this]; simp [holdsL]
theorem holdsL_2 (a b : Nat) : decide (b < a) = holdsL 2 a b := by simp [holdsL]
theorem holdsL_3 (a b : Nat) : decide (b ≤ a) = holdsL 3 a b := by simp [holdsL]
theorem holdsL_4 (a b : Nat) : (((a &&& b : Nat) : Int) != 0) = holdsL 4 a b := by
  have : (((a &&& b : Nat) : Int) != 0) = ((a &&& b) != 0) := by rw [Bool.eq_iff_iff]; simp only [bne_iff_ne, ne_eq]; omega
  rw [this]; simp [holdsL]
theorem holdsL_0 (i a b : Nat) (h1 : i ≠ 1) (h2 : i ≠ 2) (h3 : i ≠ 3) (h4 : i ≠ 4) : false = holdsL i a b := by simp [holdsL, h1, h2, h3, h4]
theorem ret_bool {x y : Bool} (h : x = y) : Ending.returned (.bool x) = Ending.returned (.bool y) := by rw [h]

set_option maxHeartbeats 400000 in
theorem holds_any (c a b : Nat) (hc : c < 65536) (ha : a < 4294967296) (hb : b < 4294967296) (w : World) :
    Calls Try.prog 32 #[.int .u16 c, .int .u32 a, .int .u32 b] w fun e w' => e = .returned (.bool (holdsL (c / 16 % 16) a b)) ∧ w = w' := by
  have hm := u16_240 c hc
  have hand := u32_and_nat a b ha hb
  have hi : c / 16 % 16 < 16 := Nat.mod_lt _ (by decide)
  generalize c / 16 % 16 = i at *
  clear hc ha hb
  go_enter Try.func32, Try.ntmps32
  go_wp2
  all_goals
    go_ret
    refine ⟨?_, rfl⟩
    simp only [beq_iff_eq, beq_eq_false_iff_ne, ne_eq] at *
    first
      | (obtain rfl : i = 1 := by omega
         exact ret_bool (holdsL_1 a b))
      | (obtain rfl : i = 2 := by omega
         exact ret_bool (holdsL_2 a b))
      | (obtain rfl : i = 3 := by omega
         exact ret_bool (holdsL_3 a b))
      | (obtain rfl : i = 4 := by omega
         exact ret_bool (holdsL_4 a b))
      | exact ret_bool (holdsL_0 i a b (by omega) (by omega) (by omega) (by omega))
end Go.Proofs.Ytfjbanfibmpalaa

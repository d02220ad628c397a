/- Contracts: the document's Alu and Holds. -/
import Derived.Test.YtfjbanfibmpalaaK55
set_option linter.unusedVariables false
set_option linter.unusedSimpArgs false
namespace Go.Proofs.Ytfjbanfibmpalaa
open Go.RowKit Go.Shelf

/-- So many times two, going round. -/
def powL (b : Nat) : Nat := if b < 32 then 2 ^ b else 0

set_option maxRecDepth 100000 in
set_option maxHeartbeats 400000 in
theorem power_any (b : Nat) (hb : b < 4294967296) (w : World) :
    Calls Try.prog 67 #[.int .u32 b] w fun e w' => e = .returned (.int .u32 (powL b : Nat)) ∧ w = w' := by
  go_enter Try.func67, Try.ntmps67
  go_wp2
  go_loopw [3, 4] (fun n i wr => ∃ k : Nat, k ≤ b ∧ k ≤ 32 ∧ i = .int .u32 k ∧ n = .int .u32 (powL k : Nat) ∧ wr = w) (fun _ i _ => b - (intOf i).toNat)
  case atStart => exact ⟨0, by omega, by omega, rfl, rfl, rfl⟩
  case round =>
    obtain ⟨k, hk, hk2, rfl, rfl, rfl⟩ := hrel
    by_cases h1 : k < b
    · by_cases h2 : k < 32
      · have e : powL (k + 1) = 2 * powL k % 4294967296 := by
          unfold powL
          rw [if_pos h2]
          by_cases h3 : k + 1 < 32
          · rw [if_pos h3, Nat.pow_succ]
            have : 2 ^ k * 2 < 4294967296 := by
              have := Nat.pow_lt_pow_right (a := 2) (by decide) h3
              rw [Nat.pow_succ] at this; exact this
            omega
          · have : k = 31 := by omega
            subst this; rfl
        have HE := Lib.hid e
        generalize powL k = p at *
        have t2 : (k : Int) < 32 := by omega
        clear e
        go_wp2
        go_roundw
        case rel => exact ⟨k + 1, by omega, by omega, by go_num, by rw [HE.out, Int.natCast_emod, Int.natCast_mul]; rfl, trivial⟩
        case measure => simp [intOf]; omega
      · have : k = 32 := by omega
        subst this
        have e : powL b = powL 32 := by unfold powL; rw [if_neg (by omega), if_neg (by omega)]
        have HE := Lib.hid e
        clear e
        go_wp2
        go_ret
        exact ⟨by rw [HE.out]; rfl, rfl⟩
    · have : k = b := by omega
      subst this
      go_wp2
      go_ret
      exact ⟨rfl, rfl⟩

theorem mulp_eq (a b : Nat) : (a : Int) * ((powL b : Nat) : Int) % 4294967296 = ((aluL 6 a b).1 : Nat) := by
  show _ = (((if b < 32 then a * 2 ^ b % 4294967296 else 0 : Nat)) : Int)
  unfold powL
  by_cases h : b < 32
  · rw [if_pos h, if_pos h, Int.natCast_emod, Int.natCast_mul]; rfl
  · rw [if_neg h, if_neg h, Int.natCast_zero, Int.mul_zero]; rfl
theorem divp_eq (a b : Nat) (ha : a < 4294967296) (h : b < 32) : (a : Int) / ((powL b : Nat) : Int) % 4294967296 = ((aluL 7 a b).1 : Nat) := by
  show _ = (((if b < 32 then a / 2 ^ b else 0 : Nat)) : Int)
  unfold powL
  rw [if_pos h, if_pos h, ← Int.natCast_ediv]
  have : a / 2 ^ b < 4294967296 := Nat.lt_of_le_of_lt (Nat.div_le_self _ _) ha
  generalize a / 2 ^ b = q at *
  omega
theorem powL_pos (b : Nat) (h : b < 32) : 0 < powL b := by unfold powL; rw [if_pos h]; exact Nat.two_pow_pos _

theorem rhold4 (a b : Nat) : decide (0 < (a &&& b)) = holdsL 4 a b := by
  rw [← holdsL_4]
  rw [Bool.eq_iff_iff]
  simp only [decide_eq_true_eq, bne_iff_ne, ne_eq]
  omega

set_option maxRecDepth 100000 in
set_option maxHeartbeats 400000 in
theorem ralu_0 (c a b : Nat) (hc : c < 65536) (ha : a < 4294967296) (hb : b < 4294967296) (hi : c / 16 % 16 = 0) (w : World) :
    Calls Try.prog 31 #[.int .u16 c, .int .u32 a, .int .u32 b] w fun e w' => e = .returned (.tuple #[.int .u32 ((aluL 0 a b).1 : Nat), .bool (aluL 0 a b).2]) ∧ w = w' := by
  have hm : (c : Int) / 16 % 16 = 0 := by omega
  clear hi
  go_enter Try.func31, Try.ntmps31
  go_wp2
  go_ret2
  exact ⟨ret_two (by show _ = (((a + b) % 4294967296 : Nat) : Int); omega), rfl⟩
set_option maxRecDepth 100000 in
set_option maxHeartbeats 400000 in
theorem ralu_1 (c a b : Nat) (hc : c < 65536) (ha : a < 4294967296) (hb : b < 4294967296) (hi : c / 16 % 16 = 1) (w : World) :
    Calls Try.prog 31 #[.int .u16 c, .int .u32 a, .int .u32 b] w fun e w' => e = .returned (.tuple #[.int .u32 ((aluL 1 a b).1 : Nat), .bool (aluL 1 a b).2]) ∧ w = w' := by
  have hm : (c : Int) / 16 % 16 = 1 := by omega
  clear hi
  go_enter Try.func31, Try.ntmps31
  go_wp2
  go_ret2
  exact ⟨ret_two (by show _ = (((a + 4294967296 - b) % 4294967296 : Nat) : Int); omega), rfl⟩
set_option maxRecDepth 100000 in
set_option maxHeartbeats 400000 in
theorem ralu_2 (c a b : Nat) (hc : c < 65536) (ha : a < 4294967296) (hb : b < 4294967296) (hi : c / 16 % 16 = 2) (w : World) :
    Calls Try.prog 31 #[.int .u16 c, .int .u32 a, .int .u32 b] w fun e w' => e = .returned (.tuple #[.int .u32 ((aluL 2 a b).1 : Nat), .bool (aluL 2 a b).2]) ∧ w = w' := by
  have hm : (c : Int) / 16 % 16 = 2 := by omega
  clear hi
  go_enter Try.func31, Try.ntmps31
  go_wp2
  go_ret2
  exact ⟨ret_two (by show _ = ((a * b % 4294967296 : Nat) : Int); rw [Int.natCast_emod, Int.natCast_mul]; rfl), rfl⟩
set_option maxRecDepth 100000 in
set_option maxHeartbeats 400000 in
theorem ralu_3 (c a b : Nat) (hc : c < 65536) (ha : a < 4294967296) (hb : b < 4294967296) (hi : c / 16 % 16 = 3) (w : World) :
    Calls Try.prog 31 #[.int .u16 c, .int .u32 a, .int .u32 b] w fun e w' => e = .returned (.tuple #[.int .u32 ((aluL 3 a b).1 : Nat), .bool (aluL 3 a b).2]) ∧ w = w' := by
  have hm : (c : Int) / 16 % 16 = 3 := by omega
  clear hi
  by_cases h0 : b = 0
  · subst h0
    go_enter Try.func31, Try.ntmps31
    go_wp2
    go_ret2
    exact ⟨rfl, rfl⟩
  · have e0 : ((b : Int) == 0) = false := by simpa using h0
    have e1 : ¬ (b : Int) = 0 := by omega
    rw [op3_eq a b h0]
    have hd : a / b < 4294967296 := Nat.lt_of_le_of_lt (Nat.div_le_self _ _) ha
    have HDV := Lib.hid (show (a : Int) / b % 4294967296 = ((a / b : Nat) : Int) by rw [← Int.natCast_ediv]; generalize a / b = q at *; omega)
    clear hd
    go_enter Try.func31, Try.ntmps31
    go_wp2
    go_ret2
    exact ⟨ret_two HDV.out, rfl⟩
set_option maxRecDepth 100000 in
set_option maxHeartbeats 400000 in
theorem ralu_4 (c a b : Nat) (hc : c < 65536) (ha : a < 4294967296) (hb : b < 4294967296) (hi : c / 16 % 16 = 4) (w : World) :
    Calls Try.prog 31 #[.int .u16 c, .int .u32 a, .int .u32 b] w fun e w' => e = .returned (.tuple #[.int .u32 ((aluL 4 a b).1 : Nat), .bool (aluL 4 a b).2]) ∧ w = w' := by
  have hm : (c : Int) / 16 % 16 = 4 := by omega
  clear hi
  go_enter Try.func31, Try.ntmps31
  go_wp2
  go_ret2
  exact ⟨ret_two (u32_or_nat a b ha hb), rfl⟩
set_option maxRecDepth 100000 in
set_option maxHeartbeats 400000 in
theorem ralu_5 (c a b : Nat) (hc : c < 65536) (ha : a < 4294967296) (hb : b < 4294967296) (hi : c / 16 % 16 = 5) (w : World) :
    Calls Try.prog 31 #[.int .u16 c, .int .u32 a, .int .u32 b] w fun e w' => e = .returned (.tuple #[.int .u32 ((aluL 5 a b).1 : Nat), .bool (aluL 5 a b).2]) ∧ w = w' := by
  have hm : (c : Int) / 16 % 16 = 5 := by omega
  clear hi
  go_enter Try.func31, Try.ntmps31
  go_wp2
  go_ret2
  exact ⟨ret_two (u32_and_nat a b ha hb), rfl⟩
set_option maxRecDepth 100000 in
set_option maxHeartbeats 400000 in
theorem ralu_6 (c a b : Nat) (hc : c < 65536) (ha : a < 4294967296) (hb : b < 4294967296) (hi : c / 16 % 16 = 6) (w : World) :
    Calls Try.prog 31 #[.int .u16 c, .int .u32 a, .int .u32 b] w fun e w' => e = .returned (.tuple #[.int .u32 ((aluL 6 a b).1 : Nat), .bool (aluL 6 a b).2]) ∧ w = w' := by
  have hm : (c : Int) / 16 % 16 = 6 := by omega
  clear hi
  have HP := Lib.hid (fun W => power_any b hb W)
  have HM := Lib.hid (mulp_eq a b)
  generalize (aluL 6 a b).1 = r at *
  generalize powL b = p at *
  go_enter Try.func31, Try.ntmps31
  go_wp2_with (go_at_call 67; refine (HP.out _).mono ?_; rintro e w1 ⟨rfl, rfl⟩)
  go_ret2
  exact ⟨ret_two HM.out, rfl⟩
set_option maxRecDepth 100000 in
set_option maxHeartbeats 400000 in
theorem ralu_7 (c a b : Nat) (hc : c < 65536) (ha : a < 4294967296) (hb : b < 4294967296) (hi : c / 16 % 16 = 7) (w : World) :
    Calls Try.prog 31 #[.int .u16 c, .int .u32 a, .int .u32 b] w fun e w' => e = .returned (.tuple #[.int .u32 ((aluL 7 a b).1 : Nat), .bool (aluL 7 a b).2]) ∧ w = w' := by
  have hm : (c : Int) / 16 % 16 = 7 := by omega
  clear hi
  by_cases h : b < 32
  · have h1 : (b : Int) < 32 := by omega
    have h2 : ¬ (32 : Int) ≤ b := by omega
    have HP := Lib.hid (fun W => power_any b hb W)
    have HM := Lib.hid (divp_eq a b ha h)
    have hp := powL_pos b h
    generalize (aluL 7 a b).1 = r at *
    generalize powL b = p at *
    have e1 : ¬ (p : Int) = 0 := by omega
    have e2 : ¬ p = 0 := by omega
    go_enter Try.func31, Try.ntmps31
    go_wp2_with (go_at_call 67; refine (HP.out _).mono ?_; rintro e w1 ⟨rfl, rfl⟩)
    go_ret2
    exact ⟨ret_two HM.out, rfl⟩
  · have h1 : (32 : Int) ≤ b := by omega
    have e : (aluL 7 a b).1 = 0 := by show (if b < 32 then a / 2 ^ b else 0) = 0; rw [if_neg h]
    rw [e]
    clear e
    go_enter Try.func31, Try.ntmps31
    go_wp2
    go_ret2
    exact ⟨rfl, rfl⟩
set_option maxRecDepth 100000 in
set_option maxHeartbeats 400000 in
theorem ralu_8 (c a b : Nat) (hc : c < 65536) (ha : a < 4294967296) (hb : b < 4294967296) (hi : c / 16 % 16 = 8) (w : World) :
    Calls Try.prog 31 #[.int .u16 c, .int .u32 a, .int .u32 b] w fun e w' => e = .returned (.tuple #[.int .u32 ((aluL 8 a b).1 : Nat), .bool (aluL 8 a b).2]) ∧ w = w' := by
  have hm : (c : Int) / 16 % 16 = 8 := by omega
  clear hi
  go_enter Try.func31, Try.ntmps31
  go_wp2
  go_ret2
  exact ⟨ret_two (by show _ = (((4294967296 - a) % 4294967296 : Nat) : Int); omega), rfl⟩
set_option maxRecDepth 100000 in
set_option maxHeartbeats 400000 in
theorem ralu_9 (c a b : Nat) (hc : c < 65536) (ha : a < 4294967296) (hb : b < 4294967296) (hi : c / 16 % 16 = 9) (w : World) :
    Calls Try.prog 31 #[.int .u16 c, .int .u32 a, .int .u32 b] w fun e w' => e = .returned (.tuple #[.int .u32 ((aluL 9 a b).1 : Nat), .bool (aluL 9 a b).2]) ∧ w = w' := by
  have hm : (c : Int) / 16 % 16 = 9 := by omega
  clear hi
  have e : aluL 9 a b = (0, false) := rfl
  rw [e]
  clear e
  go_enter Try.func31, Try.ntmps31
  go_wp2
  go_ret2
  exact ⟨rfl, rfl⟩
set_option maxRecDepth 100000 in
set_option maxHeartbeats 400000 in
theorem ralu_10 (c a b : Nat) (hc : c < 65536) (ha : a < 4294967296) (hb : b < 4294967296) (hi : c / 16 % 16 = 10) (w : World) :
    Calls Try.prog 31 #[.int .u16 c, .int .u32 a, .int .u32 b] w fun e w' => e = .returned (.tuple #[.int .u32 ((aluL 10 a b).1 : Nat), .bool (aluL 10 a b).2]) ∧ w = w' := by
  have hm : (c : Int) / 16 % 16 = 10 := by omega
  clear hi
  go_enter Try.func31, Try.ntmps31
  go_wp2
  go_ret2
  exact ⟨ret_two (u32_xor_nat a b ha hb), rfl⟩
set_option maxRecDepth 100000 in
set_option maxHeartbeats 400000 in
theorem ralu_11 (c a b : Nat) (hc : c < 65536) (ha : a < 4294967296) (hb : b < 4294967296) (hi : c / 16 % 16 = 11) (w : World) :
    Calls Try.prog 31 #[.int .u16 c, .int .u32 a, .int .u32 b] w fun e w' => e = .returned (.tuple #[.int .u32 ((aluL 11 a b).1 : Nat), .bool (aluL 11 a b).2]) ∧ w = w' := by
  have hm : (c : Int) / 16 % 16 = 11 := by omega
  clear hi
  have e : aluL 11 a b = (0, false) := rfl
  rw [e]
  clear e
  go_enter Try.func31, Try.ntmps31
  go_wp2
  go_ret2
  exact ⟨rfl, rfl⟩
set_option maxRecDepth 100000 in
set_option maxHeartbeats 400000 in
theorem ralu_12 (c a b : Nat) (hc : c < 65536) (ha : a < 4294967296) (hb : b < 4294967296) (hi : c / 16 % 16 = 12) (w : World) :
    Calls Try.prog 31 #[.int .u16 c, .int .u32 a, .int .u32 b] w fun e w' => e = .returned (.tuple #[.int .u32 ((aluL 12 a b).1 : Nat), .bool (aluL 12 a b).2]) ∧ w = w' := by
  have hm : (c : Int) / 16 % 16 = 12 := by omega
  clear hi
  have e : aluL 12 a b = (0, false) := rfl
  rw [e]
  clear e
  go_enter Try.func31, Try.ntmps31
  go_wp2
  go_ret2
  exact ⟨rfl, rfl⟩
set_option maxRecDepth 100000 in
set_option maxHeartbeats 400000 in
theorem ralu_13 (c a b : Nat) (hc : c < 65536) (ha : a < 4294967296) (hb : b < 4294967296) (hi : c / 16 % 16 = 13) (w : World) :
    Calls Try.prog 31 #[.int .u16 c, .int .u32 a, .int .u32 b] w fun e w' => e = .returned (.tuple #[.int .u32 ((aluL 13 a b).1 : Nat), .bool (aluL 13 a b).2]) ∧ w = w' := by
  have hm : (c : Int) / 16 % 16 = 13 := by omega
  clear hi
  have e : aluL 13 a b = (0, false) := rfl
  rw [e]
  clear e
  go_enter Try.func31, Try.ntmps31
  go_wp2
  go_ret2
  exact ⟨rfl, rfl⟩
set_option maxRecDepth 100000 in
set_option maxHeartbeats 400000 in
theorem ralu_14 (c a b : Nat) (hc : c < 65536) (ha : a < 4294967296) (hb : b < 4294967296) (hi : c / 16 % 16 = 14) (w : World) :
    Calls Try.prog 31 #[.int .u16 c, .int .u32 a, .int .u32 b] w fun e w' => e = .returned (.tuple #[.int .u32 ((aluL 14 a b).1 : Nat), .bool (aluL 14 a b).2]) ∧ w = w' := by
  have hm : (c : Int) / 16 % 16 = 14 := by omega
  clear hi
  have e : aluL 14 a b = (0, false) := rfl
  rw [e]
  clear e
  go_enter Try.func31, Try.ntmps31
  go_wp2
  go_ret2
  exact ⟨rfl, rfl⟩
set_option maxRecDepth 100000 in
set_option maxHeartbeats 400000 in
theorem ralu_15 (c a b : Nat) (hc : c < 65536) (ha : a < 4294967296) (hb : b < 4294967296) (hi : c / 16 % 16 = 15) (w : World) :
    Calls Try.prog 31 #[.int .u16 c, .int .u32 a, .int .u32 b] w fun e w' => e = .returned (.tuple #[.int .u32 ((aluL 15 a b).1 : Nat), .bool (aluL 15 a b).2]) ∧ w = w' := by
  have hm : (c : Int) / 16 % 16 = 15 := by omega
  clear hi
  have e : aluL 15 a b = (0, false) := rfl
  rw [e]
  clear e
  go_enter Try.func31, Try.ntmps31
  go_wp2
  go_ret2
  exact ⟨rfl, rfl⟩

theorem ralu_any (c a b : Nat) (hc : c < 65536) (ha : a < 4294967296) (hb : b < 4294967296) (w : World) :
    Calls Try.prog 31 #[.int .u16 c, .int .u32 a, .int .u32 b] w fun e w' => e = .returned (.tuple #[.int .u32 ((aluL (c / 16 % 16) a b).1 : Nat), .bool (aluL (c / 16 % 16) a b).2]) ∧ w = w' := by
  have h : c / 16 % 16 < 16 := Nat.mod_lt _ (by decide)
  obtain ⟨i, hi⟩ : ∃ i, c / 16 % 16 = i := ⟨_, rfl⟩
  rw [hi] at h
  rw [hi]
  match i, h, hi with
  | 0, _, hi => exact ralu_0 c a b hc ha hb hi w
  | 1, _, hi => exact ralu_1 c a b hc ha hb hi w
  | 2, _, hi => exact ralu_2 c a b hc ha hb hi w
  | 3, _, hi => exact ralu_3 c a b hc ha hb hi w
  | 4, _, hi => exact ralu_4 c a b hc ha hb hi w
  | 5, _, hi => exact ralu_5 c a b hc ha hb hi w
  | 6, _, hi => exact ralu_6 c a b hc ha hb hi w
  | 7, _, hi => exact ralu_7 c a b hc ha hb hi w
  | 8, _, hi => exact ralu_8 c a b hc ha hb hi w
  | 9, _, hi => exact ralu_9 c a b hc ha hb hi w
  | 10, _, hi => exact ralu_10 c a b hc ha hb hi w
  | 11, _, hi => exact ralu_11 c a b hc ha hb hi w
  | 12, _, hi => exact ralu_12 c a b hc ha hb hi w
  | 13, _, hi => exact ralu_13 c a b hc ha hb hi w
  | 14, _, hi => exact ralu_14 c a b hc ha hb hi w
  | 15, _, hi => exact ralu_15 c a b hc ha hb hi w
  | n + 16, h, _ => omega

set_option maxHeartbeats 400000 in
theorem rholds_1 (c a b : Nat) (hc : c < 65536) (ha : a < 4294967296) (hb : b < 4294967296) (hi : c / 16 % 16 = 1) (w : World) :
    Calls Try.prog 33 #[.int .u16 c, .int .u32 a, .int .u32 b] w fun e w' => e = .returned (.bool (holdsL 1 a b)) ∧ w = w' := by
  have hm : (c : Int) / 16 % 16 = 1 := by omega
  have hand := u32_and_nat a b ha hb
  clear hi
  go_enter Try.func33, Try.ntmps33
  go_wp2
  all_goals
    go_ret
    refine ⟨?_, rfl⟩
    refine ret_bool ?_
    first
      | exact (holdsL_1 a b)
      | (rw [eq_comm, ← (holdsL_1 a b)]; simp [*] <;> omega)
      | (rw [← (holdsL_1 a b)]; simp [*] <;> omega)
set_option maxHeartbeats 400000 in
theorem rholds_2 (c a b : Nat) (hc : c < 65536) (ha : a < 4294967296) (hb : b < 4294967296) (hi : c / 16 % 16 = 2) (w : World) :
    Calls Try.prog 33 #[.int .u16 c, .int .u32 a, .int .u32 b] w fun e w' => e = .returned (.bool (holdsL 2 a b)) ∧ w = w' := by
  have hm : (c : Int) / 16 % 16 = 2 := by omega
  have hand := u32_and_nat a b ha hb
  clear hi
  go_enter Try.func33, Try.ntmps33
  go_wp2
  all_goals
    go_ret
    refine ⟨?_, rfl⟩
    refine ret_bool ?_
    first
      | exact (holdsL_2 a b)
      | (rw [eq_comm, ← (holdsL_2 a b)]; simp [*] <;> omega)
      | (rw [← (holdsL_2 a b)]; simp [*] <;> omega)
set_option maxHeartbeats 400000 in
theorem rholds_3 (c a b : Nat) (hc : c < 65536) (ha : a < 4294967296) (hb : b < 4294967296) (hi : c / 16 % 16 = 3) (w : World) :
    Calls Try.prog 33 #[.int .u16 c, .int .u32 a, .int .u32 b] w fun e w' => e = .returned (.bool (holdsL 3 a b)) ∧ w = w' := by
  have hm : (c : Int) / 16 % 16 = 3 := by omega
  have hand := u32_and_nat a b ha hb
  clear hi
  go_enter Try.func33, Try.ntmps33
  go_wp2
  all_goals
    go_ret
    refine ⟨?_, rfl⟩
    refine ret_bool ?_
    first
      | exact (holdsL_3 a b)
      | (rw [eq_comm, ← (holdsL_3 a b)]; simp [*] <;> omega)
      | (rw [← (holdsL_3 a b)]; simp [*] <;> omega)
set_option maxHeartbeats 400000 in
theorem rholds_4 (c a b : Nat) (hc : c < 65536) (ha : a < 4294967296) (hb : b < 4294967296) (hi : c / 16 % 16 = 4) (w : World) :
    Calls Try.prog 33 #[.int .u16 c, .int .u32 a, .int .u32 b] w fun e w' => e = .returned (.bool (holdsL 4 a b)) ∧ w = w' := by
  have hm : (c : Int) / 16 % 16 = 4 := by omega
  have hand := u32_and_nat a b ha hb
  clear hi
  go_enter Try.func33, Try.ntmps33
  go_wp2
  all_goals
    go_ret
    refine ⟨?_, rfl⟩
    refine ret_bool ?_
    first
      | exact (rhold4 a b)
      | (rw [eq_comm, ← (rhold4 a b)]; simp [*] <;> omega)
      | (rw [← (rhold4 a b)]; simp [*] <;> omega)
set_option maxHeartbeats 400000 in
theorem rholds_0 (c a b : Nat) (hc : c < 65536) (ha : a < 4294967296) (hb : b < 4294967296) (i : Nat) (hi : c / 16 % 16 = i) (h1 : i ≠ 1) (h2 : i ≠ 2) (h3 : i ≠ 3) (h4 : i ≠ 4) (w : World) :
    Calls Try.prog 33 #[.int .u16 c, .int .u32 a, .int .u32 b] w fun e w' => e = .returned (.bool (holdsL i a b)) ∧ w = w' := by
  have hm : (c : Int) / 16 % 16 = i := by omega
  have e1 : ((i : Int) == 1) = false := by simp; omega
  have e2 : ((i : Int) == 2) = false := by simp; omega
  have e3 : ((i : Int) == 3) = false := by simp; omega
  have e4 : ((i : Int) == 4) = false := by simp; omega
  rw [← holdsL_0 i a b h1 h2 h3 h4]
  clear hi h1 h2 h3 h4
  go_enter Try.func33, Try.ntmps33
  go_wp2
  go_ret
  exact ⟨rfl, rfl⟩

theorem rholds_any (c a b : Nat) (hc : c < 65536) (ha : a < 4294967296) (hb : b < 4294967296) (w : World) :
    Calls Try.prog 33 #[.int .u16 c, .int .u32 a, .int .u32 b] w fun e w' => e = .returned (.bool (holdsL (c / 16 % 16) a b)) ∧ w = w' := by
  obtain ⟨i, hi⟩ : ∃ i, c / 16 % 16 = i := ⟨_, rfl⟩
  rw [hi]
  by_cases h1 : i = 1
  · subst h1; exact rholds_1 c a b hc ha hb hi w
  by_cases h2 : i = 2
  · subst h2; exact rholds_2 c a b hc ha hb hi w
  by_cases h3 : i = 3
  · subst h3; exact rholds_3 c a b hc ha hb hi w
  by_cases h4 : i = 4
  · subst h4; exact rholds_4 c a b hc ha hb hi w
  exact rholds_0 c a b hc ha hb i hi h1 h2 h3 h4 w
end Go.Proofs.Ytfjbanfibmpalaa

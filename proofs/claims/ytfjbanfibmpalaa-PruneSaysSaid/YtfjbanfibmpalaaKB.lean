/- KB -/
import Derived.Test.YtfjbanfibmpalaaK3

/- Contract of the reference's names. -/
set_option linter.unusedVariables false
set_option linter.unusedSimpArgs false
namespace Go.Proofs.Ytfjbanfibmpalaa
open Go.RowKit

theorem not_single (c : Nat) (hs : (single c).2 < 0) : c ≠ 0 ∧ c ≠ 1 ∧ c ≠ 2 ∧ c ≠ 3 ∧ c ≠ 5 ∧ c ≠ 6 ∧ c ≠ 7 ∧ c ≠ 22 ∧ c ≠ 32 ∧ c ≠ 96 ∧ c ≠ 97 ∧ c ≠ 128 ∧ c ≠ 129 ∧ c ≠ 132 ∧ c ≠ 135 := by
  refine ⟨?_, ?_, ?_, ?_, ?_, ?_, ?_, ?_, ?_, ?_, ?_, ?_, ?_, ?_, ?_⟩ <;> rintro rfl <;> simp [single] at hs

set_option maxHeartbeats 1000000 in
theorem named_rest (c : Nat) (hc : c < 256) (hs : (single c).2 < 0) (hm : c % 16 ≠ 4 ∧ c % 16 ≠ 12 ∧ c % 16 ≠ 5 ∧ c % 16 ≠ 13) (w : World) :
    Calls Try.prog 118 #[.int .u16 c] w fun e w' => e = .returned (.tuple #[.string (named c).1, .int .i64 (named c).2]) ∧ Below w.heap.size w w' := by
  obtain ⟨n0, n1, n2, n3, n4, n5, n6, n7, n8, n9, n10, n11, n12, n13, n14⟩ := not_single c hs
  obtain ⟨m0, m1, m2, m3⟩ := hm
  have b0 : ((c : Int) == 0) = false := by simp; omega
  have b1 : ((c : Int) == 1) = false := by simp; omega
  have b2 : ((c : Int) == 2) = false := by simp; omega
  have b3 : ((c : Int) == 3) = false := by simp; omega
  have b4 : ((c : Int) == 5) = false := by simp; omega
  have b5 : ((c : Int) == 6) = false := by simp; omega
  have b6 : ((c : Int) == 7) = false := by simp; omega
  have b7 : ((c : Int) == 22) = false := by simp; omega
  have b8 : ((c : Int) == 32) = false := by simp; omega
  have b9 : ((c : Int) == 96) = false := by simp; omega
  have b10 : ((c : Int) == 97) = false := by simp; omega
  have b11 : ((c : Int) == 128) = false := by simp; omega
  have b12 : ((c : Int) == 129) = false := by simp; omega
  have b13 : ((c : Int) == 132) = false := by simp; omega
  have b14 : ((c : Int) == 135) = false := by simp; omega
  have d0 : ((c : Int) % 16 == 4) = false := by simp; omega
  have d1 : ((c : Int) % 16 == 12) = false := by simp; omega
  have d2 : ((c : Int) % 16 == 5) = false := by simp; omega
  have d3 : ((c : Int) % 16 == 13) = false := by simp; omega
  have HN := Lib.hid (show named c = (⟨#[]⟩, -1) by unfold named; rw [if_neg (by omega), if_neg (by omega), if_neg (by omega), if_neg (by omega), if_neg (by omega)])
  clear n0 n1 n2 n3 n4 n5 n6 n7 n8 n9 n10 n11 n12 n13 n14 m0 m1 m2 m3 hs
  have HS := Lib.hid (rsided_any c hc)
  generalize reckNames.getD (c / 16) default = s at *
  go_enter Try.func118, Try.ntmps118
  go_wp2_with (go_at_call 146; refine (HS.out _).mono ?_; rintro e w' ⟨rfl, rfl⟩)
  go_ret2
  exact ⟨by rw [HN.out]; rfl, by (repeat (first | with_reducible exact Below.refl _ _ | with_reducible assumption | ((with_reducible refine Below.setCell ?_ ?hp _); case hp => (first | omega | (simp only [World.size_alloc, World.size_setCell, World.size_drew]; omega) | (simp; done) | (simp; omega))) | ((with_reducible refine Below.alloc ?_ ?hp _); case hp => (first | omega | (simp only [World.size_alloc, World.size_setCell, World.size_drew]; omega) | (simp; done) | (simp; omega))) | with_reducible refine Below.drew ?_ | with_reducible refine below_drewN ?_ _))⟩

theorem named_any (c : Nat) (hc : c < 256) (w : World) :
    Calls Try.prog 118 #[.int .u16 c] w fun e w' => e = .returned (.tuple #[.string (named c).1, .int .i64 (named c).2]) ∧ Below w.heap.size w w' := by
  by_cases hs : 0 ≤ (single c).2
  · have : ∀ c : Fin 256, 0 ≤ (single c.val).2 → c.val = 0 ∨ c.val = 1 ∨ c.val = 2 ∨ c.val = 3 ∨ c.val = 5 ∨ c.val = 6 ∨ c.val = 7 ∨ c.val = 22 ∨ c.val = 32 ∨ c.val = 96 ∨ c.val = 97 ∨ c.val = 128 ∨ c.val = 129 ∨ c.val = 132 ∨ c.val = 135 := by decide +kernel
    rcases this ⟨c, hc⟩ hs with h | h | h | h | h | h | h | h | h | h | h | h | h | h | h <;> first | subst h | (simp only at h; subst h)
    · exact (named_0 w).mono fun e w' ⟨h1, h2⟩ => ⟨h1, h2 ▸ Below.refl _ _⟩
    · exact (named_1 w).mono fun e w' ⟨h1, h2⟩ => ⟨h1, h2 ▸ Below.refl _ _⟩
    · exact (named_2 w).mono fun e w' ⟨h1, h2⟩ => ⟨h1, h2 ▸ Below.refl _ _⟩
    · exact (named_3 w).mono fun e w' ⟨h1, h2⟩ => ⟨h1, h2 ▸ Below.refl _ _⟩
    · exact (named_5 w).mono fun e w' ⟨h1, h2⟩ => ⟨h1, h2 ▸ Below.refl _ _⟩
    · exact (named_6 w).mono fun e w' ⟨h1, h2⟩ => ⟨h1, h2 ▸ Below.refl _ _⟩
    · exact (named_7 w).mono fun e w' ⟨h1, h2⟩ => ⟨h1, h2 ▸ Below.refl _ _⟩
    · exact (named_22 w).mono fun e w' ⟨h1, h2⟩ => ⟨h1, h2 ▸ Below.refl _ _⟩
    · exact (named_32 w).mono fun e w' ⟨h1, h2⟩ => ⟨h1, h2 ▸ Below.refl _ _⟩
    · exact (named_96 w).mono fun e w' ⟨h1, h2⟩ => ⟨h1, h2 ▸ Below.refl _ _⟩
    · exact (named_97 w).mono fun e w' ⟨h1, h2⟩ => ⟨h1, h2 ▸ Below.refl _ _⟩
    · exact (named_128 w).mono fun e w' ⟨h1, h2⟩ => ⟨h1, h2 ▸ Below.refl _ _⟩
    · exact (named_129 w).mono fun e w' ⟨h1, h2⟩ => ⟨h1, h2 ▸ Below.refl _ _⟩
    · exact (named_132 w).mono fun e w' ⟨h1, h2⟩ => ⟨h1, h2 ▸ Below.refl _ _⟩
    · exact (named_135 w).mono fun e w' ⟨h1, h2⟩ => ⟨h1, h2 ▸ Below.refl _ _⟩
  · by_cases hm : c % 16 ≠ 4 ∧ c % 16 ≠ 12 ∧ c % 16 ≠ 5 ∧ c % 16 ≠ 13
    · exact named_rest c hc (by omega) hm w
    · have hs' : (single c).2 < 0 := by omega
      have : ∀ c : Fin 256, (single c.val).2 < 0 → (c.val % 16 = 4 ∨ c.val % 16 = 12 ∨ c.val % 16 = 5 ∨ c.val % 16 = 13) → c.val ∈ [4, 12, 13, 20, 21, 28, 29, 36, 37, 44, 45, 52, 53, 60, 61, 68, 69, 76, 77, 84, 85, 92, 93, 100, 101, 108, 109, 116, 117, 124, 125, 133, 140, 141, 148, 149, 156, 157, 164, 165, 172, 173, 180, 181, 188, 189, 196, 197, 204, 205, 212, 213, 220, 221, 228, 229, 236, 237, 244, 245, 252, 253] := by decide +kernel
      have hm' := this ⟨c, hc⟩ hs' (by simp only; omega)
      simp only [List.mem_cons, List.not_mem_nil, or_false] at hm'
      rcases hm' with h | h | h | h | h | h | h | h | h | h | h | h | h | h | h | h | h | h | h | h | h | h | h | h | h | h | h | h | h | h | h | h | h | h | h | h | h | h | h | h | h | h | h | h | h | h | h | h | h | h | h | h | h | h | h | h | h | h | h | h | h | h <;> first | subst h | (simp only at h; subst h)
      · exact named_4 w
      · exact named_12 w
      · exact named_13 w
      · exact named_20 w
      · exact named_21 w
      · exact named_28 w
      · exact named_29 w
      · exact named_36 w
      · exact named_37 w
      · exact named_44 w
      · exact named_45 w
      · exact named_52 w
      · exact named_53 w
      · exact named_60 w
      · exact named_61 w
      · exact named_68 w
      · exact named_69 w
      · exact named_76 w
      · exact named_77 w
      · exact named_84 w
      · exact named_85 w
      · exact named_92 w
      · exact named_93 w
      · exact named_100 w
      · exact named_101 w
      · exact named_108 w
      · exact named_109 w
      · exact named_116 w
      · exact named_117 w
      · exact named_124 w
      · exact named_125 w
      · exact named_133 w
      · exact named_140 w
      · exact named_141 w
      · exact named_148 w
      · exact named_149 w
      · exact named_156 w
      · exact named_157 w
      · exact named_164 w
      · exact named_165 w
      · exact named_172 w
      · exact named_173 w
      · exact named_180 w
      · exact named_181 w
      · exact named_188 w
      · exact named_189 w
      · exact named_196 w
      · exact named_197 w
      · exact named_204 w
      · exact named_205 w
      · exact named_212 w
      · exact named_213 w
      · exact named_220 w
      · exact named_221 w
      · exact named_228 w
      · exact named_229 w
      · exact named_236 w
      · exact named_237 w
      · exact named_244 w
      · exact named_245 w
      · exact named_252 w
      · exact named_253 w

end Go.Proofs.Ytfjbanfibmpalaa

/- Contracts of the reference's Name, Form, One. -/
set_option linter.unusedVariables false
set_option linter.unusedSimpArgs false
namespace Go.Proofs.Ytfjbanfibmpalaa
open Go.RowKit

theorem named_form (c : Nat) (hc : c < 256) : (named c).2 = form c ∧ (named c).1.toList.isEmpty = decide (form c < 0) := by
  have : ∀ c : Fin 256, (named c.val).2 = form c.val ∧ (named c.val).1.toList.isEmpty = decide (form c.val < 0) := by decide +kernel
  exact this ⟨c, hc⟩

set_option maxHeartbeats 400000 in
theorem rname_any (c : Nat) (hc : c < 65536) (w : World) :
    Calls Try.prog 69 #[.int .u16 c] w fun e w' => e = .returned (.tuple #[.string (nameOf c), .bool (decide (0 ≤ form c))]) ∧ Below w.heap.size w w' := by
  unfold nameOf
  by_cases h : c < 256
  · rw [if_pos h]
    have hf := Lib.hid (named_form c h).2
    go_enter Try.func69, Try.ntmps69
    go_wp2_with (go_at_call 118; refine (named_any c h _).mono ?_; rintro e w' ⟨rfl, hb⟩)
    go_ret2
    refine ⟨?_, hb⟩
    show Ending.returned (.tuple #[.string (named c).1, .bool (!(named c).1.toList.isEmpty)]) = _
    rw [hf.out]
    by_cases h0 : form c < 0 <;> simp [h0] <;> omega
  · rw [if_neg h, form_big c (by omega)]
    go_enter Try.func69, Try.ntmps69
    go_wp2
    go_ret2
    exact ⟨rfl, Below.refl _ _⟩

set_option maxHeartbeats 400000 in
theorem rform_any (c : Nat) (hc : c < 65536) (w : World) :
    Calls Try.prog 97 #[.int .u16 c] w fun e w' => e = .returned (.int .i64 (form c)) ∧ Below w.heap.size w w' := by
  by_cases h : c < 256
  · have hf := Lib.hid (named_form c h).1
    go_enter Try.func97, Try.ntmps97
    go_wp2_with (go_at_call 118; refine (named_any c h _).mono ?_; rw [hf.out]; rintro e w' ⟨rfl, hb⟩)
    go_ret
    exact ⟨rfl, hb⟩
  · rw [form_big c (by omega)]
    go_enter Try.func97, Try.ntmps97
    go_wp2
    go_ret
    exact ⟨rfl, Below.refl _ _⟩

set_option maxHeartbeats 400000 in
theorem rreturns_any (c a b k : Nat) (w : World) :
    Calls Try.prog 58 #[.agg #[.int .u16 c, .int .u8 a, .int .u8 b, .int .u32 k]] w fun e w' => e = .returned (.bool (isRet c)) ∧ Below w.heap.size w w' := by
  go_enter Try.func58, Try.ntmps58
  go_wp2
  all_goals
    go_ret
    go_light
    refine ⟨?_, by (repeat (first | with_reducible exact Below.refl _ _ | with_reducible assumption | ((with_reducible refine Below.setCell ?_ ?hp _); case hp => (first | omega | (simp only [World.size_alloc, World.size_setCell, World.size_drew]; omega) | (simp; done) | (simp; omega))) | ((with_reducible refine Below.alloc ?_ ?hp _); case hp => (first | omega | (simp only [World.size_alloc, World.size_setCell, World.size_drew]; omega) | (simp; done) | (simp; omega))) | with_reducible refine Below.drew ?_ | with_reducible refine below_drewN ?_ _))⟩
    unfold isRet
    first
      | (show Ending.returned (Value.bool true) = _; rw [show c = 6 by omega]; rfl)
      | (show Ending.returned (Value.bool _) = _; congr 2; rw [Bool.eq_iff_iff]; simp; omega)

theorem name_tests (c : Nat) (hc : c < 65536) (h : c ≠ 32 ∧ c ≠ 52 ∧ c ≠ 100 ∧ c ≠ 116) :
    ¬ (nameOf c).toList = [108, 100, 46, 97, 98, 115] ∧ ¬ (nameOf c).toList = [100, 105, 118, 46, 107] ∧ ¬ (nameOf c).toList = [108, 115, 104, 46, 107] ∧ ¬ (nameOf c).toList = [114, 115, 104, 46, 107] := by
  by_cases hc : c < 256
  · have : ∀ c : Fin 256, c.val ≠ 32 ∧ c.val ≠ 52 ∧ c.val ≠ 100 ∧ c.val ≠ 116 → ¬ (nameOf c.val).toList = [108, 100, 46, 97, 98, 115] ∧ ¬ (nameOf c.val).toList = [100, 105, 118, 46, 107] ∧ ¬ (nameOf c.val).toList = [108, 115, 104, 46, 107] ∧ ¬ (nameOf c.val).toList = [114, 115, 104, 46, 107] := by decide +kernel
    exact this ⟨c, hc⟩ h
  · unfold nameOf; rw [if_neg hc]; exact ⟨by decide +kernel, by decide +kernel, by decide +kernel, by decide +kernel⟩

set_option maxHeartbeats 400000 in
theorem rone_fm1y (x : Insn) (hx : x.Ok) (i n : Nat) (w : World) (hn : n ≤ 1000000) (hi : i ≤ 1000000) (hf : form x.code = -1) (hcc : x.code ≠ 32 ∧ x.code ≠ 52 ∧ x.code ≠ 100 ∧ x.code ≠ 116) (hbh : i + 1 < n) :
    Calls Try.prog 57 #[(Value.agg #[.int .u16 x.code, .int .u8 x.jt, .int .u8 x.jf, .int .u32 x.k]), .int .i64 i, .int .i64 n] w fun e w' => e = .returned (.int .i64 (one x i n)) ∧ Below w.heap.size w w' := by
  have hc := hx.code
  have hk := hx.k
  have hjt := hx.jt
  have hjf := hx.jf
  have hBe := Lib.hid (show behind i n = n - 1 - i by unfold behind; rw [if_pos hbh])
  have HF := Lib.hid hf
  obtain ⟨q1, q2, q3, q4⟩ := name_tests x.code hc hcc
  have HC := Lib.hid hcc
  clear hf hcc
  go_enter Try.func57, Try.ntmps57
  go_wp2_with (first | (go_at_call 69; refine (rname_any x.code hc _).mono ?_; rw [HF.out]; rintro e w' ⟨rfl, hb⟩; (obtain ⟨hb_c, hb_f⟩ := bcell hb; have hb_z := (hb).size; have hb_0 : Below w.heap.size w _ := Below.trans (by (repeat (first | with_reducible exact Below.refl _ _ | with_reducible assumption | ((with_reducible refine Below.setCell ?_ ?hp _); case hp => (first | omega | (simp only [World.size_alloc, World.size_setCell, World.size_drew]; omega) | (simp; done) | (simp; omega))) | ((with_reducible refine Below.alloc ?_ ?hp _); case hp => (first | omega | (simp only [World.size_alloc, World.size_setCell, World.size_drew]; omega) | (simp; done) | (simp; omega))) | with_reducible refine Below.drew ?_ | with_reducible refine below_drewN ?_ _))) ((hb).mono (by (first | omega | (simp only [World.size_alloc, World.size_setCell, World.size_drew]; omega) | (simp; done) | (simp; omega)))); (try simp only [World.size_alloc, World.size_setCell, World.size_drew] at hb_z hb_c hb_f); clear hb); (have hb_k0 := hb_c (w.heap.size) 0 (by omega); simp [go_sem] at hb_k0; have hb_k1 := hb_c (w.heap.size) 1 (by omega); simp [go_sem] at hb_k1; have hb_k2 := hb_c (w.heap.size) 2 (by omega); simp [go_sem] at hb_k2; have hb_k3 := hb_c (w.heap.size) 3 (by omega); simp [go_sem] at hb_k3)) | (go_at_call 97; refine (rform_any x.code hc _).mono ?_; rw [HF.out]; rintro e w'' ⟨rfl, hd⟩; (obtain ⟨hd_c, hd_f⟩ := bcell hd; have hd_z := (hd).size; have hd_0 : Below w.heap.size w _ := Below.trans (by (repeat (first | with_reducible exact Below.refl _ _ | with_reducible assumption | ((with_reducible refine Below.setCell ?_ ?hp _); case hp => (first | omega | (simp only [World.size_alloc, World.size_setCell, World.size_drew]; omega) | (simp; done) | (simp; omega))) | ((with_reducible refine Below.alloc ?_ ?hp _); case hp => (first | omega | (simp only [World.size_alloc, World.size_setCell, World.size_drew]; omega) | (simp; done) | (simp; omega))) | with_reducible refine Below.drew ?_ | with_reducible refine below_drewN ?_ _))) ((hd).mono (by (first | omega | (simp only [World.size_alloc, World.size_setCell, World.size_drew]; omega) | (simp; done) | (simp; omega)))); (try simp only [World.size_alloc, World.size_setCell, World.size_drew] at hd_z hd_c hd_f); clear hd); have hd_k1 := (hd_c w.heap.size 1 (by omega)).trans hb_k1; have hd_k2 := (hd_c w.heap.size 2 (by omega)).trans hb_k2; have hd_k3 := (hd_c w.heap.size 3 (by omega)).trans hb_k3))
  all_goals
    go_ret
    go_light
    refine ⟨?_, by (repeat (first | with_reducible exact Below.refl _ _ | with_reducible assumption | ((with_reducible refine Below.setCell ?_ ?hp _); case hp => (first | omega | (simp only [World.size_alloc, World.size_setCell, World.size_drew]; omega) | (simp; done) | (simp; omega))) | ((with_reducible refine Below.alloc ?_ ?hp _); case hp => (first | omega | (simp only [World.size_alloc, World.size_setCell, World.size_drew]; omega) | (simp; done) | (simp; omega))) | with_reducible refine Below.drew ?_ | with_reducible refine below_drewN ?_ _))⟩
    simp only [beq_iff_eq, beq_eq_false_iff_ne, ne_eq, decide_eq_true_eq, decide_eq_false_iff_not, Bool.not_eq_true', Bool.not_eq_false'] at *
    first
      | rfl
      | (show Ending.returned (.int .i64 _) = .returned (.int .i64 (one x i n))
         congr 2
         unfold one
         rw [HF.out, hBe.out]
         have hcc := HC.out
         repeat (first | rw [if_pos (by omega)] | rw [if_neg (by omega)]))

set_option maxHeartbeats 400000 in
theorem rone_fm1n (x : Insn) (hx : x.Ok) (i n : Nat) (w : World) (hn : n ≤ 1000000) (hi : i ≤ 1000000) (hf : form x.code = -1) (hcc : x.code ≠ 32 ∧ x.code ≠ 52 ∧ x.code ≠ 100 ∧ x.code ≠ 116) (hbh : ¬ i + 1 < n) :
    Calls Try.prog 57 #[(Value.agg #[.int .u16 x.code, .int .u8 x.jt, .int .u8 x.jf, .int .u32 x.k]), .int .i64 i, .int .i64 n] w fun e w' => e = .returned (.int .i64 (one x i n)) ∧ Below w.heap.size w w' := by
  have hc := hx.code
  have hk := hx.k
  have hjt := hx.jt
  have hjf := hx.jf
  have hBe := Lib.hid (show behind i n = 0 by unfold behind; rw [if_neg hbh])
  have HF := Lib.hid hf
  obtain ⟨q1, q2, q3, q4⟩ := name_tests x.code hc hcc
  have HC := Lib.hid hcc
  clear hf hcc
  go_enter Try.func57, Try.ntmps57
  go_wp2_with (first | (go_at_call 69; refine (rname_any x.code hc _).mono ?_; rw [HF.out]; rintro e w' ⟨rfl, hb⟩; (obtain ⟨hb_c, hb_f⟩ := bcell hb; have hb_z := (hb).size; have hb_0 : Below w.heap.size w _ := Below.trans (by (repeat (first | with_reducible exact Below.refl _ _ | with_reducible assumption | ((with_reducible refine Below.setCell ?_ ?hp _); case hp => (first | omega | (simp only [World.size_alloc, World.size_setCell, World.size_drew]; omega) | (simp; done) | (simp; omega))) | ((with_reducible refine Below.alloc ?_ ?hp _); case hp => (first | omega | (simp only [World.size_alloc, World.size_setCell, World.size_drew]; omega) | (simp; done) | (simp; omega))) | with_reducible refine Below.drew ?_ | with_reducible refine below_drewN ?_ _))) ((hb).mono (by (first | omega | (simp only [World.size_alloc, World.size_setCell, World.size_drew]; omega) | (simp; done) | (simp; omega)))); (try simp only [World.size_alloc, World.size_setCell, World.size_drew] at hb_z hb_c hb_f); clear hb); (have hb_k0 := hb_c (w.heap.size) 0 (by omega); simp [go_sem] at hb_k0; have hb_k1 := hb_c (w.heap.size) 1 (by omega); simp [go_sem] at hb_k1; have hb_k2 := hb_c (w.heap.size) 2 (by omega); simp [go_sem] at hb_k2; have hb_k3 := hb_c (w.heap.size) 3 (by omega); simp [go_sem] at hb_k3)) | (go_at_call 97; refine (rform_any x.code hc _).mono ?_; rw [HF.out]; rintro e w'' ⟨rfl, hd⟩; (obtain ⟨hd_c, hd_f⟩ := bcell hd; have hd_z := (hd).size; have hd_0 : Below w.heap.size w _ := Below.trans (by (repeat (first | with_reducible exact Below.refl _ _ | with_reducible assumption | ((with_reducible refine Below.setCell ?_ ?hp _); case hp => (first | omega | (simp only [World.size_alloc, World.size_setCell, World.size_drew]; omega) | (simp; done) | (simp; omega))) | ((with_reducible refine Below.alloc ?_ ?hp _); case hp => (first | omega | (simp only [World.size_alloc, World.size_setCell, World.size_drew]; omega) | (simp; done) | (simp; omega))) | with_reducible refine Below.drew ?_ | with_reducible refine below_drewN ?_ _))) ((hd).mono (by (first | omega | (simp only [World.size_alloc, World.size_setCell, World.size_drew]; omega) | (simp; done) | (simp; omega)))); (try simp only [World.size_alloc, World.size_setCell, World.size_drew] at hd_z hd_c hd_f); clear hd); have hd_k1 := (hd_c w.heap.size 1 (by omega)).trans hb_k1; have hd_k2 := (hd_c w.heap.size 2 (by omega)).trans hb_k2; have hd_k3 := (hd_c w.heap.size 3 (by omega)).trans hb_k3))
  all_goals
    go_ret
    go_light
    refine ⟨?_, by (repeat (first | with_reducible exact Below.refl _ _ | with_reducible assumption | ((with_reducible refine Below.setCell ?_ ?hp _); case hp => (first | omega | (simp only [World.size_alloc, World.size_setCell, World.size_drew]; omega) | (simp; done) | (simp; omega))) | ((with_reducible refine Below.alloc ?_ ?hp _); case hp => (first | omega | (simp only [World.size_alloc, World.size_setCell, World.size_drew]; omega) | (simp; done) | (simp; omega))) | with_reducible refine Below.drew ?_ | with_reducible refine below_drewN ?_ _))⟩
    simp only [beq_iff_eq, beq_eq_false_iff_ne, ne_eq, decide_eq_true_eq, decide_eq_false_iff_not, Bool.not_eq_true', Bool.not_eq_false'] at *
    first
      | rfl
      | (show Ending.returned (.int .i64 _) = .returned (.int .i64 (one x i n))
         congr 2
         unfold one
         rw [HF.out, hBe.out]
         have hcc := HC.out
         repeat (first | rw [if_pos (by omega)] | rw [if_neg (by omega)]))

set_option maxHeartbeats 400000 in
theorem rone_f0y (x : Insn) (hx : x.Ok) (i n : Nat) (w : World) (hn : n ≤ 1000000) (hi : i ≤ 1000000) (hf : form x.code = 0) (hcc : x.code ≠ 32 ∧ x.code ≠ 52 ∧ x.code ≠ 100 ∧ x.code ≠ 116) (hbh : i + 1 < n) :
    Calls Try.prog 57 #[(Value.agg #[.int .u16 x.code, .int .u8 x.jt, .int .u8 x.jf, .int .u32 x.k]), .int .i64 i, .int .i64 n] w fun e w' => e = .returned (.int .i64 (one x i n)) ∧ Below w.heap.size w w' := by
  have hc := hx.code
  have hk := hx.k
  have hjt := hx.jt
  have hjf := hx.jf
  have hBe := Lib.hid (show behind i n = n - 1 - i by unfold behind; rw [if_pos hbh])
  have HF := Lib.hid hf
  obtain ⟨q1, q2, q3, q4⟩ := name_tests x.code hc hcc
  have HC := Lib.hid hcc
  clear hf hcc
  go_enter Try.func57, Try.ntmps57
  go_wp2_with (first | (go_at_call 69; refine (rname_any x.code hc _).mono ?_; rw [HF.out]; rintro e w' ⟨rfl, hb⟩; (obtain ⟨hb_c, hb_f⟩ := bcell hb; have hb_z := (hb).size; have hb_0 : Below w.heap.size w _ := Below.trans (by (repeat (first | with_reducible exact Below.refl _ _ | with_reducible assumption | ((with_reducible refine Below.setCell ?_ ?hp _); case hp => (first | omega | (simp only [World.size_alloc, World.size_setCell, World.size_drew]; omega) | (simp; done) | (simp; omega))) | ((with_reducible refine Below.alloc ?_ ?hp _); case hp => (first | omega | (simp only [World.size_alloc, World.size_setCell, World.size_drew]; omega) | (simp; done) | (simp; omega))) | with_reducible refine Below.drew ?_ | with_reducible refine below_drewN ?_ _))) ((hb).mono (by (first | omega | (simp only [World.size_alloc, World.size_setCell, World.size_drew]; omega) | (simp; done) | (simp; omega)))); (try simp only [World.size_alloc, World.size_setCell, World.size_drew] at hb_z hb_c hb_f); clear hb); (have hb_k0 := hb_c (w.heap.size) 0 (by omega); simp [go_sem] at hb_k0; have hb_k1 := hb_c (w.heap.size) 1 (by omega); simp [go_sem] at hb_k1; have hb_k2 := hb_c (w.heap.size) 2 (by omega); simp [go_sem] at hb_k2; have hb_k3 := hb_c (w.heap.size) 3 (by omega); simp [go_sem] at hb_k3)) | (go_at_call 97; refine (rform_any x.code hc _).mono ?_; rw [HF.out]; rintro e w'' ⟨rfl, hd⟩; (obtain ⟨hd_c, hd_f⟩ := bcell hd; have hd_z := (hd).size; have hd_0 : Below w.heap.size w _ := Below.trans (by (repeat (first | with_reducible exact Below.refl _ _ | with_reducible assumption | ((with_reducible refine Below.setCell ?_ ?hp _); case hp => (first | omega | (simp only [World.size_alloc, World.size_setCell, World.size_drew]; omega) | (simp; done) | (simp; omega))) | ((with_reducible refine Below.alloc ?_ ?hp _); case hp => (first | omega | (simp only [World.size_alloc, World.size_setCell, World.size_drew]; omega) | (simp; done) | (simp; omega))) | with_reducible refine Below.drew ?_ | with_reducible refine below_drewN ?_ _))) ((hd).mono (by (first | omega | (simp only [World.size_alloc, World.size_setCell, World.size_drew]; omega) | (simp; done) | (simp; omega)))); (try simp only [World.size_alloc, World.size_setCell, World.size_drew] at hd_z hd_c hd_f); clear hd); have hd_k1 := (hd_c w.heap.size 1 (by omega)).trans hb_k1; have hd_k2 := (hd_c w.heap.size 2 (by omega)).trans hb_k2; have hd_k3 := (hd_c w.heap.size 3 (by omega)).trans hb_k3))
  all_goals
    go_ret
    go_light
    refine ⟨?_, by (repeat (first | with_reducible exact Below.refl _ _ | with_reducible assumption | ((with_reducible refine Below.setCell ?_ ?hp _); case hp => (first | omega | (simp only [World.size_alloc, World.size_setCell, World.size_drew]; omega) | (simp; done) | (simp; omega))) | ((with_reducible refine Below.alloc ?_ ?hp _); case hp => (first | omega | (simp only [World.size_alloc, World.size_setCell, World.size_drew]; omega) | (simp; done) | (simp; omega))) | with_reducible refine Below.drew ?_ | with_reducible refine below_drewN ?_ _))⟩
    simp only [beq_iff_eq, beq_eq_false_iff_ne, ne_eq, decide_eq_true_eq, decide_eq_false_iff_not, Bool.not_eq_true', Bool.not_eq_false'] at *
    first
      | rfl
      | (show Ending.returned (.int .i64 _) = .returned (.int .i64 (one x i n))
         congr 2
         unfold one
         rw [HF.out, hBe.out]
         have hcc := HC.out
         repeat (first | rw [if_pos (by omega)] | rw [if_neg (by omega)]))

set_option maxHeartbeats 400000 in
theorem rone_f0n (x : Insn) (hx : x.Ok) (i n : Nat) (w : World) (hn : n ≤ 1000000) (hi : i ≤ 1000000) (hf : form x.code = 0) (hcc : x.code ≠ 32 ∧ x.code ≠ 52 ∧ x.code ≠ 100 ∧ x.code ≠ 116) (hbh : ¬ i + 1 < n) :
    Calls Try.prog 57 #[(Value.agg #[.int .u16 x.code, .int .u8 x.jt, .int .u8 x.jf, .int .u32 x.k]), .int .i64 i, .int .i64 n] w fun e w' => e = .returned (.int .i64 (one x i n)) ∧ Below w.heap.size w w' := by
  have hc := hx.code
  have hk := hx.k
  have hjt := hx.jt
  have hjf := hx.jf
  have hBe := Lib.hid (show behind i n = 0 by unfold behind; rw [if_neg hbh])
  have HF := Lib.hid hf
  obtain ⟨q1, q2, q3, q4⟩ := name_tests x.code hc hcc
  have HC := Lib.hid hcc
  clear hf hcc
  go_enter Try.func57, Try.ntmps57
  go_wp2_with (first | (go_at_call 69; refine (rname_any x.code hc _).mono ?_; rw [HF.out]; rintro e w' ⟨rfl, hb⟩; (obtain ⟨hb_c, hb_f⟩ := bcell hb; have hb_z := (hb).size; have hb_0 : Below w.heap.size w _ := Below.trans (by (repeat (first | with_reducible exact Below.refl _ _ | with_reducible assumption | ((with_reducible refine Below.setCell ?_ ?hp _); case hp => (first | omega | (simp only [World.size_alloc, World.size_setCell, World.size_drew]; omega) | (simp; done) | (simp; omega))) | ((with_reducible refine Below.alloc ?_ ?hp _); case hp => (first | omega | (simp only [World.size_alloc, World.size_setCell, World.size_drew]; omega) | (simp; done) | (simp; omega))) | with_reducible refine Below.drew ?_ | with_reducible refine below_drewN ?_ _))) ((hb).mono (by (first | omega | (simp only [World.size_alloc, World.size_setCell, World.size_drew]; omega) | (simp; done) | (simp; omega)))); (try simp only [World.size_alloc, World.size_setCell, World.size_drew] at hb_z hb_c hb_f); clear hb); (have hb_k0 := hb_c (w.heap.size) 0 (by omega); simp [go_sem] at hb_k0; have hb_k1 := hb_c (w.heap.size) 1 (by omega); simp [go_sem] at hb_k1; have hb_k2 := hb_c (w.heap.size) 2 (by omega); simp [go_sem] at hb_k2; have hb_k3 := hb_c (w.heap.size) 3 (by omega); simp [go_sem] at hb_k3)) | (go_at_call 97; refine (rform_any x.code hc _).mono ?_; rw [HF.out]; rintro e w'' ⟨rfl, hd⟩; (obtain ⟨hd_c, hd_f⟩ := bcell hd; have hd_z := (hd).size; have hd_0 : Below w.heap.size w _ := Below.trans (by (repeat (first | with_reducible exact Below.refl _ _ | with_reducible assumption | ((with_reducible refine Below.setCell ?_ ?hp _); case hp => (first | omega | (simp only [World.size_alloc, World.size_setCell, World.size_drew]; omega) | (simp; done) | (simp; omega))) | ((with_reducible refine Below.alloc ?_ ?hp _); case hp => (first | omega | (simp only [World.size_alloc, World.size_setCell, World.size_drew]; omega) | (simp; done) | (simp; omega))) | with_reducible refine Below.drew ?_ | with_reducible refine below_drewN ?_ _))) ((hd).mono (by (first | omega | (simp only [World.size_alloc, World.size_setCell, World.size_drew]; omega) | (simp; done) | (simp; omega)))); (try simp only [World.size_alloc, World.size_setCell, World.size_drew] at hd_z hd_c hd_f); clear hd); have hd_k1 := (hd_c w.heap.size 1 (by omega)).trans hb_k1; have hd_k2 := (hd_c w.heap.size 2 (by omega)).trans hb_k2; have hd_k3 := (hd_c w.heap.size 3 (by omega)).trans hb_k3))
  all_goals
    go_ret
    go_light
    refine ⟨?_, by (repeat (first | with_reducible exact Below.refl _ _ | with_reducible assumption | ((with_reducible refine Below.setCell ?_ ?hp _); case hp => (first | omega | (simp only [World.size_alloc, World.size_setCell, World.size_drew]; omega) | (simp; done) | (simp; omega))) | ((with_reducible refine Below.alloc ?_ ?hp _); case hp => (first | omega | (simp only [World.size_alloc, World.size_setCell, World.size_drew]; omega) | (simp; done) | (simp; omega))) | with_reducible refine Below.drew ?_ | with_reducible refine below_drewN ?_ _))⟩
    simp only [beq_iff_eq, beq_eq_false_iff_ne, ne_eq, decide_eq_true_eq, decide_eq_false_iff_not, Bool.not_eq_true', Bool.not_eq_false'] at *
    first
      | rfl
      | (show Ending.returned (.int .i64 _) = .returned (.int .i64 (one x i n))
         congr 2
         unfold one
         rw [HF.out, hBe.out]
         have hcc := HC.out
         repeat (first | rw [if_pos (by omega)] | rw [if_neg (by omega)]))

set_option maxHeartbeats 400000 in
theorem rone_f1y (x : Insn) (hx : x.Ok) (i n : Nat) (w : World) (hn : n ≤ 1000000) (hi : i ≤ 1000000) (hf : form x.code = 1) (hcc : x.code ≠ 32 ∧ x.code ≠ 52 ∧ x.code ≠ 100 ∧ x.code ≠ 116) (hbh : i + 1 < n) :
    Calls Try.prog 57 #[(Value.agg #[.int .u16 x.code, .int .u8 x.jt, .int .u8 x.jf, .int .u32 x.k]), .int .i64 i, .int .i64 n] w fun e w' => e = .returned (.int .i64 (one x i n)) ∧ Below w.heap.size w w' := by
  have hc := hx.code
  have hk := hx.k
  have hjt := hx.jt
  have hjf := hx.jf
  have hBe := Lib.hid (show behind i n = n - 1 - i by unfold behind; rw [if_pos hbh])
  have HF := Lib.hid hf
  obtain ⟨q1, q2, q3, q4⟩ := name_tests x.code hc hcc
  have HC := Lib.hid hcc
  clear hf hcc
  go_enter Try.func57, Try.ntmps57
  go_wp2_with (first | (go_at_call 69; refine (rname_any x.code hc _).mono ?_; rw [HF.out]; rintro e w' ⟨rfl, hb⟩; (obtain ⟨hb_c, hb_f⟩ := bcell hb; have hb_z := (hb).size; have hb_0 : Below w.heap.size w _ := Below.trans (by (repeat (first | with_reducible exact Below.refl _ _ | with_reducible assumption | ((with_reducible refine Below.setCell ?_ ?hp _); case hp => (first | omega | (simp only [World.size_alloc, World.size_setCell, World.size_drew]; omega) | (simp; done) | (simp; omega))) | ((with_reducible refine Below.alloc ?_ ?hp _); case hp => (first | omega | (simp only [World.size_alloc, World.size_setCell, World.size_drew]; omega) | (simp; done) | (simp; omega))) | with_reducible refine Below.drew ?_ | with_reducible refine below_drewN ?_ _))) ((hb).mono (by (first | omega | (simp only [World.size_alloc, World.size_setCell, World.size_drew]; omega) | (simp; done) | (simp; omega)))); (try simp only [World.size_alloc, World.size_setCell, World.size_drew] at hb_z hb_c hb_f); clear hb); (have hb_k0 := hb_c (w.heap.size) 0 (by omega); simp [go_sem] at hb_k0; have hb_k1 := hb_c (w.heap.size) 1 (by omega); simp [go_sem] at hb_k1; have hb_k2 := hb_c (w.heap.size) 2 (by omega); simp [go_sem] at hb_k2; have hb_k3 := hb_c (w.heap.size) 3 (by omega); simp [go_sem] at hb_k3)) | (go_at_call 97; refine (rform_any x.code hc _).mono ?_; rw [HF.out]; rintro e w'' ⟨rfl, hd⟩; (obtain ⟨hd_c, hd_f⟩ := bcell hd; have hd_z := (hd).size; have hd_0 : Below w.heap.size w _ := Below.trans (by (repeat (first | with_reducible exact Below.refl _ _ | with_reducible assumption | ((with_reducible refine Below.setCell ?_ ?hp _); case hp => (first | omega | (simp only [World.size_alloc, World.size_setCell, World.size_drew]; omega) | (simp; done) | (simp; omega))) | ((with_reducible refine Below.alloc ?_ ?hp _); case hp => (first | omega | (simp only [World.size_alloc, World.size_setCell, World.size_drew]; omega) | (simp; done) | (simp; omega))) | with_reducible refine Below.drew ?_ | with_reducible refine below_drewN ?_ _))) ((hd).mono (by (first | omega | (simp only [World.size_alloc, World.size_setCell, World.size_drew]; omega) | (simp; done) | (simp; omega)))); (try simp only [World.size_alloc, World.size_setCell, World.size_drew] at hd_z hd_c hd_f); clear hd); have hd_k1 := (hd_c w.heap.size 1 (by omega)).trans hb_k1; have hd_k2 := (hd_c w.heap.size 2 (by omega)).trans hb_k2; have hd_k3 := (hd_c w.heap.size 3 (by omega)).trans hb_k3))
  all_goals
    go_ret
    go_light
    refine ⟨?_, by (repeat (first | with_reducible exact Below.refl _ _ | with_reducible assumption | ((with_reducible refine Below.setCell ?_ ?hp _); case hp => (first | omega | (simp only [World.size_alloc, World.size_setCell, World.size_drew]; omega) | (simp; done) | (simp; omega))) | ((with_reducible refine Below.alloc ?_ ?hp _); case hp => (first | omega | (simp only [World.size_alloc, World.size_setCell, World.size_drew]; omega) | (simp; done) | (simp; omega))) | with_reducible refine Below.drew ?_ | with_reducible refine below_drewN ?_ _))⟩
    simp only [beq_iff_eq, beq_eq_false_iff_ne, ne_eq, decide_eq_true_eq, decide_eq_false_iff_not, Bool.not_eq_true', Bool.not_eq_false'] at *
    first
      | rfl
      | (show Ending.returned (.int .i64 _) = .returned (.int .i64 (one x i n))
         congr 2
         unfold one
         rw [HF.out, hBe.out]
         have hcc := HC.out
         repeat (first | rw [if_pos (by omega)] | rw [if_neg (by omega)]))

set_option maxHeartbeats 400000 in
theorem rone_f1n (x : Insn) (hx : x.Ok) (i n : Nat) (w : World) (hn : n ≤ 1000000) (hi : i ≤ 1000000) (hf : form x.code = 1) (hcc : x.code ≠ 32 ∧ x.code ≠ 52 ∧ x.code ≠ 100 ∧ x.code ≠ 116) (hbh : ¬ i + 1 < n) :
    Calls Try.prog 57 #[(Value.agg #[.int .u16 x.code, .int .u8 x.jt, .int .u8 x.jf, .int .u32 x.k]), .int .i64 i, .int .i64 n] w fun e w' => e = .returned (.int .i64 (one x i n)) ∧ Below w.heap.size w w' := by
  have hc := hx.code
  have hk := hx.k
  have hjt := hx.jt
  have hjf := hx.jf
  have hBe := Lib.hid (show behind i n = 0 by unfold behind; rw [if_neg hbh])
  have HF := Lib.hid hf
  obtain ⟨q1, q2, q3, q4⟩ := name_tests x.code hc hcc
  have HC := Lib.hid hcc
  clear hf hcc
  go_enter Try.func57, Try.ntmps57
  go_wp2_with (first | (go_at_call 69; refine (rname_any x.code hc _).mono ?_; rw [HF.out]; rintro e w' ⟨rfl, hb⟩; (obtain ⟨hb_c, hb_f⟩ := bcell hb; have hb_z := (hb).size; have hb_0 : Below w.heap.size w _ := Below.trans (by (repeat (first | with_reducible exact Below.refl _ _ | with_reducible assumption | ((with_reducible refine Below.setCell ?_ ?hp _); case hp => (first | omega | (simp only [World.size_alloc, World.size_setCell, World.size_drew]; omega) | (simp; done) | (simp; omega))) | ((with_reducible refine Below.alloc ?_ ?hp _); case hp => (first | omega | (simp only [World.size_alloc, World.size_setCell, World.size_drew]; omega) | (simp; done) | (simp; omega))) | with_reducible refine Below.drew ?_ | with_reducible refine below_drewN ?_ _))) ((hb).mono (by (first | omega | (simp only [World.size_alloc, World.size_setCell, World.size_drew]; omega) | (simp; done) | (simp; omega)))); (try simp only [World.size_alloc, World.size_setCell, World.size_drew] at hb_z hb_c hb_f); clear hb); (have hb_k0 := hb_c (w.heap.size) 0 (by omega); simp [go_sem] at hb_k0; have hb_k1 := hb_c (w.heap.size) 1 (by omega); simp [go_sem] at hb_k1; have hb_k2 := hb_c (w.heap.size) 2 (by omega); simp [go_sem] at hb_k2; have hb_k3 := hb_c (w.heap.size) 3 (by omega); simp [go_sem] at hb_k3)) | (go_at_call 97; refine (rform_any x.code hc _).mono ?_; rw [HF.out]; rintro e w'' ⟨rfl, hd⟩; (obtain ⟨hd_c, hd_f⟩ := bcell hd; have hd_z := (hd).size; have hd_0 : Below w.heap.size w _ := Below.trans (by (repeat (first | with_reducible exact Below.refl _ _ | with_reducible assumption | ((with_reducible refine Below.setCell ?_ ?hp _); case hp => (first | omega | (simp only [World.size_alloc, World.size_setCell, World.size_drew]; omega) | (simp; done) | (simp; omega))) | ((with_reducible refine Below.alloc ?_ ?hp _); case hp => (first | omega | (simp only [World.size_alloc, World.size_setCell, World.size_drew]; omega) | (simp; done) | (simp; omega))) | with_reducible refine Below.drew ?_ | with_reducible refine below_drewN ?_ _))) ((hd).mono (by (first | omega | (simp only [World.size_alloc, World.size_setCell, World.size_drew]; omega) | (simp; done) | (simp; omega)))); (try simp only [World.size_alloc, World.size_setCell, World.size_drew] at hd_z hd_c hd_f); clear hd); have hd_k1 := (hd_c w.heap.size 1 (by omega)).trans hb_k1; have hd_k2 := (hd_c w.heap.size 2 (by omega)).trans hb_k2; have hd_k3 := (hd_c w.heap.size 3 (by omega)).trans hb_k3))
  all_goals
    go_ret
    go_light
    refine ⟨?_, by (repeat (first | with_reducible exact Below.refl _ _ | with_reducible assumption | ((with_reducible refine Below.setCell ?_ ?hp _); case hp => (first | omega | (simp only [World.size_alloc, World.size_setCell, World.size_drew]; omega) | (simp; done) | (simp; omega))) | ((with_reducible refine Below.alloc ?_ ?hp _); case hp => (first | omega | (simp only [World.size_alloc, World.size_setCell, World.size_drew]; omega) | (simp; done) | (simp; omega))) | with_reducible refine Below.drew ?_ | with_reducible refine below_drewN ?_ _))⟩
    simp only [beq_iff_eq, beq_eq_false_iff_ne, ne_eq, decide_eq_true_eq, decide_eq_false_iff_not, Bool.not_eq_true', Bool.not_eq_false'] at *
    first
      | rfl
      | (show Ending.returned (.int .i64 _) = .returned (.int .i64 (one x i n))
         congr 2
         unfold one
         rw [HF.out, hBe.out]
         have hcc := HC.out
         repeat (first | rw [if_pos (by omega)] | rw [if_neg (by omega)]))

set_option maxHeartbeats 400000 in
theorem rone_f2y (x : Insn) (hx : x.Ok) (i n : Nat) (w : World) (hn : n ≤ 1000000) (hi : i ≤ 1000000) (hf : form x.code = 2) (hcc : x.code ≠ 32 ∧ x.code ≠ 52 ∧ x.code ≠ 100 ∧ x.code ≠ 116) (hbh : i + 1 < n) :
    Calls Try.prog 57 #[(Value.agg #[.int .u16 x.code, .int .u8 x.jt, .int .u8 x.jf, .int .u32 x.k]), .int .i64 i, .int .i64 n] w fun e w' => e = .returned (.int .i64 (one x i n)) ∧ Below w.heap.size w w' := by
  have hc := hx.code
  have hk := hx.k
  have hjt := hx.jt
  have hjf := hx.jf
  have hBe := Lib.hid (show behind i n = n - 1 - i by unfold behind; rw [if_pos hbh])
  have HF := Lib.hid hf
  obtain ⟨q1, q2, q3, q4⟩ := name_tests x.code hc hcc
  have HC := Lib.hid hcc
  clear hf hcc
  go_enter Try.func57, Try.ntmps57
  go_wp2_with (first | (go_at_call 69; refine (rname_any x.code hc _).mono ?_; rw [HF.out]; rintro e w' ⟨rfl, hb⟩; (obtain ⟨hb_c, hb_f⟩ := bcell hb; have hb_z := (hb).size; have hb_0 : Below w.heap.size w _ := Below.trans (by (repeat (first | with_reducible exact Below.refl _ _ | with_reducible assumption | ((with_reducible refine Below.setCell ?_ ?hp _); case hp => (first | omega | (simp only [World.size_alloc, World.size_setCell, World.size_drew]; omega) | (simp; done) | (simp; omega))) | ((with_reducible refine Below.alloc ?_ ?hp _); case hp => (first | omega | (simp only [World.size_alloc, World.size_setCell, World.size_drew]; omega) | (simp; done) | (simp; omega))) | with_reducible refine Below.drew ?_ | with_reducible refine below_drewN ?_ _))) ((hb).mono (by (first | omega | (simp only [World.size_alloc, World.size_setCell, World.size_drew]; omega) | (simp; done) | (simp; omega)))); (try simp only [World.size_alloc, World.size_setCell, World.size_drew] at hb_z hb_c hb_f); clear hb); (have hb_k0 := hb_c (w.heap.size) 0 (by omega); simp [go_sem] at hb_k0; have hb_k1 := hb_c (w.heap.size) 1 (by omega); simp [go_sem] at hb_k1; have hb_k2 := hb_c (w.heap.size) 2 (by omega); simp [go_sem] at hb_k2; have hb_k3 := hb_c (w.heap.size) 3 (by omega); simp [go_sem] at hb_k3)) | (go_at_call 97; refine (rform_any x.code hc _).mono ?_; rw [HF.out]; rintro e w'' ⟨rfl, hd⟩; (obtain ⟨hd_c, hd_f⟩ := bcell hd; have hd_z := (hd).size; have hd_0 : Below w.heap.size w _ := Below.trans (by (repeat (first | with_reducible exact Below.refl _ _ | with_reducible assumption | ((with_reducible refine Below.setCell ?_ ?hp _); case hp => (first | omega | (simp only [World.size_alloc, World.size_setCell, World.size_drew]; omega) | (simp; done) | (simp; omega))) | ((with_reducible refine Below.alloc ?_ ?hp _); case hp => (first | omega | (simp only [World.size_alloc, World.size_setCell, World.size_drew]; omega) | (simp; done) | (simp; omega))) | with_reducible refine Below.drew ?_ | with_reducible refine below_drewN ?_ _))) ((hd).mono (by (first | omega | (simp only [World.size_alloc, World.size_setCell, World.size_drew]; omega) | (simp; done) | (simp; omega)))); (try simp only [World.size_alloc, World.size_setCell, World.size_drew] at hd_z hd_c hd_f); clear hd); have hd_k1 := (hd_c w.heap.size 1 (by omega)).trans hb_k1; have hd_k2 := (hd_c w.heap.size 2 (by omega)).trans hb_k2; have hd_k3 := (hd_c w.heap.size 3 (by omega)).trans hb_k3))
  all_goals
    go_ret
    go_light
    refine ⟨?_, by (repeat (first | with_reducible exact Below.refl _ _ | with_reducible assumption | ((with_reducible refine Below.setCell ?_ ?hp _); case hp => (first | omega | (simp only [World.size_alloc, World.size_setCell, World.size_drew]; omega) | (simp; done) | (simp; omega))) | ((with_reducible refine Below.alloc ?_ ?hp _); case hp => (first | omega | (simp only [World.size_alloc, World.size_setCell, World.size_drew]; omega) | (simp; done) | (simp; omega))) | with_reducible refine Below.drew ?_ | with_reducible refine below_drewN ?_ _))⟩
    simp only [beq_iff_eq, beq_eq_false_iff_ne, ne_eq, decide_eq_true_eq, decide_eq_false_iff_not, Bool.not_eq_true', Bool.not_eq_false'] at *
    first
      | rfl
      | (show Ending.returned (.int .i64 _) = .returned (.int .i64 (one x i n))
         congr 2
         unfold one
         rw [HF.out, hBe.out]
         have hcc := HC.out
         repeat (first | rw [if_pos (by omega)] | rw [if_neg (by omega)]))

set_option maxHeartbeats 400000 in
theorem rone_f2n (x : Insn) (hx : x.Ok) (i n : Nat) (w : World) (hn : n ≤ 1000000) (hi : i ≤ 1000000) (hf : form x.code = 2) (hcc : x.code ≠ 32 ∧ x.code ≠ 52 ∧ x.code ≠ 100 ∧ x.code ≠ 116) (hbh : ¬ i + 1 < n) :
    Calls Try.prog 57 #[(Value.agg #[.int .u16 x.code, .int .u8 x.jt, .int .u8 x.jf, .int .u32 x.k]), .int .i64 i, .int .i64 n] w fun e w' => e = .returned (.int .i64 (one x i n)) ∧ Below w.heap.size w w' := by
  have hc := hx.code
  have hk := hx.k
  have hjt := hx.jt
  have hjf := hx.jf
  have hBe := Lib.hid (show behind i n = 0 by unfold behind; rw [if_neg hbh])
  have HF := Lib.hid hf
  obtain ⟨q1, q2, q3, q4⟩ := name_tests x.code hc hcc
  have HC := Lib.hid hcc
  clear hf hcc
  go_enter Try.func57, Try.ntmps57
  go_wp2_with (first | (go_at_call 69; refine (rname_any x.code hc _).mono ?_; rw [HF.out]; rintro e w' ⟨rfl, hb⟩; (obtain ⟨hb_c, hb_f⟩ := bcell hb; have hb_z := (hb).size; have hb_0 : Below w.heap.size w _ := Below.trans (by (repeat (first | with_reducible exact Below.refl _ _ | with_reducible assumption | ((with_reducible refine Below.setCell ?_ ?hp _); case hp => (first | omega | (simp only [World.size_alloc, World.size_setCell, World.size_drew]; omega) | (simp; done) | (simp; omega))) | ((with_reducible refine Below.alloc ?_ ?hp _); case hp => (first | omega | (simp only [World.size_alloc, World.size_setCell, World.size_drew]; omega) | (simp; done) | (simp; omega))) | with_reducible refine Below.drew ?_ | with_reducible refine below_drewN ?_ _))) ((hb).mono (by (first | omega | (simp only [World.size_alloc, World.size_setCell, World.size_drew]; omega) | (simp; done) | (simp; omega)))); (try simp only [World.size_alloc, World.size_setCell, World.size_drew] at hb_z hb_c hb_f); clear hb); (have hb_k0 := hb_c (w.heap.size) 0 (by omega); simp [go_sem] at hb_k0; have hb_k1 := hb_c (w.heap.size) 1 (by omega); simp [go_sem] at hb_k1; have hb_k2 := hb_c (w.heap.size) 2 (by omega); simp [go_sem] at hb_k2; have hb_k3 := hb_c (w.heap.size) 3 (by omega); simp [go_sem] at hb_k3)) | (go_at_call 97; refine (rform_any x.code hc _).mono ?_; rw [HF.out]; rintro e w'' ⟨rfl, hd⟩; (obtain ⟨hd_c, hd_f⟩ := bcell hd; have hd_z := (hd).size; have hd_0 : Below w.heap.size w _ := Below.trans (by (repeat (first | with_reducible exact Below.refl _ _ | with_reducible assumption | ((with_reducible refine Below.setCell ?_ ?hp _); case hp => (first | omega | (simp only [World.size_alloc, World.size_setCell, World.size_drew]; omega) | (simp; done) | (simp; omega))) | ((with_reducible refine Below.alloc ?_ ?hp _); case hp => (first | omega | (simp only [World.size_alloc, World.size_setCell, World.size_drew]; omega) | (simp; done) | (simp; omega))) | with_reducible refine Below.drew ?_ | with_reducible refine below_drewN ?_ _))) ((hd).mono (by (first | omega | (simp only [World.size_alloc, World.size_setCell, World.size_drew]; omega) | (simp; done) | (simp; omega)))); (try simp only [World.size_alloc, World.size_setCell, World.size_drew] at hd_z hd_c hd_f); clear hd); have hd_k1 := (hd_c w.heap.size 1 (by omega)).trans hb_k1; have hd_k2 := (hd_c w.heap.size 2 (by omega)).trans hb_k2; have hd_k3 := (hd_c w.heap.size 3 (by omega)).trans hb_k3))
  all_goals
    go_ret
    go_light
    refine ⟨?_, by (repeat (first | with_reducible exact Below.refl _ _ | with_reducible assumption | ((with_reducible refine Below.setCell ?_ ?hp _); case hp => (first | omega | (simp only [World.size_alloc, World.size_setCell, World.size_drew]; omega) | (simp; done) | (simp; omega))) | ((with_reducible refine Below.alloc ?_ ?hp _); case hp => (first | omega | (simp only [World.size_alloc, World.size_setCell, World.size_drew]; omega) | (simp; done) | (simp; omega))) | with_reducible refine Below.drew ?_ | with_reducible refine below_drewN ?_ _))⟩
    simp only [beq_iff_eq, beq_eq_false_iff_ne, ne_eq, decide_eq_true_eq, decide_eq_false_iff_not, Bool.not_eq_true', Bool.not_eq_false'] at *
    first
      | rfl
      | (show Ending.returned (.int .i64 _) = .returned (.int .i64 (one x i n))
         congr 2
         unfold one
         rw [HF.out, hBe.out]
         have hcc := HC.out
         repeat (first | rw [if_pos (by omega)] | rw [if_neg (by omega)]))

set_option maxHeartbeats 400000 in
theorem rone_f3y (x : Insn) (hx : x.Ok) (i n : Nat) (w : World) (hn : n ≤ 1000000) (hi : i ≤ 1000000) (hf : form x.code = 3) (hcc : x.code ≠ 32 ∧ x.code ≠ 52 ∧ x.code ≠ 100 ∧ x.code ≠ 116) (hbh : i + 1 < n) :
    Calls Try.prog 57 #[(Value.agg #[.int .u16 x.code, .int .u8 x.jt, .int .u8 x.jf, .int .u32 x.k]), .int .i64 i, .int .i64 n] w fun e w' => e = .returned (.int .i64 (one x i n)) ∧ Below w.heap.size w w' := by
  have hc := hx.code
  have hk := hx.k
  have hjt := hx.jt
  have hjf := hx.jf
  have hBe := Lib.hid (show behind i n = n - 1 - i by unfold behind; rw [if_pos hbh])
  have HF := Lib.hid hf
  obtain ⟨q1, q2, q3, q4⟩ := name_tests x.code hc hcc
  have HC := Lib.hid hcc
  clear hf hcc
  go_enter Try.func57, Try.ntmps57
  go_wp2_with (first | (go_at_call 69; refine (rname_any x.code hc _).mono ?_; rw [HF.out]; rintro e w' ⟨rfl, hb⟩; (obtain ⟨hb_c, hb_f⟩ := bcell hb; have hb_z := (hb).size; have hb_0 : Below w.heap.size w _ := Below.trans (by (repeat (first | with_reducible exact Below.refl _ _ | with_reducible assumption | ((with_reducible refine Below.setCell ?_ ?hp _); case hp => (first | omega | (simp only [World.size_alloc, World.size_setCell, World.size_drew]; omega) | (simp; done) | (simp; omega))) | ((with_reducible refine Below.alloc ?_ ?hp _); case hp => (first | omega | (simp only [World.size_alloc, World.size_setCell, World.size_drew]; omega) | (simp; done) | (simp; omega))) | with_reducible refine Below.drew ?_ | with_reducible refine below_drewN ?_ _))) ((hb).mono (by (first | omega | (simp only [World.size_alloc, World.size_setCell, World.size_drew]; omega) | (simp; done) | (simp; omega)))); (try simp only [World.size_alloc, World.size_setCell, World.size_drew] at hb_z hb_c hb_f); clear hb); (have hb_k0 := hb_c (w.heap.size) 0 (by omega); simp [go_sem] at hb_k0; have hb_k1 := hb_c (w.heap.size) 1 (by omega); simp [go_sem] at hb_k1; have hb_k2 := hb_c (w.heap.size) 2 (by omega); simp [go_sem] at hb_k2; have hb_k3 := hb_c (w.heap.size) 3 (by omega); simp [go_sem] at hb_k3)) | (go_at_call 97; refine (rform_any x.code hc _).mono ?_; rw [HF.out]; rintro e w'' ⟨rfl, hd⟩; (obtain ⟨hd_c, hd_f⟩ := bcell hd; have hd_z := (hd).size; have hd_0 : Below w.heap.size w _ := Below.trans (by (repeat (first | with_reducible exact Below.refl _ _ | with_reducible assumption | ((with_reducible refine Below.setCell ?_ ?hp _); case hp => (first | omega | (simp only [World.size_alloc, World.size_setCell, World.size_drew]; omega) | (simp; done) | (simp; omega))) | ((with_reducible refine Below.alloc ?_ ?hp _); case hp => (first | omega | (simp only [World.size_alloc, World.size_setCell, World.size_drew]; omega) | (simp; done) | (simp; omega))) | with_reducible refine Below.drew ?_ | with_reducible refine below_drewN ?_ _))) ((hd).mono (by (first | omega | (simp only [World.size_alloc, World.size_setCell, World.size_drew]; omega) | (simp; done) | (simp; omega)))); (try simp only [World.size_alloc, World.size_setCell, World.size_drew] at hd_z hd_c hd_f); clear hd); have hd_k1 := (hd_c w.heap.size 1 (by omega)).trans hb_k1; have hd_k2 := (hd_c w.heap.size 2 (by omega)).trans hb_k2; have hd_k3 := (hd_c w.heap.size 3 (by omega)).trans hb_k3))
  all_goals
    go_ret
    go_light
    refine ⟨?_, by (repeat (first | with_reducible exact Below.refl _ _ | with_reducible assumption | ((with_reducible refine Below.setCell ?_ ?hp _); case hp => (first | omega | (simp only [World.size_alloc, World.size_setCell, World.size_drew]; omega) | (simp; done) | (simp; omega))) | ((with_reducible refine Below.alloc ?_ ?hp _); case hp => (first | omega | (simp only [World.size_alloc, World.size_setCell, World.size_drew]; omega) | (simp; done) | (simp; omega))) | with_reducible refine Below.drew ?_ | with_reducible refine below_drewN ?_ _))⟩
    simp only [beq_iff_eq, beq_eq_false_iff_ne, ne_eq, decide_eq_true_eq, decide_eq_false_iff_not, Bool.not_eq_true', Bool.not_eq_false'] at *
    first
      | rfl
      | (show Ending.returned (.int .i64 _) = .returned (.int .i64 (one x i n))
         congr 2
         unfold one
         rw [HF.out, hBe.out]
         have hcc := HC.out
         repeat (first | rw [if_pos (by omega)] | rw [if_neg (by omega)]))

set_option maxHeartbeats 400000 in
theorem rone_f3n (x : Insn) (hx : x.Ok) (i n : Nat) (w : World) (hn : n ≤ 1000000) (hi : i ≤ 1000000) (hf : form x.code = 3) (hcc : x.code ≠ 32 ∧ x.code ≠ 52 ∧ x.code ≠ 100 ∧ x.code ≠ 116) (hbh : ¬ i + 1 < n) :
    Calls Try.prog 57 #[(Value.agg #[.int .u16 x.code, .int .u8 x.jt, .int .u8 x.jf, .int .u32 x.k]), .int .i64 i, .int .i64 n] w fun e w' => e = .returned (.int .i64 (one x i n)) ∧ Below w.heap.size w w' := by
  have hc := hx.code
  have hk := hx.k
  have hjt := hx.jt
  have hjf := hx.jf
  have hBe := Lib.hid (show behind i n = 0 by unfold behind; rw [if_neg hbh])
  have HF := Lib.hid hf
  obtain ⟨q1, q2, q3, q4⟩ := name_tests x.code hc hcc
  have HC := Lib.hid hcc
  clear hf hcc
  go_enter Try.func57, Try.ntmps57
  go_wp2_with (first | (go_at_call 69; refine (rname_any x.code hc _).mono ?_; rw [HF.out]; rintro e w' ⟨rfl, hb⟩; (obtain ⟨hb_c, hb_f⟩ := bcell hb; have hb_z := (hb).size; have hb_0 : Below w.heap.size w _ := Below.trans (by (repeat (first | with_reducible exact Below.refl _ _ | with_reducible assumption | ((with_reducible refine Below.setCell ?_ ?hp _); case hp => (first | omega | (simp only [World.size_alloc, World.size_setCell, World.size_drew]; omega) | (simp; done) | (simp; omega))) | ((with_reducible refine Below.alloc ?_ ?hp _); case hp => (first | omega | (simp only [World.size_alloc, World.size_setCell, World.size_drew]; omega) | (simp; done) | (simp; omega))) | with_reducible refine Below.drew ?_ | with_reducible refine below_drewN ?_ _))) ((hb).mono (by (first | omega | (simp only [World.size_alloc, World.size_setCell, World.size_drew]; omega) | (simp; done) | (simp; omega)))); (try simp only [World.size_alloc, World.size_setCell, World.size_drew] at hb_z hb_c hb_f); clear hb); (have hb_k0 := hb_c (w.heap.size) 0 (by omega); simp [go_sem] at hb_k0; have hb_k1 := hb_c (w.heap.size) 1 (by omega); simp [go_sem] at hb_k1; have hb_k2 := hb_c (w.heap.size) 2 (by omega); simp [go_sem] at hb_k2; have hb_k3 := hb_c (w.heap.size) 3 (by omega); simp [go_sem] at hb_k3)) | (go_at_call 97; refine (rform_any x.code hc _).mono ?_; rw [HF.out]; rintro e w'' ⟨rfl, hd⟩; (obtain ⟨hd_c, hd_f⟩ := bcell hd; have hd_z := (hd).size; have hd_0 : Below w.heap.size w _ := Below.trans (by (repeat (first | with_reducible exact Below.refl _ _ | with_reducible assumption | ((with_reducible refine Below.setCell ?_ ?hp _); case hp => (first | omega | (simp only [World.size_alloc, World.size_setCell, World.size_drew]; omega) | (simp; done) | (simp; omega))) | ((with_reducible refine Below.alloc ?_ ?hp _); case hp => (first | omega | (simp only [World.size_alloc, World.size_setCell, World.size_drew]; omega) | (simp; done) | (simp; omega))) | with_reducible refine Below.drew ?_ | with_reducible refine below_drewN ?_ _))) ((hd).mono (by (first | omega | (simp only [World.size_alloc, World.size_setCell, World.size_drew]; omega) | (simp; done) | (simp; omega)))); (try simp only [World.size_alloc, World.size_setCell, World.size_drew] at hd_z hd_c hd_f); clear hd); have hd_k1 := (hd_c w.heap.size 1 (by omega)).trans hb_k1; have hd_k2 := (hd_c w.heap.size 2 (by omega)).trans hb_k2; have hd_k3 := (hd_c w.heap.size 3 (by omega)).trans hb_k3))
  all_goals
    go_ret
    go_light
    refine ⟨?_, by (repeat (first | with_reducible exact Below.refl _ _ | with_reducible assumption | ((with_reducible refine Below.setCell ?_ ?hp _); case hp => (first | omega | (simp only [World.size_alloc, World.size_setCell, World.size_drew]; omega) | (simp; done) | (simp; omega))) | ((with_reducible refine Below.alloc ?_ ?hp _); case hp => (first | omega | (simp only [World.size_alloc, World.size_setCell, World.size_drew]; omega) | (simp; done) | (simp; omega))) | with_reducible refine Below.drew ?_ | with_reducible refine below_drewN ?_ _))⟩
    simp only [beq_iff_eq, beq_eq_false_iff_ne, ne_eq, decide_eq_true_eq, decide_eq_false_iff_not, Bool.not_eq_true', Bool.not_eq_false'] at *
    first
      | rfl
      | (show Ending.returned (.int .i64 _) = .returned (.int .i64 (one x i n))
         congr 2
         unfold one
         rw [HF.out, hBe.out]
         have hcc := HC.out
         repeat (first | rw [if_pos (by omega)] | rw [if_neg (by omega)]))

set_option maxHeartbeats 400000 in
theorem rone_f4y (x : Insn) (hx : x.Ok) (i n : Nat) (w : World) (hn : n ≤ 1000000) (hi : i ≤ 1000000) (hf : form x.code = 4) (hcc : x.code ≠ 32 ∧ x.code ≠ 52 ∧ x.code ≠ 100 ∧ x.code ≠ 116) (hbh : i + 1 < n) :
    Calls Try.prog 57 #[(Value.agg #[.int .u16 x.code, .int .u8 x.jt, .int .u8 x.jf, .int .u32 x.k]), .int .i64 i, .int .i64 n] w fun e w' => e = .returned (.int .i64 (one x i n)) ∧ Below w.heap.size w w' := by
  have hc := hx.code
  have hk := hx.k
  have hjt := hx.jt
  have hjf := hx.jf
  have hBe := Lib.hid (show behind i n = n - 1 - i by unfold behind; rw [if_pos hbh])
  have HF := Lib.hid hf
  obtain ⟨q1, q2, q3, q4⟩ := name_tests x.code hc hcc
  have HC := Lib.hid hcc
  clear hf hcc
  go_enter Try.func57, Try.ntmps57
  go_wp2_with (first | (go_at_call 69; refine (rname_any x.code hc _).mono ?_; rw [HF.out]; rintro e w' ⟨rfl, hb⟩; (obtain ⟨hb_c, hb_f⟩ := bcell hb; have hb_z := (hb).size; have hb_0 : Below w.heap.size w _ := Below.trans (by (repeat (first | with_reducible exact Below.refl _ _ | with_reducible assumption | ((with_reducible refine Below.setCell ?_ ?hp _); case hp => (first | omega | (simp only [World.size_alloc, World.size_setCell, World.size_drew]; omega) | (simp; done) | (simp; omega))) | ((with_reducible refine Below.alloc ?_ ?hp _); case hp => (first | omega | (simp only [World.size_alloc, World.size_setCell, World.size_drew]; omega) | (simp; done) | (simp; omega))) | with_reducible refine Below.drew ?_ | with_reducible refine below_drewN ?_ _))) ((hb).mono (by (first | omega | (simp only [World.size_alloc, World.size_setCell, World.size_drew]; omega) | (simp; done) | (simp; omega)))); (try simp only [World.size_alloc, World.size_setCell, World.size_drew] at hb_z hb_c hb_f); clear hb); (have hb_k0 := hb_c (w.heap.size) 0 (by omega); simp [go_sem] at hb_k0; have hb_k1 := hb_c (w.heap.size) 1 (by omega); simp [go_sem] at hb_k1; have hb_k2 := hb_c (w.heap.size) 2 (by omega); simp [go_sem] at hb_k2; have hb_k3 := hb_c (w.heap.size) 3 (by omega); simp [go_sem] at hb_k3)) | (go_at_call 97; refine (rform_any x.code hc _).mono ?_; rw [HF.out]; rintro e w'' ⟨rfl, hd⟩; (obtain ⟨hd_c, hd_f⟩ := bcell hd; have hd_z := (hd).size; have hd_0 : Below w.heap.size w _ := Below.trans (by (repeat (first | with_reducible exact Below.refl _ _ | with_reducible assumption | ((with_reducible refine Below.setCell ?_ ?hp _); case hp => (first | omega | (simp only [World.size_alloc, World.size_setCell, World.size_drew]; omega) | (simp; done) | (simp; omega))) | ((with_reducible refine Below.alloc ?_ ?hp _); case hp => (first | omega | (simp only [World.size_alloc, World.size_setCell, World.size_drew]; omega) | (simp; done) | (simp; omega))) | with_reducible refine Below.drew ?_ | with_reducible refine below_drewN ?_ _))) ((hd).mono (by (first | omega | (simp only [World.size_alloc, World.size_setCell, World.size_drew]; omega) | (simp; done) | (simp; omega)))); (try simp only [World.size_alloc, World.size_setCell, World.size_drew] at hd_z hd_c hd_f); clear hd); have hd_k1 := (hd_c w.heap.size 1 (by omega)).trans hb_k1; have hd_k2 := (hd_c w.heap.size 2 (by omega)).trans hb_k2; have hd_k3 := (hd_c w.heap.size 3 (by omega)).trans hb_k3))
  all_goals
    go_ret
    go_light
    refine ⟨?_, by (repeat (first | with_reducible exact Below.refl _ _ | with_reducible assumption | ((with_reducible refine Below.setCell ?_ ?hp _); case hp => (first | omega | (simp only [World.size_alloc, World.size_setCell, World.size_drew]; omega) | (simp; done) | (simp; omega))) | ((with_reducible refine Below.alloc ?_ ?hp _); case hp => (first | omega | (simp only [World.size_alloc, World.size_setCell, World.size_drew]; omega) | (simp; done) | (simp; omega))) | with_reducible refine Below.drew ?_ | with_reducible refine below_drewN ?_ _))⟩
    simp only [beq_iff_eq, beq_eq_false_iff_ne, ne_eq, decide_eq_true_eq, decide_eq_false_iff_not, Bool.not_eq_true', Bool.not_eq_false'] at *
    first
      | rfl
      | (show Ending.returned (.int .i64 _) = .returned (.int .i64 (one x i n))
         congr 2
         unfold one
         rw [HF.out, hBe.out]
         have hcc := HC.out
         repeat (first | rw [if_pos (by omega)] | rw [if_neg (by omega)]))

set_option maxHeartbeats 400000 in
theorem rone_f4n (x : Insn) (hx : x.Ok) (i n : Nat) (w : World) (hn : n ≤ 1000000) (hi : i ≤ 1000000) (hf : form x.code = 4) (hcc : x.code ≠ 32 ∧ x.code ≠ 52 ∧ x.code ≠ 100 ∧ x.code ≠ 116) (hbh : ¬ i + 1 < n) :
    Calls Try.prog 57 #[(Value.agg #[.int .u16 x.code, .int .u8 x.jt, .int .u8 x.jf, .int .u32 x.k]), .int .i64 i, .int .i64 n] w fun e w' => e = .returned (.int .i64 (one x i n)) ∧ Below w.heap.size w w' := by
  have hc := hx.code
  have hk := hx.k
  have hjt := hx.jt
  have hjf := hx.jf
  have hBe := Lib.hid (show behind i n = 0 by unfold behind; rw [if_neg hbh])
  have HF := Lib.hid hf
  obtain ⟨q1, q2, q3, q4⟩ := name_tests x.code hc hcc
  have HC := Lib.hid hcc
  clear hf hcc
  go_enter Try.func57, Try.ntmps57
  go_wp2_with (first | (go_at_call 69; refine (rname_any x.code hc _).mono ?_; rw [HF.out]; rintro e w' ⟨rfl, hb⟩; (obtain ⟨hb_c, hb_f⟩ := bcell hb; have hb_z := (hb).size; have hb_0 : Below w.heap.size w _ := Below.trans (by (repeat (first | with_reducible exact Below.refl _ _ | with_reducible assumption | ((with_reducible refine Below.setCell ?_ ?hp _); case hp => (first | omega | (simp only [World.size_alloc, World.size_setCell, World.size_drew]; omega) | (simp; done) | (simp; omega))) | ((with_reducible refine Below.alloc ?_ ?hp _); case hp => (first | omega | (simp only [World.size_alloc, World.size_setCell, World.size_drew]; omega) | (simp; done) | (simp; omega))) | with_reducible refine Below.drew ?_ | with_reducible refine below_drewN ?_ _))) ((hb).mono (by (first | omega | (simp only [World.size_alloc, World.size_setCell, World.size_drew]; omega) | (simp; done) | (simp; omega)))); (try simp only [World.size_alloc, World.size_setCell, World.size_drew] at hb_z hb_c hb_f); clear hb); (have hb_k0 := hb_c (w.heap.size) 0 (by omega); simp [go_sem] at hb_k0; have hb_k1 := hb_c (w.heap.size) 1 (by omega); simp [go_sem] at hb_k1; have hb_k2 := hb_c (w.heap.size) 2 (by omega); simp [go_sem] at hb_k2; have hb_k3 := hb_c (w.heap.size) 3 (by omega); simp [go_sem] at hb_k3)) | (go_at_call 97; refine (rform_any x.code hc _).mono ?_; rw [HF.out]; rintro e w'' ⟨rfl, hd⟩; (obtain ⟨hd_c, hd_f⟩ := bcell hd; have hd_z := (hd).size; have hd_0 : Below w.heap.size w _ := Below.trans (by (repeat (first | with_reducible exact Below.refl _ _ | with_reducible assumption | ((with_reducible refine Below.setCell ?_ ?hp _); case hp => (first | omega | (simp only [World.size_alloc, World.size_setCell, World.size_drew]; omega) | (simp; done) | (simp; omega))) | ((with_reducible refine Below.alloc ?_ ?hp _); case hp => (first | omega | (simp only [World.size_alloc, World.size_setCell, World.size_drew]; omega) | (simp; done) | (simp; omega))) | with_reducible refine Below.drew ?_ | with_reducible refine below_drewN ?_ _))) ((hd).mono (by (first | omega | (simp only [World.size_alloc, World.size_setCell, World.size_drew]; omega) | (simp; done) | (simp; omega)))); (try simp only [World.size_alloc, World.size_setCell, World.size_drew] at hd_z hd_c hd_f); clear hd); have hd_k1 := (hd_c w.heap.size 1 (by omega)).trans hb_k1; have hd_k2 := (hd_c w.heap.size 2 (by omega)).trans hb_k2; have hd_k3 := (hd_c w.heap.size 3 (by omega)).trans hb_k3))
  all_goals
    go_ret
    go_light
    refine ⟨?_, by (repeat (first | with_reducible exact Below.refl _ _ | with_reducible assumption | ((with_reducible refine Below.setCell ?_ ?hp _); case hp => (first | omega | (simp only [World.size_alloc, World.size_setCell, World.size_drew]; omega) | (simp; done) | (simp; omega))) | ((with_reducible refine Below.alloc ?_ ?hp _); case hp => (first | omega | (simp only [World.size_alloc, World.size_setCell, World.size_drew]; omega) | (simp; done) | (simp; omega))) | with_reducible refine Below.drew ?_ | with_reducible refine below_drewN ?_ _))⟩
    simp only [beq_iff_eq, beq_eq_false_iff_ne, ne_eq, decide_eq_true_eq, decide_eq_false_iff_not, Bool.not_eq_true', Bool.not_eq_false'] at *
    first
      | rfl
      | (show Ending.returned (.int .i64 _) = .returned (.int .i64 (one x i n))
         congr 2
         unfold one
         rw [HF.out, hBe.out]
         have hcc := HC.out
         repeat (first | rw [if_pos (by omega)] | rw [if_neg (by omega)]))

set_option maxHeartbeats 400000 in
theorem rone_f5y (x : Insn) (hx : x.Ok) (i n : Nat) (w : World) (hn : n ≤ 1000000) (hi : i ≤ 1000000) (hf : form x.code = 5) (hcc : x.code ≠ 32 ∧ x.code ≠ 52 ∧ x.code ≠ 100 ∧ x.code ≠ 116) (hbh : i + 1 < n) :
    Calls Try.prog 57 #[(Value.agg #[.int .u16 x.code, .int .u8 x.jt, .int .u8 x.jf, .int .u32 x.k]), .int .i64 i, .int .i64 n] w fun e w' => e = .returned (.int .i64 (one x i n)) ∧ Below w.heap.size w w' := by
  have hc := hx.code
  have hk := hx.k
  have hjt := hx.jt
  have hjf := hx.jf
  have hBe := Lib.hid (show behind i n = n - 1 - i by unfold behind; rw [if_pos hbh])
  have HF := Lib.hid hf
  obtain ⟨q1, q2, q3, q4⟩ := name_tests x.code hc hcc
  have HC := Lib.hid hcc
  clear hf hcc
  go_enter Try.func57, Try.ntmps57
  go_wp2_with (first | (go_at_call 69; refine (rname_any x.code hc _).mono ?_; rw [HF.out]; rintro e w' ⟨rfl, hb⟩; (obtain ⟨hb_c, hb_f⟩ := bcell hb; have hb_z := (hb).size; have hb_0 : Below w.heap.size w _ := Below.trans (by (repeat (first | with_reducible exact Below.refl _ _ | with_reducible assumption | ((with_reducible refine Below.setCell ?_ ?hp _); case hp => (first | omega | (simp only [World.size_alloc, World.size_setCell, World.size_drew]; omega) | (simp; done) | (simp; omega))) | ((with_reducible refine Below.alloc ?_ ?hp _); case hp => (first | omega | (simp only [World.size_alloc, World.size_setCell, World.size_drew]; omega) | (simp; done) | (simp; omega))) | with_reducible refine Below.drew ?_ | with_reducible refine below_drewN ?_ _))) ((hb).mono (by (first | omega | (simp only [World.size_alloc, World.size_setCell, World.size_drew]; omega) | (simp; done) | (simp; omega)))); (try simp only [World.size_alloc, World.size_setCell, World.size_drew] at hb_z hb_c hb_f); clear hb); (have hb_k0 := hb_c (w.heap.size) 0 (by omega); simp [go_sem] at hb_k0; have hb_k1 := hb_c (w.heap.size) 1 (by omega); simp [go_sem] at hb_k1; have hb_k2 := hb_c (w.heap.size) 2 (by omega); simp [go_sem] at hb_k2; have hb_k3 := hb_c (w.heap.size) 3 (by omega); simp [go_sem] at hb_k3)) | (go_at_call 97; refine (rform_any x.code hc _).mono ?_; rw [HF.out]; rintro e w'' ⟨rfl, hd⟩; (obtain ⟨hd_c, hd_f⟩ := bcell hd; have hd_z := (hd).size; have hd_0 : Below w.heap.size w _ := Below.trans (by (repeat (first | with_reducible exact Below.refl _ _ | with_reducible assumption | ((with_reducible refine Below.setCell ?_ ?hp _); case hp => (first | omega | (simp only [World.size_alloc, World.size_setCell, World.size_drew]; omega) | (simp; done) | (simp; omega))) | ((with_reducible refine Below.alloc ?_ ?hp _); case hp => (first | omega | (simp only [World.size_alloc, World.size_setCell, World.size_drew]; omega) | (simp; done) | (simp; omega))) | with_reducible refine Below.drew ?_ | with_reducible refine below_drewN ?_ _))) ((hd).mono (by (first | omega | (simp only [World.size_alloc, World.size_setCell, World.size_drew]; omega) | (simp; done) | (simp; omega)))); (try simp only [World.size_alloc, World.size_setCell, World.size_drew] at hd_z hd_c hd_f); clear hd); have hd_k1 := (hd_c w.heap.size 1 (by omega)).trans hb_k1; have hd_k2 := (hd_c w.heap.size 2 (by omega)).trans hb_k2; have hd_k3 := (hd_c w.heap.size 3 (by omega)).trans hb_k3))
  all_goals
    go_ret
    go_light
    refine ⟨?_, by (repeat (first | with_reducible exact Below.refl _ _ | with_reducible assumption | ((with_reducible refine Below.setCell ?_ ?hp _); case hp => (first | omega | (simp only [World.size_alloc, World.size_setCell, World.size_drew]; omega) | (simp; done) | (simp; omega))) | ((with_reducible refine Below.alloc ?_ ?hp _); case hp => (first | omega | (simp only [World.size_alloc, World.size_setCell, World.size_drew]; omega) | (simp; done) | (simp; omega))) | with_reducible refine Below.drew ?_ | with_reducible refine below_drewN ?_ _))⟩
    simp only [beq_iff_eq, beq_eq_false_iff_ne, ne_eq, decide_eq_true_eq, decide_eq_false_iff_not, Bool.not_eq_true', Bool.not_eq_false'] at *
    first
      | rfl
      | (show Ending.returned (.int .i64 _) = .returned (.int .i64 (one x i n))
         congr 2
         unfold one
         rw [HF.out, hBe.out]
         have hcc := HC.out
         repeat (first | rw [if_pos (by omega)] | rw [if_neg (by omega)]))

set_option maxHeartbeats 400000 in
theorem rone_f5n (x : Insn) (hx : x.Ok) (i n : Nat) (w : World) (hn : n ≤ 1000000) (hi : i ≤ 1000000) (hf : form x.code = 5) (hcc : x.code ≠ 32 ∧ x.code ≠ 52 ∧ x.code ≠ 100 ∧ x.code ≠ 116) (hbh : ¬ i + 1 < n) :
    Calls Try.prog 57 #[(Value.agg #[.int .u16 x.code, .int .u8 x.jt, .int .u8 x.jf, .int .u32 x.k]), .int .i64 i, .int .i64 n] w fun e w' => e = .returned (.int .i64 (one x i n)) ∧ Below w.heap.size w w' := by
  have hc := hx.code
  have hk := hx.k
  have hjt := hx.jt
  have hjf := hx.jf
  have hBe := Lib.hid (show behind i n = 0 by unfold behind; rw [if_neg hbh])
  have HF := Lib.hid hf
  obtain ⟨q1, q2, q3, q4⟩ := name_tests x.code hc hcc
  have HC := Lib.hid hcc
  clear hf hcc
  go_enter Try.func57, Try.ntmps57
  go_wp2_with (first | (go_at_call 69; refine (rname_any x.code hc _).mono ?_; rw [HF.out]; rintro e w' ⟨rfl, hb⟩; (obtain ⟨hb_c, hb_f⟩ := bcell hb; have hb_z := (hb).size; have hb_0 : Below w.heap.size w _ := Below.trans (by (repeat (first | with_reducible exact Below.refl _ _ | with_reducible assumption | ((with_reducible refine Below.setCell ?_ ?hp _); case hp => (first | omega | (simp only [World.size_alloc, World.size_setCell, World.size_drew]; omega) | (simp; done) | (simp; omega))) | ((with_reducible refine Below.alloc ?_ ?hp _); case hp => (first | omega | (simp only [World.size_alloc, World.size_setCell, World.size_drew]; omega) | (simp; done) | (simp; omega))) | with_reducible refine Below.drew ?_ | with_reducible refine below_drewN ?_ _))) ((hb).mono (by (first | omega | (simp only [World.size_alloc, World.size_setCell, World.size_drew]; omega) | (simp; done) | (simp; omega)))); (try simp only [World.size_alloc, World.size_setCell, World.size_drew] at hb_z hb_c hb_f); clear hb); (have hb_k0 := hb_c (w.heap.size) 0 (by omega); simp [go_sem] at hb_k0; have hb_k1 := hb_c (w.heap.size) 1 (by omega); simp [go_sem] at hb_k1; have hb_k2 := hb_c (w.heap.size) 2 (by omega); simp [go_sem] at hb_k2; have hb_k3 := hb_c (w.heap.size) 3 (by omega); simp [go_sem] at hb_k3)) | (go_at_call 97; refine (rform_any x.code hc _).mono ?_; rw [HF.out]; rintro e w'' ⟨rfl, hd⟩; (obtain ⟨hd_c, hd_f⟩ := bcell hd; have hd_z := (hd).size; have hd_0 : Below w.heap.size w _ := Below.trans (by (repeat (first | with_reducible exact Below.refl _ _ | with_reducible assumption | ((with_reducible refine Below.setCell ?_ ?hp _); case hp => (first | omega | (simp only [World.size_alloc, World.size_setCell, World.size_drew]; omega) | (simp; done) | (simp; omega))) | ((with_reducible refine Below.alloc ?_ ?hp _); case hp => (first | omega | (simp only [World.size_alloc, World.size_setCell, World.size_drew]; omega) | (simp; done) | (simp; omega))) | with_reducible refine Below.drew ?_ | with_reducible refine below_drewN ?_ _))) ((hd).mono (by (first | omega | (simp only [World.size_alloc, World.size_setCell, World.size_drew]; omega) | (simp; done) | (simp; omega)))); (try simp only [World.size_alloc, World.size_setCell, World.size_drew] at hd_z hd_c hd_f); clear hd); have hd_k1 := (hd_c w.heap.size 1 (by omega)).trans hb_k1; have hd_k2 := (hd_c w.heap.size 2 (by omega)).trans hb_k2; have hd_k3 := (hd_c w.heap.size 3 (by omega)).trans hb_k3))
  all_goals
    go_ret
    go_light
    refine ⟨?_, by (repeat (first | with_reducible exact Below.refl _ _ | with_reducible assumption | ((with_reducible refine Below.setCell ?_ ?hp _); case hp => (first | omega | (simp only [World.size_alloc, World.size_setCell, World.size_drew]; omega) | (simp; done) | (simp; omega))) | ((with_reducible refine Below.alloc ?_ ?hp _); case hp => (first | omega | (simp only [World.size_alloc, World.size_setCell, World.size_drew]; omega) | (simp; done) | (simp; omega))) | with_reducible refine Below.drew ?_ | with_reducible refine below_drewN ?_ _))⟩
    simp only [beq_iff_eq, beq_eq_false_iff_ne, ne_eq, decide_eq_true_eq, decide_eq_false_iff_not, Bool.not_eq_true', Bool.not_eq_false'] at *
    first
      | rfl
      | (show Ending.returned (.int .i64 _) = .returned (.int .i64 (one x i n))
         congr 2
         unfold one
         rw [HF.out, hBe.out]
         have hcc := HC.out
         repeat (first | rw [if_pos (by omega)] | rw [if_neg (by omega)]))

set_option maxHeartbeats 400000 in
theorem rone_f6y (x : Insn) (hx : x.Ok) (i n : Nat) (w : World) (hn : n ≤ 1000000) (hi : i ≤ 1000000) (hf : form x.code = 6) (hcc : x.code ≠ 32 ∧ x.code ≠ 52 ∧ x.code ≠ 100 ∧ x.code ≠ 116) (hbh : i + 1 < n) :
    Calls Try.prog 57 #[(Value.agg #[.int .u16 x.code, .int .u8 x.jt, .int .u8 x.jf, .int .u32 x.k]), .int .i64 i, .int .i64 n] w fun e w' => e = .returned (.int .i64 (one x i n)) ∧ Below w.heap.size w w' := by
  have hc := hx.code
  have hk := hx.k
  have hjt := hx.jt
  have hjf := hx.jf
  have hBe := Lib.hid (show behind i n = n - 1 - i by unfold behind; rw [if_pos hbh])
  have HF := Lib.hid hf
  obtain ⟨q1, q2, q3, q4⟩ := name_tests x.code hc hcc
  have HC := Lib.hid hcc
  clear hf hcc
  go_enter Try.func57, Try.ntmps57
  go_wp2_with (first | (go_at_call 69; refine (rname_any x.code hc _).mono ?_; rw [HF.out]; rintro e w' ⟨rfl, hb⟩; (obtain ⟨hb_c, hb_f⟩ := bcell hb; have hb_z := (hb).size; have hb_0 : Below w.heap.size w _ := Below.trans (by (repeat (first | with_reducible exact Below.refl _ _ | with_reducible assumption | ((with_reducible refine Below.setCell ?_ ?hp _); case hp => (first | omega | (simp only [World.size_alloc, World.size_setCell, World.size_drew]; omega) | (simp; done) | (simp; omega))) | ((with_reducible refine Below.alloc ?_ ?hp _); case hp => (first | omega | (simp only [World.size_alloc, World.size_setCell, World.size_drew]; omega) | (simp; done) | (simp; omega))) | with_reducible refine Below.drew ?_ | with_reducible refine below_drewN ?_ _))) ((hb).mono (by (first | omega | (simp only [World.size_alloc, World.size_setCell, World.size_drew]; omega) | (simp; done) | (simp; omega)))); (try simp only [World.size_alloc, World.size_setCell, World.size_drew] at hb_z hb_c hb_f); clear hb); (have hb_k0 := hb_c (w.heap.size) 0 (by omega); simp [go_sem] at hb_k0; have hb_k1 := hb_c (w.heap.size) 1 (by omega); simp [go_sem] at hb_k1; have hb_k2 := hb_c (w.heap.size) 2 (by omega); simp [go_sem] at hb_k2; have hb_k3 := hb_c (w.heap.size) 3 (by omega); simp [go_sem] at hb_k3)) | (go_at_call 97; refine (rform_any x.code hc _).mono ?_; rw [HF.out]; rintro e w'' ⟨rfl, hd⟩; (obtain ⟨hd_c, hd_f⟩ := bcell hd; have hd_z := (hd).size; have hd_0 : Below w.heap.size w _ := Below.trans (by (repeat (first | with_reducible exact Below.refl _ _ | with_reducible assumption | ((with_reducible refine Below.setCell ?_ ?hp _); case hp => (first | omega | (simp only [World.size_alloc, World.size_setCell, World.size_drew]; omega) | (simp; done) | (simp; omega))) | ((with_reducible refine Below.alloc ?_ ?hp _); case hp => (first | omega | (simp only [World.size_alloc, World.size_setCell, World.size_drew]; omega) | (simp; done) | (simp; omega))) | with_reducible refine Below.drew ?_ | with_reducible refine below_drewN ?_ _))) ((hd).mono (by (first | omega | (simp only [World.size_alloc, World.size_setCell, World.size_drew]; omega) | (simp; done) | (simp; omega)))); (try simp only [World.size_alloc, World.size_setCell, World.size_drew] at hd_z hd_c hd_f); clear hd); have hd_k1 := (hd_c w.heap.size 1 (by omega)).trans hb_k1; have hd_k2 := (hd_c w.heap.size 2 (by omega)).trans hb_k2; have hd_k3 := (hd_c w.heap.size 3 (by omega)).trans hb_k3))
  all_goals
    go_ret
    go_light
    refine ⟨?_, by (repeat (first | with_reducible exact Below.refl _ _ | with_reducible assumption | ((with_reducible refine Below.setCell ?_ ?hp _); case hp => (first | omega | (simp only [World.size_alloc, World.size_setCell, World.size_drew]; omega) | (simp; done) | (simp; omega))) | ((with_reducible refine Below.alloc ?_ ?hp _); case hp => (first | omega | (simp only [World.size_alloc, World.size_setCell, World.size_drew]; omega) | (simp; done) | (simp; omega))) | with_reducible refine Below.drew ?_ | with_reducible refine below_drewN ?_ _))⟩
    simp only [beq_iff_eq, beq_eq_false_iff_ne, ne_eq, decide_eq_true_eq, decide_eq_false_iff_not, Bool.not_eq_true', Bool.not_eq_false'] at *
    first
      | rfl
      | (show Ending.returned (.int .i64 _) = .returned (.int .i64 (one x i n))
         congr 2
         unfold one
         rw [HF.out, hBe.out]
         have hcc := HC.out
         repeat (first | rw [if_pos (by omega)] | rw [if_neg (by omega)]))

set_option maxHeartbeats 400000 in
theorem rone_f6n (x : Insn) (hx : x.Ok) (i n : Nat) (w : World) (hn : n ≤ 1000000) (hi : i ≤ 1000000) (hf : form x.code = 6) (hcc : x.code ≠ 32 ∧ x.code ≠ 52 ∧ x.code ≠ 100 ∧ x.code ≠ 116) (hbh : ¬ i + 1 < n) :
    Calls Try.prog 57 #[(Value.agg #[.int .u16 x.code, .int .u8 x.jt, .int .u8 x.jf, .int .u32 x.k]), .int .i64 i, .int .i64 n] w fun e w' => e = .returned (.int .i64 (one x i n)) ∧ Below w.heap.size w w' := by
  have hc := hx.code
  have hk := hx.k
  have hjt := hx.jt
  have hjf := hx.jf
  have hBe := Lib.hid (show behind i n = 0 by unfold behind; rw [if_neg hbh])
  have HF := Lib.hid hf
  obtain ⟨q1, q2, q3, q4⟩ := name_tests x.code hc hcc
  have HC := Lib.hid hcc
  clear hf hcc
  go_enter Try.func57, Try.ntmps57
  go_wp2_with (first | (go_at_call 69; refine (rname_any x.code hc _).mono ?_; rw [HF.out]; rintro e w' ⟨rfl, hb⟩; (obtain ⟨hb_c, hb_f⟩ := bcell hb; have hb_z := (hb).size; have hb_0 : Below w.heap.size w _ := Below.trans (by (repeat (first | with_reducible exact Below.refl _ _ | with_reducible assumption | ((with_reducible refine Below.setCell ?_ ?hp _); case hp => (first | omega | (simp only [World.size_alloc, World.size_setCell, World.size_drew]; omega) | (simp; done) | (simp; omega))) | ((with_reducible refine Below.alloc ?_ ?hp _); case hp => (first | omega | (simp only [World.size_alloc, World.size_setCell, World.size_drew]; omega) | (simp; done) | (simp; omega))) | with_reducible refine Below.drew ?_ | with_reducible refine below_drewN ?_ _))) ((hb).mono (by (first | omega | (simp only [World.size_alloc, World.size_setCell, World.size_drew]; omega) | (simp; done) | (simp; omega)))); (try simp only [World.size_alloc, World.size_setCell, World.size_drew] at hb_z hb_c hb_f); clear hb); (have hb_k0 := hb_c (w.heap.size) 0 (by omega); simp [go_sem] at hb_k0; have hb_k1 := hb_c (w.heap.size) 1 (by omega); simp [go_sem] at hb_k1; have hb_k2 := hb_c (w.heap.size) 2 (by omega); simp [go_sem] at hb_k2; have hb_k3 := hb_c (w.heap.size) 3 (by omega); simp [go_sem] at hb_k3)) | (go_at_call 97; refine (rform_any x.code hc _).mono ?_; rw [HF.out]; rintro e w'' ⟨rfl, hd⟩; (obtain ⟨hd_c, hd_f⟩ := bcell hd; have hd_z := (hd).size; have hd_0 : Below w.heap.size w _ := Below.trans (by (repeat (first | with_reducible exact Below.refl _ _ | with_reducible assumption | ((with_reducible refine Below.setCell ?_ ?hp _); case hp => (first | omega | (simp only [World.size_alloc, World.size_setCell, World.size_drew]; omega) | (simp; done) | (simp; omega))) | ((with_reducible refine Below.alloc ?_ ?hp _); case hp => (first | omega | (simp only [World.size_alloc, World.size_setCell, World.size_drew]; omega) | (simp; done) | (simp; omega))) | with_reducible refine Below.drew ?_ | with_reducible refine below_drewN ?_ _))) ((hd).mono (by (first | omega | (simp only [World.size_alloc, World.size_setCell, World.size_drew]; omega) | (simp; done) | (simp; omega)))); (try simp only [World.size_alloc, World.size_setCell, World.size_drew] at hd_z hd_c hd_f); clear hd); have hd_k1 := (hd_c w.heap.size 1 (by omega)).trans hb_k1; have hd_k2 := (hd_c w.heap.size 2 (by omega)).trans hb_k2; have hd_k3 := (hd_c w.heap.size 3 (by omega)).trans hb_k3))
  all_goals
    go_ret
    go_light
    refine ⟨?_, by (repeat (first | with_reducible exact Below.refl _ _ | with_reducible assumption | ((with_reducible refine Below.setCell ?_ ?hp _); case hp => (first | omega | (simp only [World.size_alloc, World.size_setCell, World.size_drew]; omega) | (simp; done) | (simp; omega))) | ((with_reducible refine Below.alloc ?_ ?hp _); case hp => (first | omega | (simp only [World.size_alloc, World.size_setCell, World.size_drew]; omega) | (simp; done) | (simp; omega))) | with_reducible refine Below.drew ?_ | with_reducible refine below_drewN ?_ _))⟩
    simp only [beq_iff_eq, beq_eq_false_iff_ne, ne_eq, decide_eq_true_eq, decide_eq_false_iff_not, Bool.not_eq_true', Bool.not_eq_false'] at *
    first
      | rfl
      | (show Ending.returned (.int .i64 _) = .returned (.int .i64 (one x i n))
         congr 2
         unfold one
         rw [HF.out, hBe.out]
         have hcc := HC.out
         repeat (first | rw [if_pos (by omega)] | rw [if_neg (by omega)]))

set_option maxHeartbeats 400000 in
theorem rone_c32y (x : Insn) (hx : x.Ok) (i n : Nat) (w : World) (hn : n ≤ 1000000) (hi : i ≤ 1000000) (hcc : x.code = 32) (hbh : i + 1 < n) :
    Calls Try.prog 57 #[(Value.agg #[.int .u16 x.code, .int .u8 x.jt, .int .u8 x.jf, .int .u32 x.k]), .int .i64 i, .int .i64 n] w fun e w' => e = .returned (.int .i64 (one x i n)) ∧ Below w.heap.size w w' := by
  have hc := hx.code
  have hk := hx.k
  have hjt := hx.jt
  have hjf := hx.jf
  have hBe := Lib.hid (show behind i n = n - 1 - i by unfold behind; rw [if_pos hbh])
  have HF := Lib.hid (show form x.code = 2 by rw [hcc]; decide)
  have q1 : (nameOf x.code).toList = [108, 100, 46, 97, 98, 115] := by rw [hcc]; decide +kernel
  have HC := Lib.hid hcc
  clear hcc
  go_enter Try.func57, Try.ntmps57
  go_wp2_with (first | (go_at_call 69; refine (rname_any x.code hc _).mono ?_; rw [HF.out]; rintro e w' ⟨rfl, hb⟩; (obtain ⟨hb_c, hb_f⟩ := bcell hb; have hb_z := (hb).size; have hb_0 : Below w.heap.size w _ := Below.trans (by (repeat (first | with_reducible exact Below.refl _ _ | with_reducible assumption | ((with_reducible refine Below.setCell ?_ ?hp _); case hp => (first | omega | (simp only [World.size_alloc, World.size_setCell, World.size_drew]; omega) | (simp; done) | (simp; omega))) | ((with_reducible refine Below.alloc ?_ ?hp _); case hp => (first | omega | (simp only [World.size_alloc, World.size_setCell, World.size_drew]; omega) | (simp; done) | (simp; omega))) | with_reducible refine Below.drew ?_ | with_reducible refine below_drewN ?_ _))) ((hb).mono (by (first | omega | (simp only [World.size_alloc, World.size_setCell, World.size_drew]; omega) | (simp; done) | (simp; omega)))); (try simp only [World.size_alloc, World.size_setCell, World.size_drew] at hb_z hb_c hb_f); clear hb); (have hb_k0 := hb_c (w.heap.size) 0 (by omega); simp [go_sem] at hb_k0; have hb_k1 := hb_c (w.heap.size) 1 (by omega); simp [go_sem] at hb_k1; have hb_k2 := hb_c (w.heap.size) 2 (by omega); simp [go_sem] at hb_k2; have hb_k3 := hb_c (w.heap.size) 3 (by omega); simp [go_sem] at hb_k3)) | (go_at_call 97; refine (rform_any x.code hc _).mono ?_; rw [HF.out]; rintro e w'' ⟨rfl, hd⟩; (obtain ⟨hd_c, hd_f⟩ := bcell hd; have hd_z := (hd).size; have hd_0 : Below w.heap.size w _ := Below.trans (by (repeat (first | with_reducible exact Below.refl _ _ | with_reducible assumption | ((with_reducible refine Below.setCell ?_ ?hp _); case hp => (first | omega | (simp only [World.size_alloc, World.size_setCell, World.size_drew]; omega) | (simp; done) | (simp; omega))) | ((with_reducible refine Below.alloc ?_ ?hp _); case hp => (first | omega | (simp only [World.size_alloc, World.size_setCell, World.size_drew]; omega) | (simp; done) | (simp; omega))) | with_reducible refine Below.drew ?_ | with_reducible refine below_drewN ?_ _))) ((hd).mono (by (first | omega | (simp only [World.size_alloc, World.size_setCell, World.size_drew]; omega) | (simp; done) | (simp; omega)))); (try simp only [World.size_alloc, World.size_setCell, World.size_drew] at hd_z hd_c hd_f); clear hd); have hd_k1 := (hd_c w.heap.size 1 (by omega)).trans hb_k1; have hd_k2 := (hd_c w.heap.size 2 (by omega)).trans hb_k2; have hd_k3 := (hd_c w.heap.size 3 (by omega)).trans hb_k3))
  all_goals
    go_ret
    go_light
    refine ⟨?_, by (repeat (first | with_reducible exact Below.refl _ _ | with_reducible assumption | ((with_reducible refine Below.setCell ?_ ?hp _); case hp => (first | omega | (simp only [World.size_alloc, World.size_setCell, World.size_drew]; omega) | (simp; done) | (simp; omega))) | ((with_reducible refine Below.alloc ?_ ?hp _); case hp => (first | omega | (simp only [World.size_alloc, World.size_setCell, World.size_drew]; omega) | (simp; done) | (simp; omega))) | with_reducible refine Below.drew ?_ | with_reducible refine below_drewN ?_ _))⟩
    simp only [beq_iff_eq, beq_eq_false_iff_ne, ne_eq, decide_eq_true_eq, decide_eq_false_iff_not, Bool.not_eq_true', Bool.not_eq_false'] at *
    first
      | rfl
      | (show Ending.returned (.int .i64 _) = .returned (.int .i64 (one x i n))
         congr 2
         unfold one
         rw [HF.out, hBe.out]
         have hcc := HC.out
         repeat (first | rw [if_pos (by omega)] | rw [if_neg (by omega)]))

set_option maxHeartbeats 400000 in
theorem rone_c32n (x : Insn) (hx : x.Ok) (i n : Nat) (w : World) (hn : n ≤ 1000000) (hi : i ≤ 1000000) (hcc : x.code = 32) (hbh : ¬ i + 1 < n) :
    Calls Try.prog 57 #[(Value.agg #[.int .u16 x.code, .int .u8 x.jt, .int .u8 x.jf, .int .u32 x.k]), .int .i64 i, .int .i64 n] w fun e w' => e = .returned (.int .i64 (one x i n)) ∧ Below w.heap.size w w' := by
  have hc := hx.code
  have hk := hx.k
  have hjt := hx.jt
  have hjf := hx.jf
  have hBe := Lib.hid (show behind i n = 0 by unfold behind; rw [if_neg hbh])
  have HF := Lib.hid (show form x.code = 2 by rw [hcc]; decide)
  have q1 : (nameOf x.code).toList = [108, 100, 46, 97, 98, 115] := by rw [hcc]; decide +kernel
  have HC := Lib.hid hcc
  clear hcc
  go_enter Try.func57, Try.ntmps57
  go_wp2_with (first | (go_at_call 69; refine (rname_any x.code hc _).mono ?_; rw [HF.out]; rintro e w' ⟨rfl, hb⟩; (obtain ⟨hb_c, hb_f⟩ := bcell hb; have hb_z := (hb).size; have hb_0 : Below w.heap.size w _ := Below.trans (by (repeat (first | with_reducible exact Below.refl _ _ | with_reducible assumption | ((with_reducible refine Below.setCell ?_ ?hp _); case hp => (first | omega | (simp only [World.size_alloc, World.size_setCell, World.size_drew]; omega) | (simp; done) | (simp; omega))) | ((with_reducible refine Below.alloc ?_ ?hp _); case hp => (first | omega | (simp only [World.size_alloc, World.size_setCell, World.size_drew]; omega) | (simp; done) | (simp; omega))) | with_reducible refine Below.drew ?_ | with_reducible refine below_drewN ?_ _))) ((hb).mono (by (first | omega | (simp only [World.size_alloc, World.size_setCell, World.size_drew]; omega) | (simp; done) | (simp; omega)))); (try simp only [World.size_alloc, World.size_setCell, World.size_drew] at hb_z hb_c hb_f); clear hb); (have hb_k0 := hb_c (w.heap.size) 0 (by omega); simp [go_sem] at hb_k0; have hb_k1 := hb_c (w.heap.size) 1 (by omega); simp [go_sem] at hb_k1; have hb_k2 := hb_c (w.heap.size) 2 (by omega); simp [go_sem] at hb_k2; have hb_k3 := hb_c (w.heap.size) 3 (by omega); simp [go_sem] at hb_k3)) | (go_at_call 97; refine (rform_any x.code hc _).mono ?_; rw [HF.out]; rintro e w'' ⟨rfl, hd⟩; (obtain ⟨hd_c, hd_f⟩ := bcell hd; have hd_z := (hd).size; have hd_0 : Below w.heap.size w _ := Below.trans (by (repeat (first | with_reducible exact Below.refl _ _ | with_reducible assumption | ((with_reducible refine Below.setCell ?_ ?hp _); case hp => (first | omega | (simp only [World.size_alloc, World.size_setCell, World.size_drew]; omega) | (simp; done) | (simp; omega))) | ((with_reducible refine Below.alloc ?_ ?hp _); case hp => (first | omega | (simp only [World.size_alloc, World.size_setCell, World.size_drew]; omega) | (simp; done) | (simp; omega))) | with_reducible refine Below.drew ?_ | with_reducible refine below_drewN ?_ _))) ((hd).mono (by (first | omega | (simp only [World.size_alloc, World.size_setCell, World.size_drew]; omega) | (simp; done) | (simp; omega)))); (try simp only [World.size_alloc, World.size_setCell, World.size_drew] at hd_z hd_c hd_f); clear hd); have hd_k1 := (hd_c w.heap.size 1 (by omega)).trans hb_k1; have hd_k2 := (hd_c w.heap.size 2 (by omega)).trans hb_k2; have hd_k3 := (hd_c w.heap.size 3 (by omega)).trans hb_k3))
  all_goals
    go_ret
    go_light
    refine ⟨?_, by (repeat (first | with_reducible exact Below.refl _ _ | with_reducible assumption | ((with_reducible refine Below.setCell ?_ ?hp _); case hp => (first | omega | (simp only [World.size_alloc, World.size_setCell, World.size_drew]; omega) | (simp; done) | (simp; omega))) | ((with_reducible refine Below.alloc ?_ ?hp _); case hp => (first | omega | (simp only [World.size_alloc, World.size_setCell, World.size_drew]; omega) | (simp; done) | (simp; omega))) | with_reducible refine Below.drew ?_ | with_reducible refine below_drewN ?_ _))⟩
    simp only [beq_iff_eq, beq_eq_false_iff_ne, ne_eq, decide_eq_true_eq, decide_eq_false_iff_not, Bool.not_eq_true', Bool.not_eq_false'] at *
    first
      | rfl
      | (show Ending.returned (.int .i64 _) = .returned (.int .i64 (one x i n))
         congr 2
         unfold one
         rw [HF.out, hBe.out]
         have hcc := HC.out
         repeat (first | rw [if_pos (by omega)] | rw [if_neg (by omega)]))

set_option maxHeartbeats 400000 in
theorem rone_c52y (x : Insn) (hx : x.Ok) (i n : Nat) (w : World) (hn : n ≤ 1000000) (hi : i ≤ 1000000) (hcc : x.code = 52) (hbh : i + 1 < n) :
    Calls Try.prog 57 #[(Value.agg #[.int .u16 x.code, .int .u8 x.jt, .int .u8 x.jf, .int .u32 x.k]), .int .i64 i, .int .i64 n] w fun e w' => e = .returned (.int .i64 (one x i n)) ∧ Below w.heap.size w w' := by
  have hc := hx.code
  have hk := hx.k
  have hjt := hx.jt
  have hjf := hx.jf
  have hBe := Lib.hid (show behind i n = n - 1 - i by unfold behind; rw [if_pos hbh])
  have HF := Lib.hid (show form x.code = 1 by rw [hcc]; decide)
  have q1 : (nameOf x.code).toList = [100, 105, 118, 46, 107] := by rw [hcc]; decide +kernel
  have HC := Lib.hid hcc
  clear hcc
  go_enter Try.func57, Try.ntmps57
  go_wp2_with (first | (go_at_call 69; refine (rname_any x.code hc _).mono ?_; rw [HF.out]; rintro e w' ⟨rfl, hb⟩; (obtain ⟨hb_c, hb_f⟩ := bcell hb; have hb_z := (hb).size; have hb_0 : Below w.heap.size w _ := Below.trans (by (repeat (first | with_reducible exact Below.refl _ _ | with_reducible assumption | ((with_reducible refine Below.setCell ?_ ?hp _); case hp => (first | omega | (simp only [World.size_alloc, World.size_setCell, World.size_drew]; omega) | (simp; done) | (simp; omega))) | ((with_reducible refine Below.alloc ?_ ?hp _); case hp => (first | omega | (simp only [World.size_alloc, World.size_setCell, World.size_drew]; omega) | (simp; done) | (simp; omega))) | with_reducible refine Below.drew ?_ | with_reducible refine below_drewN ?_ _))) ((hb).mono (by (first | omega | (simp only [World.size_alloc, World.size_setCell, World.size_drew]; omega) | (simp; done) | (simp; omega)))); (try simp only [World.size_alloc, World.size_setCell, World.size_drew] at hb_z hb_c hb_f); clear hb); (have hb_k0 := hb_c (w.heap.size) 0 (by omega); simp [go_sem] at hb_k0; have hb_k1 := hb_c (w.heap.size) 1 (by omega); simp [go_sem] at hb_k1; have hb_k2 := hb_c (w.heap.size) 2 (by omega); simp [go_sem] at hb_k2; have hb_k3 := hb_c (w.heap.size) 3 (by omega); simp [go_sem] at hb_k3)) | (go_at_call 97; refine (rform_any x.code hc _).mono ?_; rw [HF.out]; rintro e w'' ⟨rfl, hd⟩; (obtain ⟨hd_c, hd_f⟩ := bcell hd; have hd_z := (hd).size; have hd_0 : Below w.heap.size w _ := Below.trans (by (repeat (first | with_reducible exact Below.refl _ _ | with_reducible assumption | ((with_reducible refine Below.setCell ?_ ?hp _); case hp => (first | omega | (simp only [World.size_alloc, World.size_setCell, World.size_drew]; omega) | (simp; done) | (simp; omega))) | ((with_reducible refine Below.alloc ?_ ?hp _); case hp => (first | omega | (simp only [World.size_alloc, World.size_setCell, World.size_drew]; omega) | (simp; done) | (simp; omega))) | with_reducible refine Below.drew ?_ | with_reducible refine below_drewN ?_ _))) ((hd).mono (by (first | omega | (simp only [World.size_alloc, World.size_setCell, World.size_drew]; omega) | (simp; done) | (simp; omega)))); (try simp only [World.size_alloc, World.size_setCell, World.size_drew] at hd_z hd_c hd_f); clear hd); have hd_k1 := (hd_c w.heap.size 1 (by omega)).trans hb_k1; have hd_k2 := (hd_c w.heap.size 2 (by omega)).trans hb_k2; have hd_k3 := (hd_c w.heap.size 3 (by omega)).trans hb_k3))
  all_goals
    go_ret
    go_light
    refine ⟨?_, by (repeat (first | with_reducible exact Below.refl _ _ | with_reducible assumption | ((with_reducible refine Below.setCell ?_ ?hp _); case hp => (first | omega | (simp only [World.size_alloc, World.size_setCell, World.size_drew]; omega) | (simp; done) | (simp; omega))) | ((with_reducible refine Below.alloc ?_ ?hp _); case hp => (first | omega | (simp only [World.size_alloc, World.size_setCell, World.size_drew]; omega) | (simp; done) | (simp; omega))) | with_reducible refine Below.drew ?_ | with_reducible refine below_drewN ?_ _))⟩
    simp only [beq_iff_eq, beq_eq_false_iff_ne, ne_eq, decide_eq_true_eq, decide_eq_false_iff_not, Bool.not_eq_true', Bool.not_eq_false'] at *
    first
      | rfl
      | (show Ending.returned (.int .i64 _) = .returned (.int .i64 (one x i n))
         congr 2
         unfold one
         rw [HF.out, hBe.out]
         have hcc := HC.out
         repeat (first | rw [if_pos (by omega)] | rw [if_neg (by omega)]))

set_option maxHeartbeats 400000 in
theorem rone_c52n (x : Insn) (hx : x.Ok) (i n : Nat) (w : World) (hn : n ≤ 1000000) (hi : i ≤ 1000000) (hcc : x.code = 52) (hbh : ¬ i + 1 < n) :
    Calls Try.prog 57 #[(Value.agg #[.int .u16 x.code, .int .u8 x.jt, .int .u8 x.jf, .int .u32 x.k]), .int .i64 i, .int .i64 n] w fun e w' => e = .returned (.int .i64 (one x i n)) ∧ Below w.heap.size w w' := by
  have hc := hx.code
  have hk := hx.k
  have hjt := hx.jt
  have hjf := hx.jf
  have hBe := Lib.hid (show behind i n = 0 by unfold behind; rw [if_neg hbh])
  have HF := Lib.hid (show form x.code = 1 by rw [hcc]; decide)
  have q1 : (nameOf x.code).toList = [100, 105, 118, 46, 107] := by rw [hcc]; decide +kernel
  have HC := Lib.hid hcc
  clear hcc
  go_enter Try.func57, Try.ntmps57
  go_wp2_with (first | (go_at_call 69; refine (rname_any x.code hc _).mono ?_; rw [HF.out]; rintro e w' ⟨rfl, hb⟩; (obtain ⟨hb_c, hb_f⟩ := bcell hb; have hb_z := (hb).size; have hb_0 : Below w.heap.size w _ := Below.trans (by (repeat (first | with_reducible exact Below.refl _ _ | with_reducible assumption | ((with_reducible refine Below.setCell ?_ ?hp _); case hp => (first | omega | (simp only [World.size_alloc, World.size_setCell, World.size_drew]; omega) | (simp; done) | (simp; omega))) | ((with_reducible refine Below.alloc ?_ ?hp _); case hp => (first | omega | (simp only [World.size_alloc, World.size_setCell, World.size_drew]; omega) | (simp; done) | (simp; omega))) | with_reducible refine Below.drew ?_ | with_reducible refine below_drewN ?_ _))) ((hb).mono (by (first | omega | (simp only [World.size_alloc, World.size_setCell, World.size_drew]; omega) | (simp; done) | (simp; omega)))); (try simp only [World.size_alloc, World.size_setCell, World.size_drew] at hb_z hb_c hb_f); clear hb); (have hb_k0 := hb_c (w.heap.size) 0 (by omega); simp [go_sem] at hb_k0; have hb_k1 := hb_c (w.heap.size) 1 (by omega); simp [go_sem] at hb_k1; have hb_k2 := hb_c (w.heap.size) 2 (by omega); simp [go_sem] at hb_k2; have hb_k3 := hb_c (w.heap.size) 3 (by omega); simp [go_sem] at hb_k3)) | (go_at_call 97; refine (rform_any x.code hc _).mono ?_; rw [HF.out]; rintro e w'' ⟨rfl, hd⟩; (obtain ⟨hd_c, hd_f⟩ := bcell hd; have hd_z := (hd).size; have hd_0 : Below w.heap.size w _ := Below.trans (by (repeat (first | with_reducible exact Below.refl _ _ | with_reducible assumption | ((with_reducible refine Below.setCell ?_ ?hp _); case hp => (first | omega | (simp only [World.size_alloc, World.size_setCell, World.size_drew]; omega) | (simp; done) | (simp; omega))) | ((with_reducible refine Below.alloc ?_ ?hp _); case hp => (first | omega | (simp only [World.size_alloc, World.size_setCell, World.size_drew]; omega) | (simp; done) | (simp; omega))) | with_reducible refine Below.drew ?_ | with_reducible refine below_drewN ?_ _))) ((hd).mono (by (first | omega | (simp only [World.size_alloc, World.size_setCell, World.size_drew]; omega) | (simp; done) | (simp; omega)))); (try simp only [World.size_alloc, World.size_setCell, World.size_drew] at hd_z hd_c hd_f); clear hd); have hd_k1 := (hd_c w.heap.size 1 (by omega)).trans hb_k1; have hd_k2 := (hd_c w.heap.size 2 (by omega)).trans hb_k2; have hd_k3 := (hd_c w.heap.size 3 (by omega)).trans hb_k3))
  all_goals
    go_ret
    go_light
    refine ⟨?_, by (repeat (first | with_reducible exact Below.refl _ _ | with_reducible assumption | ((with_reducible refine Below.setCell ?_ ?hp _); case hp => (first | omega | (simp only [World.size_alloc, World.size_setCell, World.size_drew]; omega) | (simp; done) | (simp; omega))) | ((with_reducible refine Below.alloc ?_ ?hp _); case hp => (first | omega | (simp only [World.size_alloc, World.size_setCell, World.size_drew]; omega) | (simp; done) | (simp; omega))) | with_reducible refine Below.drew ?_ | with_reducible refine below_drewN ?_ _))⟩
    simp only [beq_iff_eq, beq_eq_false_iff_ne, ne_eq, decide_eq_true_eq, decide_eq_false_iff_not, Bool.not_eq_true', Bool.not_eq_false'] at *
    first
      | rfl
      | (show Ending.returned (.int .i64 _) = .returned (.int .i64 (one x i n))
         congr 2
         unfold one
         rw [HF.out, hBe.out]
         have hcc := HC.out
         repeat (first | rw [if_pos (by omega)] | rw [if_neg (by omega)]))

set_option maxHeartbeats 400000 in
theorem rone_c100y (x : Insn) (hx : x.Ok) (i n : Nat) (w : World) (hn : n ≤ 1000000) (hi : i ≤ 1000000) (hcc : x.code = 100) (hbh : i + 1 < n) :
    Calls Try.prog 57 #[(Value.agg #[.int .u16 x.code, .int .u8 x.jt, .int .u8 x.jf, .int .u32 x.k]), .int .i64 i, .int .i64 n] w fun e w' => e = .returned (.int .i64 (one x i n)) ∧ Below w.heap.size w w' := by
  have hc := hx.code
  have hk := hx.k
  have hjt := hx.jt
  have hjf := hx.jf
  have hBe := Lib.hid (show behind i n = n - 1 - i by unfold behind; rw [if_pos hbh])
  have HF := Lib.hid (show form x.code = 1 by rw [hcc]; decide)
  have q1 : (nameOf x.code).toList = [108, 115, 104, 46, 107] := by rw [hcc]; decide +kernel
  have HC := Lib.hid hcc
  clear hcc
  go_enter Try.func57, Try.ntmps57
  go_wp2_with (first | (go_at_call 69; refine (rname_any x.code hc _).mono ?_; rw [HF.out]; rintro e w' ⟨rfl, hb⟩; (obtain ⟨hb_c, hb_f⟩ := bcell hb; have hb_z := (hb).size; have hb_0 : Below w.heap.size w _ := Below.trans (by (repeat (first | with_reducible exact Below.refl _ _ | with_reducible assumption | ((with_reducible refine Below.setCell ?_ ?hp _); case hp => (first | omega | (simp only [World.size_alloc, World.size_setCell, World.size_drew]; omega) | (simp; done) | (simp; omega))) | ((with_reducible refine Below.alloc ?_ ?hp _); case hp => (first | omega | (simp only [World.size_alloc, World.size_setCell, World.size_drew]; omega) | (simp; done) | (simp; omega))) | with_reducible refine Below.drew ?_ | with_reducible refine below_drewN ?_ _))) ((hb).mono (by (first | omega | (simp only [World.size_alloc, World.size_setCell, World.size_drew]; omega) | (simp; done) | (simp; omega)))); (try simp only [World.size_alloc, World.size_setCell, World.size_drew] at hb_z hb_c hb_f); clear hb); (have hb_k0 := hb_c (w.heap.size) 0 (by omega); simp [go_sem] at hb_k0; have hb_k1 := hb_c (w.heap.size) 1 (by omega); simp [go_sem] at hb_k1; have hb_k2 := hb_c (w.heap.size) 2 (by omega); simp [go_sem] at hb_k2; have hb_k3 := hb_c (w.heap.size) 3 (by omega); simp [go_sem] at hb_k3)) | (go_at_call 97; refine (rform_any x.code hc _).mono ?_; rw [HF.out]; rintro e w'' ⟨rfl, hd⟩; (obtain ⟨hd_c, hd_f⟩ := bcell hd; have hd_z := (hd).size; have hd_0 : Below w.heap.size w _ := Below.trans (by (repeat (first | with_reducible exact Below.refl _ _ | with_reducible assumption | ((with_reducible refine Below.setCell ?_ ?hp _); case hp => (first | omega | (simp only [World.size_alloc, World.size_setCell, World.size_drew]; omega) | (simp; done) | (simp; omega))) | ((with_reducible refine Below.alloc ?_ ?hp _); case hp => (first | omega | (simp only [World.size_alloc, World.size_setCell, World.size_drew]; omega) | (simp; done) | (simp; omega))) | with_reducible refine Below.drew ?_ | with_reducible refine below_drewN ?_ _))) ((hd).mono (by (first | omega | (simp only [World.size_alloc, World.size_setCell, World.size_drew]; omega) | (simp; done) | (simp; omega)))); (try simp only [World.size_alloc, World.size_setCell, World.size_drew] at hd_z hd_c hd_f); clear hd); have hd_k1 := (hd_c w.heap.size 1 (by omega)).trans hb_k1; have hd_k2 := (hd_c w.heap.size 2 (by omega)).trans hb_k2; have hd_k3 := (hd_c w.heap.size 3 (by omega)).trans hb_k3))
  all_goals
    go_ret
    go_light
    refine ⟨?_, by (repeat (first | with_reducible exact Below.refl _ _ | with_reducible assumption | ((with_reducible refine Below.setCell ?_ ?hp _); case hp => (first | omega | (simp only [World.size_alloc, World.size_setCell, World.size_drew]; omega) | (simp; done) | (simp; omega))) | ((with_reducible refine Below.alloc ?_ ?hp _); case hp => (first | omega | (simp only [World.size_alloc, World.size_setCell, World.size_drew]; omega) | (simp; done) | (simp; omega))) | with_reducible refine Below.drew ?_ | with_reducible refine below_drewN ?_ _))⟩
    simp only [beq_iff_eq, beq_eq_false_iff_ne, ne_eq, decide_eq_true_eq, decide_eq_false_iff_not, Bool.not_eq_true', Bool.not_eq_false'] at *
    first
      | rfl
      | (show Ending.returned (.int .i64 _) = .returned (.int .i64 (one x i n))
         congr 2
         unfold one
         rw [HF.out, hBe.out]
         have hcc := HC.out
         repeat (first | rw [if_pos (by omega)] | rw [if_neg (by omega)]))

set_option maxHeartbeats 400000 in
theorem rone_c100n (x : Insn) (hx : x.Ok) (i n : Nat) (w : World) (hn : n ≤ 1000000) (hi : i ≤ 1000000) (hcc : x.code = 100) (hbh : ¬ i + 1 < n) :
    Calls Try.prog 57 #[(Value.agg #[.int .u16 x.code, .int .u8 x.jt, .int .u8 x.jf, .int .u32 x.k]), .int .i64 i, .int .i64 n] w fun e w' => e = .returned (.int .i64 (one x i n)) ∧ Below w.heap.size w w' := by
  have hc := hx.code
  have hk := hx.k
  have hjt := hx.jt
  have hjf := hx.jf
  have hBe := Lib.hid (show behind i n = 0 by unfold behind; rw [if_neg hbh])
  have HF := Lib.hid (show form x.code = 1 by rw [hcc]; decide)
  have q1 : (nameOf x.code).toList = [108, 115, 104, 46, 107] := by rw [hcc]; decide +kernel
  have HC := Lib.hid hcc
  clear hcc
  go_enter Try.func57, Try.ntmps57
  go_wp2_with (first | (go_at_call 69; refine (rname_any x.code hc _).mono ?_; rw [HF.out]; rintro e w' ⟨rfl, hb⟩; (obtain ⟨hb_c, hb_f⟩ := bcell hb; have hb_z := (hb).size; have hb_0 : Below w.heap.size w _ := Below.trans (by (repeat (first | with_reducible exact Below.refl _ _ | with_reducible assumption | ((with_reducible refine Below.setCell ?_ ?hp _); case hp => (first | omega | (simp only [World.size_alloc, World.size_setCell, World.size_drew]; omega) | (simp; done) | (simp; omega))) | ((with_reducible refine Below.alloc ?_ ?hp _); case hp => (first | omega | (simp only [World.size_alloc, World.size_setCell, World.size_drew]; omega) | (simp; done) | (simp; omega))) | with_reducible refine Below.drew ?_ | with_reducible refine below_drewN ?_ _))) ((hb).mono (by (first | omega | (simp only [World.size_alloc, World.size_setCell, World.size_drew]; omega) | (simp; done) | (simp; omega)))); (try simp only [World.size_alloc, World.size_setCell, World.size_drew] at hb_z hb_c hb_f); clear hb); (have hb_k0 := hb_c (w.heap.size) 0 (by omega); simp [go_sem] at hb_k0; have hb_k1 := hb_c (w.heap.size) 1 (by omega); simp [go_sem] at hb_k1; have hb_k2 := hb_c (w.heap.size) 2 (by omega); simp [go_sem] at hb_k2; have hb_k3 := hb_c (w.heap.size) 3 (by omega); simp [go_sem] at hb_k3)) | (go_at_call 97; refine (rform_any x.code hc _).mono ?_; rw [HF.out]; rintro e w'' ⟨rfl, hd⟩; (obtain ⟨hd_c, hd_f⟩ := bcell hd; have hd_z := (hd).size; have hd_0 : Below w.heap.size w _ := Below.trans (by (repeat (first | with_reducible exact Below.refl _ _ | with_reducible assumption | ((with_reducible refine Below.setCell ?_ ?hp _); case hp => (first | omega | (simp only [World.size_alloc, World.size_setCell, World.size_drew]; omega) | (simp; done) | (simp; omega))) | ((with_reducible refine Below.alloc ?_ ?hp _); case hp => (first | omega | (simp only [World.size_alloc, World.size_setCell, World.size_drew]; omega) | (simp; done) | (simp; omega))) | with_reducible refine Below.drew ?_ | with_reducible refine below_drewN ?_ _))) ((hd).mono (by (first | omega | (simp only [World.size_alloc, World.size_setCell, World.size_drew]; omega) | (simp; done) | (simp; omega)))); (try simp only [World.size_alloc, World.size_setCell, World.size_drew] at hd_z hd_c hd_f); clear hd); have hd_k1 := (hd_c w.heap.size 1 (by omega)).trans hb_k1; have hd_k2 := (hd_c w.heap.size 2 (by omega)).trans hb_k2; have hd_k3 := (hd_c w.heap.size 3 (by omega)).trans hb_k3))
  all_goals
    go_ret
    go_light
    refine ⟨?_, by (repeat (first | with_reducible exact Below.refl _ _ | with_reducible assumption | ((with_reducible refine Below.setCell ?_ ?hp _); case hp => (first | omega | (simp only [World.size_alloc, World.size_setCell, World.size_drew]; omega) | (simp; done) | (simp; omega))) | ((with_reducible refine Below.alloc ?_ ?hp _); case hp => (first | omega | (simp only [World.size_alloc, World.size_setCell, World.size_drew]; omega) | (simp; done) | (simp; omega))) | with_reducible refine Below.drew ?_ | with_reducible refine below_drewN ?_ _))⟩
    simp only [beq_iff_eq, beq_eq_false_iff_ne, ne_eq, decide_eq_true_eq, decide_eq_false_iff_not, Bool.not_eq_true', Bool.not_eq_false'] at *
    first
      | rfl
      | (show Ending.returned (.int .i64 _) = .returned (.int .i64 (one x i n))
         congr 2
         unfold one
         rw [HF.out, hBe.out]
         have hcc := HC.out
         repeat (first | rw [if_pos (by omega)] | rw [if_neg (by omega)]))

set_option maxHeartbeats 400000 in
theorem rone_c116y (x : Insn) (hx : x.Ok) (i n : Nat) (w : World) (hn : n ≤ 1000000) (hi : i ≤ 1000000) (hcc : x.code = 116) (hbh : i + 1 < n) :
    Calls Try.prog 57 #[(Value.agg #[.int .u16 x.code, .int .u8 x.jt, .int .u8 x.jf, .int .u32 x.k]), .int .i64 i, .int .i64 n] w fun e w' => e = .returned (.int .i64 (one x i n)) ∧ Below w.heap.size w w' := by
  have hc := hx.code
  have hk := hx.k
  have hjt := hx.jt
  have hjf := hx.jf
  have hBe := Lib.hid (show behind i n = n - 1 - i by unfold behind; rw [if_pos hbh])
  have HF := Lib.hid (show form x.code = 1 by rw [hcc]; decide)
  have q1 : (nameOf x.code).toList = [114, 115, 104, 46, 107] := by rw [hcc]; decide +kernel
  have HC := Lib.hid hcc
  clear hcc
  go_enter Try.func57, Try.ntmps57
  go_wp2_with (first | (go_at_call 69; refine (rname_any x.code hc _).mono ?_; rw [HF.out]; rintro e w' ⟨rfl, hb⟩; (obtain ⟨hb_c, hb_f⟩ := bcell hb; have hb_z := (hb).size; have hb_0 : Below w.heap.size w _ := Below.trans (by (repeat (first | with_reducible exact Below.refl _ _ | with_reducible assumption | ((with_reducible refine Below.setCell ?_ ?hp _); case hp => (first | omega | (simp only [World.size_alloc, World.size_setCell, World.size_drew]; omega) | (simp; done) | (simp; omega))) | ((with_reducible refine Below.alloc ?_ ?hp _); case hp => (first | omega | (simp only [World.size_alloc, World.size_setCell, World.size_drew]; omega) | (simp; done) | (simp; omega))) | with_reducible refine Below.drew ?_ | with_reducible refine below_drewN ?_ _))) ((hb).mono (by (first | omega | (simp only [World.size_alloc, World.size_setCell, World.size_drew]; omega) | (simp; done) | (simp; omega)))); (try simp only [World.size_alloc, World.size_setCell, World.size_drew] at hb_z hb_c hb_f); clear hb); (have hb_k0 := hb_c (w.heap.size) 0 (by omega); simp [go_sem] at hb_k0; have hb_k1 := hb_c (w.heap.size) 1 (by omega); simp [go_sem] at hb_k1; have hb_k2 := hb_c (w.heap.size) 2 (by omega); simp [go_sem] at hb_k2; have hb_k3 := hb_c (w.heap.size) 3 (by omega); simp [go_sem] at hb_k3)) | (go_at_call 97; refine (rform_any x.code hc _).mono ?_; rw [HF.out]; rintro e w'' ⟨rfl, hd⟩; (obtain ⟨hd_c, hd_f⟩ := bcell hd; have hd_z := (hd).size; have hd_0 : Below w.heap.size w _ := Below.trans (by (repeat (first | with_reducible exact Below.refl _ _ | with_reducible assumption | ((with_reducible refine Below.setCell ?_ ?hp _); case hp => (first | omega | (simp only [World.size_alloc, World.size_setCell, World.size_drew]; omega) | (simp; done) | (simp; omega))) | ((with_reducible refine Below.alloc ?_ ?hp _); case hp => (first | omega | (simp only [World.size_alloc, World.size_setCell, World.size_drew]; omega) | (simp; done) | (simp; omega))) | with_reducible refine Below.drew ?_ | with_reducible refine below_drewN ?_ _))) ((hd).mono (by (first | omega | (simp only [World.size_alloc, World.size_setCell, World.size_drew]; omega) | (simp; done) | (simp; omega)))); (try simp only [World.size_alloc, World.size_setCell, World.size_drew] at hd_z hd_c hd_f); clear hd); have hd_k1 := (hd_c w.heap.size 1 (by omega)).trans hb_k1; have hd_k2 := (hd_c w.heap.size 2 (by omega)).trans hb_k2; have hd_k3 := (hd_c w.heap.size 3 (by omega)).trans hb_k3))
  all_goals
    go_ret
    go_light
    refine ⟨?_, by (repeat (first | with_reducible exact Below.refl _ _ | with_reducible assumption | ((with_reducible refine Below.setCell ?_ ?hp _); case hp => (first | omega | (simp only [World.size_alloc, World.size_setCell, World.size_drew]; omega) | (simp; done) | (simp; omega))) | ((with_reducible refine Below.alloc ?_ ?hp _); case hp => (first | omega | (simp only [World.size_alloc, World.size_setCell, World.size_drew]; omega) | (simp; done) | (simp; omega))) | with_reducible refine Below.drew ?_ | with_reducible refine below_drewN ?_ _))⟩
    simp only [beq_iff_eq, beq_eq_false_iff_ne, ne_eq, decide_eq_true_eq, decide_eq_false_iff_not, Bool.not_eq_true', Bool.not_eq_false'] at *
    first
      | rfl
      | (show Ending.returned (.int .i64 _) = .returned (.int .i64 (one x i n))
         congr 2
         unfold one
         rw [HF.out, hBe.out]
         have hcc := HC.out
         repeat (first | rw [if_pos (by omega)] | rw [if_neg (by omega)]))

set_option maxHeartbeats 400000 in
theorem rone_c116n (x : Insn) (hx : x.Ok) (i n : Nat) (w : World) (hn : n ≤ 1000000) (hi : i ≤ 1000000) (hcc : x.code = 116) (hbh : ¬ i + 1 < n) :
    Calls Try.prog 57 #[(Value.agg #[.int .u16 x.code, .int .u8 x.jt, .int .u8 x.jf, .int .u32 x.k]), .int .i64 i, .int .i64 n] w fun e w' => e = .returned (.int .i64 (one x i n)) ∧ Below w.heap.size w w' := by
  have hc := hx.code
  have hk := hx.k
  have hjt := hx.jt
  have hjf := hx.jf
  have hBe := Lib.hid (show behind i n = 0 by unfold behind; rw [if_neg hbh])
  have HF := Lib.hid (show form x.code = 1 by rw [hcc]; decide)
  have q1 : (nameOf x.code).toList = [114, 115, 104, 46, 107] := by rw [hcc]; decide +kernel
  have HC := Lib.hid hcc
  clear hcc
  go_enter Try.func57, Try.ntmps57
  go_wp2_with (first | (go_at_call 69; refine (rname_any x.code hc _).mono ?_; rw [HF.out]; rintro e w' ⟨rfl, hb⟩; (obtain ⟨hb_c, hb_f⟩ := bcell hb; have hb_z := (hb).size; have hb_0 : Below w.heap.size w _ := Below.trans (by (repeat (first | with_reducible exact Below.refl _ _ | with_reducible assumption | ((with_reducible refine Below.setCell ?_ ?hp _); case hp => (first | omega | (simp only [World.size_alloc, World.size_setCell, World.size_drew]; omega) | (simp; done) | (simp; omega))) | ((with_reducible refine Below.alloc ?_ ?hp _); case hp => (first | omega | (simp only [World.size_alloc, World.size_setCell, World.size_drew]; omega) | (simp; done) | (simp; omega))) | with_reducible refine Below.drew ?_ | with_reducible refine below_drewN ?_ _))) ((hb).mono (by (first | omega | (simp only [World.size_alloc, World.size_setCell, World.size_drew]; omega) | (simp; done) | (simp; omega)))); (try simp only [World.size_alloc, World.size_setCell, World.size_drew] at hb_z hb_c hb_f); clear hb); (have hb_k0 := hb_c (w.heap.size) 0 (by omega); simp [go_sem] at hb_k0; have hb_k1 := hb_c (w.heap.size) 1 (by omega); simp [go_sem] at hb_k1; have hb_k2 := hb_c (w.heap.size) 2 (by omega); simp [go_sem] at hb_k2; have hb_k3 := hb_c (w.heap.size) 3 (by omega); simp [go_sem] at hb_k3)) | (go_at_call 97; refine (rform_any x.code hc _).mono ?_; rw [HF.out]; rintro e w'' ⟨rfl, hd⟩; (obtain ⟨hd_c, hd_f⟩ := bcell hd; have hd_z := (hd).size; have hd_0 : Below w.heap.size w _ := Below.trans (by (repeat (first | with_reducible exact Below.refl _ _ | with_reducible assumption | ((with_reducible refine Below.setCell ?_ ?hp _); case hp => (first | omega | (simp only [World.size_alloc, World.size_setCell, World.size_drew]; omega) | (simp; done) | (simp; omega))) | ((with_reducible refine Below.alloc ?_ ?hp _); case hp => (first | omega | (simp only [World.size_alloc, World.size_setCell, World.size_drew]; omega) | (simp; done) | (simp; omega))) | with_reducible refine Below.drew ?_ | with_reducible refine below_drewN ?_ _))) ((hd).mono (by (first | omega | (simp only [World.size_alloc, World.size_setCell, World.size_drew]; omega) | (simp; done) | (simp; omega)))); (try simp only [World.size_alloc, World.size_setCell, World.size_drew] at hd_z hd_c hd_f); clear hd); have hd_k1 := (hd_c w.heap.size 1 (by omega)).trans hb_k1; have hd_k2 := (hd_c w.heap.size 2 (by omega)).trans hb_k2; have hd_k3 := (hd_c w.heap.size 3 (by omega)).trans hb_k3))
  all_goals
    go_ret
    go_light
    refine ⟨?_, by (repeat (first | with_reducible exact Below.refl _ _ | with_reducible assumption | ((with_reducible refine Below.setCell ?_ ?hp _); case hp => (first | omega | (simp only [World.size_alloc, World.size_setCell, World.size_drew]; omega) | (simp; done) | (simp; omega))) | ((with_reducible refine Below.alloc ?_ ?hp _); case hp => (first | omega | (simp only [World.size_alloc, World.size_setCell, World.size_drew]; omega) | (simp; done) | (simp; omega))) | with_reducible refine Below.drew ?_ | with_reducible refine below_drewN ?_ _))⟩
    simp only [beq_iff_eq, beq_eq_false_iff_ne, ne_eq, decide_eq_true_eq, decide_eq_false_iff_not, Bool.not_eq_true', Bool.not_eq_false'] at *
    first
      | rfl
      | (show Ending.returned (.int .i64 _) = .returned (.int .i64 (one x i n))
         congr 2
         unfold one
         rw [HF.out, hBe.out]
         have hcc := HC.out
         repeat (first | rw [if_pos (by omega)] | rw [if_neg (by omega)]))

theorem rone_any (x : Insn) (hx : x.Ok) (i n : Nat) (w : World) (hn : n ≤ 1000000) (hi : i ≤ 1000000) :
    Calls Try.prog 57 #[(Value.agg #[.int .u16 x.code, .int .u8 x.jt, .int .u8 x.jf, .int .u32 x.k]), .int .i64 i, .int .i64 n] w fun e w' => e = .returned (.int .i64 (one x i n)) ∧ Below w.heap.size w w' := by
  by_cases hbh : i + 1 < n
  · by_cases h1 : x.code = 32
    · exact rone_c32y x hx i n w hn hi h1 hbh
    by_cases h2 : x.code = 52
    · exact rone_c52y x hx i n w hn hi h2 hbh
    by_cases h3 : x.code = 100
    · exact rone_c100y x hx i n w hn hi h3 hbh
    by_cases h4 : x.code = 116
    · exact rone_c116y x hx i n w hn hi h4 hbh
    have hcc : x.code ≠ 32 ∧ x.code ≠ 52 ∧ x.code ≠ 100 ∧ x.code ≠ 116 := ⟨h1, h2, h3, h4⟩
    rcases form_vals x.code with hf | hf | hf | hf | hf | hf | hf | hf
    · exact rone_fm1y x hx i n w hn hi hf hcc hbh
    · exact rone_f0y x hx i n w hn hi hf hcc hbh
    · exact rone_f1y x hx i n w hn hi hf hcc hbh
    · exact rone_f2y x hx i n w hn hi hf hcc hbh
    · exact rone_f3y x hx i n w hn hi hf hcc hbh
    · exact rone_f4y x hx i n w hn hi hf hcc hbh
    · exact rone_f5y x hx i n w hn hi hf hcc hbh
    · exact rone_f6y x hx i n w hn hi hf hcc hbh
  · by_cases h1 : x.code = 32
    · exact rone_c32n x hx i n w hn hi h1 hbh
    by_cases h2 : x.code = 52
    · exact rone_c52n x hx i n w hn hi h2 hbh
    by_cases h3 : x.code = 100
    · exact rone_c100n x hx i n w hn hi h3 hbh
    by_cases h4 : x.code = 116
    · exact rone_c116n x hx i n w hn hi h4 hbh
    have hcc : x.code ≠ 32 ∧ x.code ≠ 52 ∧ x.code ≠ 100 ∧ x.code ≠ 116 := ⟨h1, h2, h3, h4⟩
    rcases form_vals x.code with hf | hf | hf | hf | hf | hf | hf | hf
    · exact rone_fm1n x hx i n w hn hi hf hcc hbh
    · exact rone_f0n x hx i n w hn hi hf hcc hbh
    · exact rone_f1n x hx i n w hn hi hf hcc hbh
    · exact rone_f2n x hx i n w hn hi hf hcc hbh
    · exact rone_f3n x hx i n w hn hi hf hcc hbh
    · exact rone_f4n x hx i n w hn hi hf hcc hbh
    · exact rone_f5n x hx i n w hn hi hf hcc hbh
    · exact rone_f6n x hx i n w hn hi hf hcc hbh

end Go.Proofs.Ytfjbanfibmpalaa

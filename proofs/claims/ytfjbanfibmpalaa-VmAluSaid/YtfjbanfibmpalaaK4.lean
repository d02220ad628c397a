/- Contract of the reference's names. -/
import Derived.Test.YtfjbanfibmpalaaK3
set_option linter.unusedVariables false
set_option linter.unusedSimpArgs false
namespace Go.Proofs.Ytfjbanfibmpalaa
open Go.RowKit

theorem not_single (c : Nat) (hs : (single c).2 < 0) : c ≠ 0 ∧ c ≠ 1 ∧ c ≠ 2 ∧ c ≠ 3 ∧ c ≠ 5 ∧ c ≠ 6 ∧ c ≠ 7 ∧ c ≠ 22 ∧ c ≠ 32 ∧ c ≠ 96 ∧ c ≠ 97 ∧ c ≠ 128 ∧ c ≠ 129 ∧ c ≠ 132 ∧ c ≠ 135 := by
  refine ⟨?_, ?_, ?_, ?_, ?_, ?_, ?_, ?_, ?_, ?_, ?_, ?_, ?_, ?_, ?_⟩ <;> rintro rfl <;> simp [single] at hs

set_option maxHeartbeats 1000000 in
theorem named_rest (c : Nat) (hc : c < 256) (hs : (single c).2 < 0) (hm : c % 16 ≠ 4 ∧ c % 16 ≠ 12 ∧ c % 16 ≠ 5 ∧ c % 16 ≠ 13) (w : World) :
    Calls Try.prog 118 #[.int .u16 c] w fun e w' => e = .returned (.tuple #[.string (named c).1, .int .i64 (named c).2]) ∧ Below w.heap.size w w' := by
  obtain ⟨n0, n1, n2, n3, n4, n5, n6, n7, n8, n9, n10, n11, n12, n13, n14⟩ := not_single c hs
  obtain ⟨m0, m1, m2, m3⟩ := hm
  have b0 : ((c : Int) == 0) = false := by simp; omega
  have b1 : ((c : Int) == 1) = false := by simp; omega
  have b2 : ((c : Int) == 2) = false := by simp; omega
  have b3 : ((c : Int) == 3) = false := by simp; omega
  have b4 : ((c : Int) == 5) = false := by simp; omega
  have b5 : ((c : Int) == 6) = false := by simp; omega
  have b6 : ((c : Int) == 7) = false := by simp; omega
  have b7 : ((c : Int) == 22) = false := by simp; omega
  have b8 : ((c : Int) == 32) = false := by simp; omega
  have b9 : ((c : Int) == 96) = false := by simp; omega
  have b10 : ((c : Int) == 97) = false := by simp; omega
  have b11 : ((c : Int) == 128) = false := by simp; omega
  have b12 : ((c : Int) == 129) = false := by simp; omega
  have b13 : ((c : Int) == 132) = false := by simp; omega
  have b14 : ((c : Int) == 135) = false := by simp; omega
  have d0 : ((c : Int) % 16 == 4) = false := by simp; omega
  have d1 : ((c : Int) % 16 == 12) = false := by simp; omega
  have d2 : ((c : Int) % 16 == 5) = false := by simp; omega
  have d3 : ((c : Int) % 16 == 13) = false := by simp; omega
  have HN := Lib.hid (show named c = (⟨#[]⟩, -1) by unfold named; rw [if_neg (by omega), if_neg (by omega), if_neg (by omega), if_neg (by omega), if_neg (by omega)])
  clear n0 n1 n2 n3 n4 n5 n6 n7 n8 n9 n10 n11 n12 n13 n14 m0 m1 m2 m3 hs
  have HS := Lib.hid (rsided_any c hc)
  generalize reckNames.getD (c / 16) default = s at *
  go_enter Try.func118, Try.ntmps118
  go_wp2_with (go_at_call 146; refine (HS.out _).mono ?_; rintro e w' ⟨rfl, rfl⟩)
  go_ret2
  exact ⟨by rw [HN.out]; rfl, by (repeat (first | with_reducible exact Below.refl _ _ | with_reducible assumption | ((with_reducible refine Below.setCell ?_ ?hp _); case hp => (first | omega | (simp only [World.size_alloc, World.size_setCell, World.size_drew]; omega) | (simp; done) | (simp; omega))) | ((with_reducible refine Below.alloc ?_ ?hp _); case hp => (first | omega | (simp only [World.size_alloc, World.size_setCell, World.size_drew]; omega) | (simp; done) | (simp; omega))) | with_reducible refine Below.drew ?_ | with_reducible refine below_drewN ?_ _))⟩

theorem named_any (c : Nat) (hc : c < 256) (w : World) :
    Calls Try.prog 118 #[.int .u16 c] w fun e w' => e = .returned (.tuple #[.string (named c).1, .int .i64 (named c).2]) ∧ Below w.heap.size w w' := by
  by_cases hs : 0 ≤ (single c).2
  · have : ∀ c : Fin 256, 0 ≤ (single c.val).2 → c.val = 0 ∨ c.val = 1 ∨ c.val = 2 ∨ c.val = 3 ∨ c.val = 5 ∨ c.val = 6 ∨ c.val = 7 ∨ c.val = 22 ∨ c.val = 32 ∨ c.val = 96 ∨ c.val = 97 ∨ c.val = 128 ∨ c.val = 129 ∨ c.val = 132 ∨ c.val = 135 := by decide +kernel
    rcases this ⟨c, hc⟩ hs with h | h | h | h | h | h | h | h | h | h | h | h | h | h | h <;> first | subst h | (simp only at h; subst h)
    · exact (named_0 w).mono fun e w' ⟨h1, h2⟩ => ⟨h1, h2 ▸ Below.refl _ _⟩
    · exact (named_1 w).mono fun e w' ⟨h1, h2⟩ => ⟨h1, h2 ▸ Below.refl _ _⟩
    · exact (named_2 w).mono fun e w' ⟨h1, h2⟩ => ⟨h1, h2 ▸ Below.refl _ _⟩
    · exact (named_3 w).mono fun e w' ⟨h1, h2⟩ => ⟨h1, h2 ▸ Below.refl _ _⟩
    · exact (named_5 w).mono fun e w' ⟨h1, h2⟩ => ⟨h1, h2 ▸ Below.refl _ _⟩
    · exact (named_6 w).mono fun e w' ⟨h1, h2⟩ => ⟨h1, h2 ▸ Below.refl _ _⟩
    · exact (named_7 w).mono fun e w' ⟨h1, h2⟩ => ⟨h1, h2 ▸ Below.refl _ _⟩
    · exact (named_22 w).mono fun e w' ⟨h1, h2⟩ => ⟨h1, h2 ▸ Below.refl _ _⟩
    · exact (named_32 w).mono fun e w' ⟨h1, h2⟩ => ⟨h1, h2 ▸ Below.refl _ _⟩
    · exact (named_96 w).mono fun e w' ⟨h1, h2⟩ => ⟨h1, h2 ▸ Below.refl _ _⟩
    · exact (named_97 w).mono fun e w' ⟨h1, h2⟩ => ⟨h1, h2 ▸ Below.refl _ _⟩
    · exact (named_128 w).mono fun e w' ⟨h1, h2⟩ => ⟨h1, h2 ▸ Below.refl _ _⟩
    · exact (named_129 w).mono fun e w' ⟨h1, h2⟩ => ⟨h1, h2 ▸ Below.refl _ _⟩
    · exact (named_132 w).mono fun e w' ⟨h1, h2⟩ => ⟨h1, h2 ▸ Below.refl _ _⟩
    · exact (named_135 w).mono fun e w' ⟨h1, h2⟩ => ⟨h1, h2 ▸ Below.refl _ _⟩
  · by_cases hm : c % 16 ≠ 4 ∧ c % 16 ≠ 12 ∧ c % 16 ≠ 5 ∧ c % 16 ≠ 13
    · exact named_rest c hc (by omega) hm w
    · have hs' : (single c).2 < 0 := by omega
      have : ∀ c : Fin 256, (single c.val).2 < 0 → (c.val % 16 = 4 ∨ c.val % 16 = 12 ∨ c.val % 16 = 5 ∨ c.val % 16 = 13) → c.val ∈ [4, 12, 13, 20, 21, 28, 29, 36, 37, 44, 45, 52, 53, 60, 61, 68, 69, 76, 77, 84, 85, 92, 93, 100, 101, 108, 109, 116, 117, 124, 125, 133, 140, 141, 148, 149, 156, 157, 164, 165, 172, 173, 180, 181, 188, 189, 196, 197, 204, 205, 212, 213, 220, 221, 228, 229, 236, 237, 244, 245, 252, 253] := by decide +kernel
      have hm' := this ⟨c, hc⟩ hs' (by simp only; omega)
      simp only [List.mem_cons, List.not_mem_nil, or_false] at hm'
      rcases hm' with h | h | h | h | h | h | h | h | h | h | h | h | h | h | h | h | h | h | h | h | h | h | h | h | h | h | h | h | h | h | h | h | h | h | h | h | h | h | h | h | h | h | h | h | h | h | h | h | h | h | h | h | h | h | h | h | h | h | h | h | h | h <;> first | subst h | (simp only at h; subst h)
      · exact named_4 w
      · exact named_12 w
      · exact named_13 w
      · exact named_20 w
      · exact named_21 w
      · exact named_28 w
      · exact named_29 w
      · exact named_36 w
      · exact named_37 w
      · exact named_44 w
      · exact named_45 w
      · exact named_52 w
      · exact named_53 w
      · exact named_60 w
      · exact named_61 w
      · exact named_68 w
      · exact named_69 w
      · exact named_76 w
      · exact named_77 w
      · exact named_84 w
      · exact named_85 w
      · exact named_92 w
      · exact named_93 w
      · exact named_100 w
      · exact named_101 w
      · exact named_108 w
      · exact named_109 w
      · exact named_116 w
      · exact named_117 w
      · exact named_124 w
      · exact named_125 w
      · exact named_133 w
      · exact named_140 w
      · exact named_141 w
      · exact named_148 w
      · exact named_149 w
      · exact named_156 w
      · exact named_157 w
      · exact named_164 w
      · exact named_165 w
      · exact named_172 w
      · exact named_173 w
      · exact named_180 w
      · exact named_181 w
      · exact named_188 w
      · exact named_189 w
      · exact named_196 w
      · exact named_197 w
      · exact named_204 w
      · exact named_205 w
      · exact named_212 w
      · exact named_213 w
      · exact named_220 w
      · exact named_221 w
      · exact named_228 w
      · exact named_229 w
      · exact named_236 w
      · exact named_237 w
      · exact named_244 w
      · exact named_245 w
      · exact named_252 w
      · exact named_253 w

end Go.Proofs.Ytfjbanfibmpalaa

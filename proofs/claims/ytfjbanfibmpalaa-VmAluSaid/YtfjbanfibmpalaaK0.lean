/- Words on memory: what an instruction, a program, a list of numbers is in memory; how they are kept. -/
import Derived.Test.YtfjbanfibmpalaaProg
import Derived.Test.YtfjbanfibmpalaaP4
import Derived.WalkKit
import Derived.WalkSpells
import Derived.WalkLawsBesides
import Derived.Outline
import Derived.Lib.Hide
import Derived.Deep.Light
import Derived.Deep.Draws
import Derived.Maps.AppendAt
import Derived.Deep.AppendLies
import Derived.Laws.BitsAllLaws
set_option linter.unusedVariables false
set_option linter.unusedSimpArgs false
namespace Go.Proofs.Ytfjbanfibmpalaa
open Go.RowKit

theorem below_drewN {B : Nat} {a w : World} (h : Below B a w) (n : Nat) : Below B a (w.drewN n) := ⟨h.os, h.tape, h.output, h.size, h.block⟩

theorem bcell {W w1 : World} (hb : Below W.heap.size W w1) : (∀ b o, b < W.heap.size → w1.cell? ⟨b, o, none⟩ = W.cell? ⟨b, o, none⟩) ∧ (∀ b o, b < W.heap.size → w1.frozen? ⟨b, o, none⟩ = W.frozen? ⟨b, o, none⟩) :=
  ⟨fun b o h => hb.cell (p := ⟨b, o, none⟩) h, fun b o h => hb.frozen (p := ⟨b, o, none⟩) h⟩

/-- The four cells of an instruction from a place on. -/
def IAt (w : World) (b o : Nat) (x : Insn) : Prop :=
  w.cell? ⟨b, o, none⟩ = some (.int .u16 x.code) ∧ w.cell? ⟨b, o + 1, none⟩ = some (.int .u8 x.jt) ∧
  w.cell? ⟨b, o + 2, none⟩ = some (.int .u8 x.jf) ∧ w.cell? ⟨b, o + 3, none⟩ = some (.int .u32 x.k)

def Insn.val (x : Insn) : Value := .agg #[.int .u16 x.code, .int .u8 x.jt, .int .u8 x.jf, .int .u32 x.k]
def Insn.cells (x : Insn) : List Value := [.int .u16 x.code, .int .u8 x.jt, .int .u8 x.jf, .int .u32 x.k]

/-- A slice of instructions that reads as a list. -/
structure RdP (w : World) (A : Option Addr) (l : List Insn) : Prop where
  small : l.length ≤ 17592186044416
  ok : ∀ x ∈ l, x.Ok
  at_ : l ≠ [] → ∃ b o, A = some ⟨b, o, none⟩ ∧ b < w.heap.size ∧ ∀ i (h : i < l.length), IAt w b (o + i * 4) (l[i]'h)

theorem IAt.keep {w w' : World} {b o : Nat} {x : Insn} (h : IAt w b o x) (hk : ∀ o, w'.cell? ⟨b, o, none⟩ = w.cell? ⟨b, o, none⟩) : IAt w' b o x := by
  unfold IAt at *; simp only [hk]; exact h

theorem RdP.below {w w' : World} {A : Option Addr} {l : List Insn} (h : RdP w A l) {B : Nat} (hb : Below B w w') (hB : w.heap.size ≤ B) : RdP w' A l :=
  ⟨h.small, h.ok, fun hl => by
    obtain ⟨b, o, rfl, hlt, hc⟩ := h.at_ hl
    exact ⟨b, o, rfl, Nat.lt_of_lt_of_le hlt hb.size, fun i hi => (hc i hi).keep fun o => hb.cell (p := ⟨b, o, none⟩) (Nat.lt_of_lt_of_le hlt hB)⟩⟩

theorem RdP.nil (w : World) (A : Option Addr) : RdP w A [] := ⟨by simp, by simp, fun h => absurd rfl h⟩

theorem RdP.get {w : World} {A : Option Addr} {l : List Insn} (h : RdP w A l) {i : Nat} (hi : i < l.length) :
    ∃ b o, A = some ⟨b, o, none⟩ ∧ b < w.heap.size ∧ (∀ i (h : i < l.length), IAt w b (o + i * 4) (l[i]'h)) :=
  h.at_ (by intro e; subst e; simp at hi)

/-! Masks of a code -/
theorem mask_mod (c m : Nat) (hm : m < 256) : c &&& m = (c % 256) &&& m := by
  have h : 255 &&& m = m := by
    have : ∀ m : Fin 256, 255 &&& m.val = m.val := by decide +kernel
    exact this ⟨m, hm⟩
  conv => lhs; rw [← h, ← Nat.and_assoc]
  rw [show (255 : Nat) = 2 ^ 8 - 1 from rfl, Nat.and_two_pow_sub_one_eq_mod]

theorem u16_mask (c m : Nat) (hc : c < 65536) (hm : m < 256) : bits .and .u16 (c : Int) (m : Int) = ((c % 256 &&& m : Nat) : Int) := by
  rw [u16_and_nat c m hc (by omega), mask_mod c m hm]

theorem and15 (r : Nat) (hr : r < 256) : r &&& 15 = r % 16 := by
  rw [show (15 : Nat) = 2 ^ 4 - 1 from rfl, Nat.and_two_pow_sub_one_eq_mod]
theorem and7 (r : Nat) (hr : r < 256) : r &&& 7 = r % 8 := by
  rw [show (7 : Nat) = 2 ^ 3 - 1 from rfl, Nat.and_two_pow_sub_one_eq_mod]
theorem and240 (r : Nat) (hr : r < 256) : r &&& 240 = r / 16 * 16 := by
  have : ∀ m : Fin 256, m.val &&& 240 = m.val / 16 * 16 := by decide +kernel
  exact this ⟨r, hr⟩
theorem and224 (r : Nat) (hr : r < 256) : r &&& 224 = r / 32 * 32 := by
  have : ∀ m : Fin 256, m.val &&& 224 = m.val / 32 * 32 := by decide +kernel
  exact this ⟨r, hr⟩
theorem and8 (r : Nat) (hr : r < 256) : r &&& 8 = r / 8 % 2 * 8 := by
  have : ∀ m : Fin 256, m.val &&& 8 = m.val / 8 % 2 * 8 := by decide +kernel
  exact this ⟨r, hr⟩
theorem and16 (r : Nat) (hr : r < 256) : r &&& 16 = r / 16 % 2 * 16 := by
  have : ∀ m : Fin 256, m.val &&& 16 = m.val / 16 % 2 * 16 := by decide +kernel
  exact this ⟨r, hr⟩
theorem and128 (r : Nat) (hr : r < 256) : r &&& 128 = r / 128 * 128 := by
  have : ∀ m : Fin 256, m.val &&& 128 = m.val / 128 * 128 := by decide +kernel
  exact this ⟨r, hr⟩

theorem u16_15 (c : Nat) (hc : c < 65536) : bits .and .u16 (c : Int) 15 = ((c % 16 : Nat) : Int) := by
  have := u16_mask c 15 hc (by omega)
  rw [and15 _ (by omega)] at this
  rw [show ((15 : Int)) = ((15 : Nat) : Int) from rfl, this]; omega
theorem u16_7 (c : Nat) (hc : c < 65536) : bits .and .u16 (c : Int) 7 = ((c % 8 : Nat) : Int) := by
  have := u16_mask c 7 hc (by omega)
  rw [and7 _ (by omega)] at this
  rw [show ((7 : Int)) = ((7 : Nat) : Int) from rfl, this]; omega
theorem u16_240 (c : Nat) (hc : c < 65536) : bits .and .u16 (c : Int) 240 = ((c / 16 % 16 * 16 : Nat) : Int) := by
  have := u16_mask c 240 hc (by omega)
  rw [and240 _ (by omega)] at this
  rw [show ((240 : Int)) = ((240 : Nat) : Int) from rfl, this]; omega
theorem u16_224 (c : Nat) (hc : c < 65536) : bits .and .u16 (c : Int) 224 = ((c / 32 % 8 * 32 : Nat) : Int) := by
  have := u16_mask c 224 hc (by omega)
  rw [and224 _ (by omega)] at this
  rw [show ((224 : Int)) = ((224 : Nat) : Int) from rfl, this]; omega
theorem u16_8 (c : Nat) (hc : c < 65536) : bits .and .u16 (c : Int) 8 = ((c / 8 % 2 * 8 : Nat) : Int) := by
  have := u16_mask c 8 hc (by omega)
  rw [and8 _ (by omega)] at this
  rw [show ((8 : Int)) = ((8 : Nat) : Int) from rfl, this]; omega
theorem u16_16 (c : Nat) (hc : c < 65536) : bits .and .u16 (c : Int) 16 = ((c / 16 % 2 * 16 : Nat) : Int) := by
  have := u16_mask c 16 hc (by omega)
  rw [and16 _ (by omega)] at this
  rw [show ((16 : Int)) = ((16 : Nat) : Int) from rfl, this]; omega
theorem u16_128 (c : Nat) (hc : c < 65536) : bits .and .u16 (c : Int) 128 = ((c / 128 % 2 * 128 : Nat) : Int) := by
  have := u16_mask c 128 hc (by omega)
  rw [and128 _ (by omega)] at this
  rw [show ((128 : Int)) = ((128 : Nat) : Int) from rfl, this]; omega

end Go.Proofs.Ytfjbanfibmpalaa

/- KA -/
import Derived.Test.YtfjbanfibmpalaaProg
import Derived.Test.YtfjbanfibmpalaaPA
import Derived.WalkKit
import Derived.WalkSpells
import Derived.WalkLawsBesides
import Derived.Outline
import Derived.Lib.Hide
import Derived.Deep.Light
import Derived.Deep.Draws
import Derived.Maps.AppendAt
import Derived.Deep.AppendLies
import Derived.Laws.BitsAllLaws
import Derived.RangeFuncNested
import Derived.RangeFuncBound
import Derived.RangeFuncCalls
import Derived.RangeFuncLeaves
import Derived.Shelf.Abstract
import Derived.Shelf.RegionOpen
import Derived.OwnWalkIn
import Derived.TacticsInMore
import Derived.LoopNIn
import Derived.LoopIn
import Derived.Sort.BigQuietIn
import Derived.Sort.QuietTacIn

/- Words on memory: what an instruction, a program, a list of numbers is in memory; how they are kept. -/
set_option linter.unusedVariables false
set_option linter.unusedSimpArgs false
namespace Go.Proofs.Ytfjbanfibmpalaa
open Go.RowKit

theorem below_drewN {B : Nat} {a w : World} (h : Below B a w) (n : Nat) : Below B a (w.drewN n) := ⟨h.os, h.tape, h.output, h.size, h.block⟩

theorem bcell {W w1 : World} (hb : Below W.heap.size W w1) : (∀ b o, b < W.heap.size → w1.cell? ⟨b, o, none⟩ = W.cell? ⟨b, o, none⟩) ∧ (∀ b o, b < W.heap.size → w1.frozen? ⟨b, o, none⟩ = W.frozen? ⟨b, o, none⟩) :=
  ⟨fun b o h => hb.cell (p := ⟨b, o, none⟩) h, fun b o h => hb.frozen (p := ⟨b, o, none⟩) h⟩

/-- The four cells of an instruction from a place on. -/
def IAt (w : World) (b o : Nat) (x : Insn) : Prop :=
  w.cell? ⟨b, o, none⟩ = some (.int .u16 x.code) ∧ w.cell? ⟨b, o + 1, none⟩ = some (.int .u8 x.jt) ∧
  w.cell? ⟨b, o + 2, none⟩ = some (.int .u8 x.jf) ∧ w.cell? ⟨b, o + 3, none⟩ = some (.int .u32 x.k)

def Insn.val (x : Insn) : Value := .agg #[.int .u16 x.code, .int .u8 x.jt, .int .u8 x.jf, .int .u32 x.k]
def Insn.cells (x : Insn) : List Value := [.int .u16 x.code, .int .u8 x.jt, .int .u8 x.jf, .int .u32 x.k]

/-- A slice of instructions that reads as a list. -/
structure RdP (w : World) (A : Option Addr) (l : List Insn) : Prop where
  small : l.length ≤ 17592186044416
  ok : ∀ x ∈ l, x.Ok
  at_ : l ≠ [] → ∃ b o, A = some ⟨b, o, none⟩ ∧ b < w.heap.size ∧ ∀ i (h : i < l.length), IAt w b (o + i * 4) (l[i]'h)

theorem IAt.keep {w w' : World} {b o : Nat} {x : Insn} (h : IAt w b o x) (hk : ∀ o, w'.cell? ⟨b, o, none⟩ = w.cell? ⟨b, o, none⟩) : IAt w' b o x := by
  unfold IAt at *; simp only [hk]; exact h

theorem RdP.below {w w' : World} {A : Option Addr} {l : List Insn} (h : RdP w A l) {B : Nat} (hb : Below B w w') (hB : w.heap.size ≤ B) : RdP w' A l :=
  ⟨h.small, h.ok, fun hl => by
    obtain ⟨b, o, rfl, hlt, hc⟩ := h.at_ hl
    exact ⟨b, o, rfl, Nat.lt_of_lt_of_le hlt hb.size, fun i hi => (hc i hi).keep fun o => hb.cell (p := ⟨b, o, none⟩) (Nat.lt_of_lt_of_le hlt hB)⟩⟩

theorem RdP.nil (w : World) (A : Option Addr) : RdP w A [] := ⟨by simp, by simp, fun h => absurd rfl h⟩

theorem RdP.get {w : World} {A : Option Addr} {l : List Insn} (h : RdP w A l) {i : Nat} (hi : i < l.length) :
    ∃ b o, A = some ⟨b, o, none⟩ ∧ b < w.heap.size ∧ (∀ i (h : i < l.length), IAt w b (o + i * 4) (l[i]'h)) :=
  h.at_ (by intro e; subst e; simp at hi)

/-! Masks of a code -/
theorem mask_mod (c m : Nat) (hm : m < 256) : c &&& m = (c % 256) &&& m := by
  have h : 255 &&& m = m := by
    have : ∀ m : Fin 256, 255 &&& m.val = m.val := by decide +kernel
    exact this ⟨m, hm⟩
  conv => lhs; rw [← h, ← Nat.and_assoc]
  rw [show (255 : Nat) = 2 ^ 8 - 1 from rfl, Nat.and_two_pow_sub_one_eq_mod]

theorem u16_mask (c m : Nat) (hc : c < 65536) (hm : m < 256) : bits .and .u16 (c : Int) (m : Int) = ((c % 256 &&& m : Nat) : Int) := by
  rw [u16_and_nat c m hc (by omega), mask_mod c m hm]

theorem and15 (r : Nat) (hr : r < 256) : r &&& 15 = r % 16 := by
  rw [show (15 : Nat) = 2 ^ 4 - 1 from rfl, Nat.and_two_pow_sub_one_eq_mod]
theorem and7 (r : Nat) (hr : r < 256) : r &&& 7 = r % 8 := by
  rw [show (7 : Nat) = 2 ^ 3 - 1 from rfl, Nat.and_two_pow_sub_one_eq_mod]
theorem and240 (r : Nat) (hr : r < 256) : r &&& 240 = r / 16 * 16 := by
  have : ∀ m : Fin 256, m.val &&& 240 = m.val / 16 * 16 := by decide +kernel
  exact this ⟨r, hr⟩
theorem and224 (r : Nat) (hr : r < 256) : r &&& 224 = r / 32 * 32 := by
  have : ∀ m : Fin 256, m.val &&& 224 = m.val / 32 * 32 := by decide +kernel
  exact this ⟨r, hr⟩
theorem and8 (r : Nat) (hr : r < 256) : r &&& 8 = r / 8 % 2 * 8 := by
  have : ∀ m : Fin 256, m.val &&& 8 = m.val / 8 % 2 * 8 := by decide +kernel
  exact this ⟨r, hr⟩
theorem and16 (r : Nat) (hr : r < 256) : r &&& 16 = r / 16 % 2 * 16 := by
  have : ∀ m : Fin 256, m.val &&& 16 = m.val / 16 % 2 * 16 := by decide +kernel
  exact this ⟨r, hr⟩
theorem and128 (r : Nat) (hr : r < 256) : r &&& 128 = r / 128 * 128 := by
  have : ∀ m : Fin 256, m.val &&& 128 = m.val / 128 * 128 := by decide +kernel
  exact this ⟨r, hr⟩

theorem u16_15 (c : Nat) (hc : c < 65536) : bits .and .u16 (c : Int) 15 = ((c % 16 : Nat) : Int) := by
  have := u16_mask c 15 hc (by omega)
  rw [and15 _ (by omega)] at this
  rw [show ((15 : Int)) = ((15 : Nat) : Int) from rfl, this]; omega
theorem u16_7 (c : Nat) (hc : c < 65536) : bits .and .u16 (c : Int) 7 = ((c % 8 : Nat) : Int) := by
  have := u16_mask c 7 hc (by omega)
  rw [and7 _ (by omega)] at this
  rw [show ((7 : Int)) = ((7 : Nat) : Int) from rfl, this]; omega
theorem u16_240 (c : Nat) (hc : c < 65536) : bits .and .u16 (c : Int) 240 = ((c / 16 % 16 * 16 : Nat) : Int) := by
  have := u16_mask c 240 hc (by omega)
  rw [and240 _ (by omega)] at this
  rw [show ((240 : Int)) = ((240 : Nat) : Int) from rfl, this]; omega
theorem u16_224 (c : Nat) (hc : c < 65536) : bits .and .u16 (c : Int) 224 = ((c / 32 % 8 * 32 : Nat) : Int) := by
  have := u16_mask c 224 hc (by omega)
  rw [and224 _ (by omega)] at this
  rw [show ((224 : Int)) = ((224 : Nat) : Int) from rfl, this]; omega
theorem u16_8 (c : Nat) (hc : c < 65536) : bits .and .u16 (c : Int) 8 = ((c / 8 % 2 * 8 : Nat) : Int) := by
  have := u16_mask c 8 hc (by omega)
  rw [and8 _ (by omega)] at this
  rw [show ((8 : Int)) = ((8 : Nat) : Int) from rfl, this]; omega
theorem u16_16 (c : Nat) (hc : c < 65536) : bits .and .u16 (c : Int) 16 = ((c / 16 % 2 * 16 : Nat) : Int) := by
  have := u16_mask c 16 hc (by omega)
  rw [and16 _ (by omega)] at this
  rw [show ((16 : Int)) = ((16 : Nat) : Int) from rfl, this]; omega
theorem u16_128 (c : Nat) (hc : c < 65536) : bits .and .u16 (c : Int) 128 = ((c / 128 % 2 * 128 : Nat) : Int) := by
  have := u16_mask c 128 hc (by omega)
  rw [and128 _ (by omega)] at this
  rw [show ((128 : Int)) = ((128 : Nat) : Int) from rfl, this]; omega

end Go.Proofs.Ytfjbanfibmpalaa

/- Contracts of layer 2: forms and names. -/
set_option linter.unusedVariables false
set_option linter.unusedSimpArgs false
namespace Go.Proofs.Ytfjbanfibmpalaa
open Go.RowKit

set_option maxHeartbeats 400000 in
theorem single_any (c : Nat) (w : World) :
    Calls Try.prog 144 #[.int .u16 c] w fun e w' => e = .returned (.tuple #[.string (single c).1, .int .i64 (single c).2]) ∧ w = w' := by
  go_enter Try.func144, Try.ntmps144
  go_wp2
  all_goals
    go_ret2
    go_light
    refine ⟨?_, rfl⟩
    simp only [beq_iff_eq, beq_eq_false_iff_ne, ne_eq] at *
    simp only [single]
    repeat (first | rw [if_pos (by omega)] | rw [if_neg (by omega)])
    rfl

/-- A block of sixteen names. -/
def NamesAt (w : World) (g : Nat) (a : Array ByteArray) : Prop := ∀ h, h < 16 → w.cell? ⟨g, h, none⟩ = some (.string (a.getD h default))

theorem names_new (w : World) (a : Array ByteArray) (t : TypeId) (cs : Array Value) (ha : a.size = 16) (hc : cs = a.map Value.string) :
    NamesAt (w.alloc (.cells cs t)) w.heap.size a := by
  intro h hh
  rw [cell_of_row _ _ _ cs t (0, 0) (heap_alloc_new w _), hc]
  simp [ha, hh, Array.getD]

set_option maxHeartbeats 400000 in
theorem reckons_any (w : World) :
    Calls Try.prog 159 #[] w fun e w' => e = .returned (.pointer (some ⟨w.heap.size, 0, none⟩)) ∧ NamesAt w' w.heap.size reckNames ∧ Below w.heap.size w w' ∧ w.heap.size < w'.heap.size := by
  go_enter Try.func159, Try.ntmps159
  go_wp2
  go_ret
  refine ⟨rfl, names_new _ _ _ _ rfl (by simp [reckNames]), by (repeat (first | with_reducible exact Below.refl _ _ | with_reducible assumption | ((with_reducible refine Below.setCell ?_ ?hp _); case hp => (first | omega | (simp only [World.size_alloc, World.size_setCell, World.size_drew]; omega) | (simp; done) | (simp; omega))) | ((with_reducible refine Below.alloc ?_ ?hp _); case hp => (first | omega | (simp only [World.size_alloc, World.size_setCell, World.size_drew]; omega) | (simp; done) | (simp; omega))) | with_reducible refine Below.drew ?_ | with_reducible refine below_drewN ?_ _)), by simp⟩

set_option maxHeartbeats 400000 in
theorem tests_any (w : World) :
    Calls Try.prog 160 #[] w fun e w' => e = .returned (.pointer (some ⟨w.heap.size, 0, none⟩)) ∧ NamesAt w' w.heap.size testNames ∧ Below w.heap.size w w' ∧ w.heap.size < w'.heap.size := by
  go_enter Try.func160, Try.ntmps160
  go_wp2
  go_ret
  refine ⟨rfl, names_new _ _ _ _ rfl (by simp [testNames]), by (repeat (first | with_reducible exact Below.refl _ _ | with_reducible assumption | ((with_reducible refine Below.setCell ?_ ?hp _); case hp => (first | omega | (simp only [World.size_alloc, World.size_setCell, World.size_drew]; omega) | (simp; done) | (simp; omega))) | ((with_reducible refine Below.alloc ?_ ?hp _); case hp => (first | omega | (simp only [World.size_alloc, World.size_setCell, World.size_drew]; omega) | (simp; done) | (simp; omega))) | with_reducible refine Below.drew ?_ | with_reducible refine below_drewN ?_ _)), by simp⟩

set_option maxHeartbeats 400000 in
theorem behind_any (i n : Nat) (w : World) (hn : n ≤ 1000000) (hi : i ≤ 1000000) :
    Calls Try.prog 106 #[.int .i64 i, .int .i64 n] w fun e w' => e = .returned (.int .u64 (behind i n)) ∧ w = w' := by
  go_enter Try.func106, Try.ntmps106
  go_wp2
  all_goals
    go_ret
    go_light
    refine ⟨?_, rfl⟩
    unfold behind
    first
      | (rw [if_neg (by omega)]; rfl)
      | (rw [if_pos (by omega)]; show Ending.returned (Value.int _ _) = _; congr 2; omega)

set_option maxHeartbeats 400000 in
theorem returns_any (c a b k : Nat) (w : World) :
    Calls Try.prog 65 #[.agg #[.int .u16 c, .int .u8 a, .int .u8 b, .int .u32 k]] w fun e w' => e = .returned (.bool (isRet c)) ∧ Below w.heap.size w w' := by
  go_enter Try.func65, Try.ntmps65
  go_wp2
  all_goals
    go_ret
    go_light
    refine ⟨?_, by (repeat (first | with_reducible exact Below.refl _ _ | with_reducible assumption | ((with_reducible refine Below.setCell ?_ ?hp _); case hp => (first | omega | (simp only [World.size_alloc, World.size_setCell, World.size_drew]; omega) | (simp; done) | (simp; omega))) | ((with_reducible refine Below.alloc ?_ ?hp _); case hp => (first | omega | (simp only [World.size_alloc, World.size_setCell, World.size_drew]; omega) | (simp; done) | (simp; omega))) | with_reducible refine Below.drew ?_ | with_reducible refine below_drewN ?_ _))⟩
    unfold isRet
    first
      | (show Ending.returned (Value.bool true) = _; rw [show c = 6 by omega]; rfl)
      | (show Ending.returned (Value.bool _) = _; congr 2; rw [Bool.eq_iff_iff]; simp; omega)
theorem sided_none (c : Nat) (hc : c < 65536) (h : c % 16 ≠ 4 ∧ c % 16 ≠ 12 ∧ c % 16 ≠ 5 ∧ c % 16 ≠ 13) (w : World) :
    Calls Try.prog 145 #[.int .u16 c] w fun e w' => e = .returned (.tuple #[.pointer none, .string ⟨#[]⟩, .int .i64 (-1)]) ∧ w = w' := by
  have hb := u16_15 c hc
  obtain ⟨h1, h2, h3, h4⟩ := h
  generalize c % 16 = m at *
  have e1 : (((m : Nat) : Int) == 4) = false := by simp; omega
  have e2 : (((m : Nat) : Int) == 12) = false := by simp; omega
  have e3 : (((m : Nat) : Int) == 5) = false := by simp; omega
  have e4 : (((m : Nat) : Int) == 13) = false := by simp; omega
  go_enter Try.func145, Try.ntmps145
  go_wp2
  go_ret3
  exact ⟨rfl, rfl⟩

/-- The side and the form of a low half. -/
def sideOf (c : Nat) : ByteArray := if c % 16 = 4 ∨ c % 16 = 5 then ⟨#[46, 107]⟩ else ⟨#[46, 120]⟩
def sideForm (c : Nat) : Int := if c % 16 = 4 then 1 else if c % 16 = 12 then 0 else if c % 16 = 5 then 5 else 6
def sideName (c : Nat) : ByteArray := if c % 16 = 4 ∨ c % 16 = 12 then reckNames.getD (c / 16) default else testNames.getD (c / 16) default

theorem sided_some (c : Nat) (hc : c < 256) (h : c % 16 = 4 ∨ c % 16 = 12 ∨ c % 16 = 5 ∨ c % 16 = 13) (w : World) :
    Calls Try.prog 145 #[.int .u16 c] w fun e w' => e = .returned (.tuple #[.pointer (some ⟨w.heap.size, 0, none⟩), .string (sideOf c), .int .i64 (sideForm c)]) ∧
      w'.cell? ⟨w.heap.size, c / 16, none⟩ = some (.string (sideName c)) ∧ Below w.heap.size w w' ∧ w.heap.size < w'.heap.size := by
  have hb := u16_15 c (by omega)
  have hd : c / 16 < 16 := by omega
  unfold sideOf sideForm sideName
  rcases h with h | h | h | h
  · rw [h] at hb
    go_enter Try.func145, Try.ntmps145
    go_wp2_with (go_at_call 159; refine (reckons_any _).mono ?_; rintro e w' ⟨rfl, hn, hbel, hsz⟩)
    go_ret3
    refine ⟨by simp [h], ?_, hbel, hsz⟩
    rw [hn _ hd]; simp [h]
  · rw [h] at hb
    go_enter Try.func145, Try.ntmps145
    go_wp2_with (go_at_call 159; refine (reckons_any _).mono ?_; rintro e w' ⟨rfl, hn, hbel, hsz⟩)
    go_ret3
    refine ⟨by simp [h], ?_, hbel, hsz⟩
    rw [hn _ hd]; simp [h]
  · rw [h] at hb
    go_enter Try.func145, Try.ntmps145
    go_wp2_with (go_at_call 160; refine (tests_any _).mono ?_; rintro e w' ⟨rfl, hn, hbel, hsz⟩)
    go_ret3
    refine ⟨by simp [h], ?_, hbel, hsz⟩
    rw [hn _ hd]; simp [h]
  · rw [h] at hb
    go_enter Try.func145, Try.ntmps145
    go_wp2_with (go_at_call 160; refine (tests_any _).mono ?_; rintro e w' ⟨rfl, hn, hbel, hsz⟩)
    go_ret3
    refine ⟨by simp [h], ?_, hbel, hsz⟩
    rw [hn _ hd]; simp [h]

end Go.Proofs.Ytfjbanfibmpalaa

/- Contracts of layer 2: insn.Form, insn.Bare. -/
set_option linter.unusedVariables false
set_option linter.unusedSimpArgs false
namespace Go.Proofs.Ytfjbanfibmpalaa
open Go.RowKit

theorem side_facts (c : Nat) (hc : c < 256) (h : c % 16 = 4 ∨ c % 16 = 12 ∨ c % 16 = 5 ∨ c % 16 = 13) (hs : (single c).2 < 0) :
    ((sideName c).toList.isEmpty = true → form c = -1) ∧ ((sideName c).toList.isEmpty = false → form c = sideForm c) := by
  have : ∀ c : Fin 256, (c.val % 16 = 4 ∨ c.val % 16 = 12 ∨ c.val % 16 = 5 ∨ c.val % 16 = 13) → (single c.val).2 < 0 →
      ((sideName c.val).toList.isEmpty = true → form c.val = -1) ∧ ((sideName c.val).toList.isEmpty = false → form c.val = sideForm c.val) := by decide +kernel
  exact this ⟨c, hc⟩ h hs

set_option maxHeartbeats 400000 in
theorem form_any (c : Nat) (hc : c < 65536) (w : World) :
    Calls Try.prog 105 #[.int .u16 c] w fun e w' => e = .returned (.int .i64 (form c)) ∧ Below w.heap.size w w' := by
  by_cases hs : 0 ≤ (single c).2
  · have hf : form c = (single c).2 := by unfold form; rw [if_pos hs]
    have HF := Lib.hid hf
    clear hf
    go_enter Try.func105, Try.ntmps105
    go_wp2_with (go_at_call 144; refine (single_any c _).mono ?_; rintro e w' ⟨rfl, rfl⟩)
    go_ret
    exact ⟨by rw [HF.out]; rfl, by (repeat (first | with_reducible exact Below.refl _ _ | with_reducible assumption | ((with_reducible refine Below.setCell ?_ ?hp _); case hp => (first | omega | (simp only [World.size_alloc, World.size_setCell, World.size_drew]; omega) | (simp; done) | (simp; omega))) | ((with_reducible refine Below.alloc ?_ ?hp _); case hp => (first | omega | (simp only [World.size_alloc, World.size_setCell, World.size_drew]; omega) | (simp; done) | (simp; omega))) | with_reducible refine Below.drew ?_ | with_reducible refine below_drewN ?_ _))⟩
  · have hs' : (single c).2 < 0 := by omega
    by_cases hb : 256 ≤ c
    · have hf : form c = (single c).2 := by unfold form; rw [if_neg hs, if_pos hb, single_big c hb]
      have HF := Lib.hid hf
      clear hf
      go_enter Try.func105, Try.ntmps105
      go_wp2_with (go_at_call 144; refine (single_any c _).mono ?_; rintro e w' ⟨rfl, rfl⟩)
      go_ret
      exact ⟨by rw [HF.out]; rfl, by (repeat (first | with_reducible exact Below.refl _ _ | with_reducible assumption | ((with_reducible refine Below.setCell ?_ ?hp _); case hp => (first | omega | (simp only [World.size_alloc, World.size_setCell, World.size_drew]; omega) | (simp; done) | (simp; omega))) | ((with_reducible refine Below.alloc ?_ ?hp _); case hp => (first | omega | (simp only [World.size_alloc, World.size_setCell, World.size_drew]; omega) | (simp; done) | (simp; omega))) | with_reducible refine Below.drew ?_ | with_reducible refine below_drewN ?_ _))⟩
    · by_cases h : c % 16 = 4 ∨ c % 16 = 12 ∨ c % 16 = 5 ∨ c % 16 = 13
      · have HX := Lib.hid (side_facts c (by omega) h hs')
        go_enter Try.func105, Try.ntmps105
        go_wp2_with (first
          | (go_at_call 144; refine (single_any c _).mono ?_; rintro e w' ⟨rfl, rfl⟩)
          | (go_at_call 145; refine (sided_some c (by omega) h _).mono ?_; rintro e w' ⟨rfl, hcell, hbel, hsz⟩))
        · go_ret
          exact ⟨by rw [HX.out.1 (by assumption)]; rfl, hbel⟩
        · go_ret
          exact ⟨by rw [HX.out.2 (by assumption)]; rfl, hbel⟩
      · have hf : form c = -1 := by unfold form; rw [if_neg hs, if_neg hb, if_neg (by omega), if_neg (by omega), if_neg (by omega), if_neg (by omega)]
        have HF := Lib.hid hf
        clear hf
        go_enter Try.func105, Try.ntmps105
        go_wp2_with (first
          | (go_at_call 144; refine (single_any c _).mono ?_; rintro e w' ⟨rfl, rfl⟩)
          | (go_at_call 145; refine (sided_none c (by omega) (by omega) _).mono ?_; rintro e w' ⟨rfl, rfl⟩))
        go_ret
        exact ⟨by rw [HF.out]; rfl, by (repeat (first | with_reducible exact Below.refl _ _ | with_reducible assumption | ((with_reducible refine Below.setCell ?_ ?hp _); case hp => (first | omega | (simp only [World.size_alloc, World.size_setCell, World.size_drew]; omega) | (simp; done) | (simp; omega))) | ((with_reducible refine Below.alloc ?_ ?hp _); case hp => (first | omega | (simp only [World.size_alloc, World.size_setCell, World.size_drew]; omega) | (simp; done) | (simp; omega))) | with_reducible refine Below.drew ?_ | with_reducible refine below_drewN ?_ _))⟩

set_option maxHeartbeats 400000 in
theorem bare_m1 (x : Insn) (hc : x.code < 65536) (hf : form x.code = -1) (w : World) :
    Calls Try.prog 142 #[(Value.agg #[.int .u16 x.code, .int .u8 x.jt, .int .u8 x.jf, .int .u32 x.k])] w fun e w' => e = .returned (.agg #[.int .u16 x.code, .int .u8 x.jt, .int .u8 x.jf, .int .u32 x.k]) ∧ Below w.heap.size w w' := by
  have HF := Lib.hid hf
  clear hf
  go_enter Try.func142, Try.ntmps142
  go_wp2_with (go_at_call 105; refine (form_any x.code hc _).mono ?_; rw [HF.out]; rintro e w' ⟨rfl, hb⟩; (obtain ⟨hb_c, hb_f⟩ := bcell hb; have hb_z := (hb).size; have hb_0 : Below w.heap.size w _ := Below.trans (by (repeat (first | with_reducible exact Below.refl _ _ | with_reducible assumption | ((with_reducible refine Below.setCell ?_ ?hp _); case hp => (first | omega | (simp only [World.size_alloc, World.size_setCell, World.size_drew]; omega) | (simp; done) | (simp; omega))) | ((with_reducible refine Below.alloc ?_ ?hp _); case hp => (first | omega | (simp only [World.size_alloc, World.size_setCell, World.size_drew]; omega) | (simp; done) | (simp; omega))) | with_reducible refine Below.drew ?_ | with_reducible refine below_drewN ?_ _))) ((hb).mono (by (first | omega | (simp only [World.size_alloc, World.size_setCell, World.size_drew]; omega) | (simp; done) | (simp; omega)))); (try simp only [World.size_alloc, World.size_setCell, World.size_drew] at hb_z hb_c hb_f); clear hb); (have hb_k0 := hb_c (w.heap.size) 0 (by omega); simp [go_sem] at hb_k0; have hb_k1 := hb_c (w.heap.size) 1 (by omega); simp [go_sem] at hb_k1; have hb_k2 := hb_c (w.heap.size) 2 (by omega); simp [go_sem] at hb_k2; have hb_k3 := hb_c (w.heap.size) 3 (by omega); simp [go_sem] at hb_k3); (have hb_r0 := hb_c (w.heap.size+1) 0 (by omega); simp [go_sem] at hb_r0; have hb_r1 := hb_c (w.heap.size+1) 1 (by omega); simp [go_sem] at hb_r1; have hb_r2 := hb_c (w.heap.size+1) 2 (by omega); simp [go_sem] at hb_r2; have hb_r3 := hb_c (w.heap.size+1) 3 (by omega); simp [go_sem] at hb_r3))
  refine bodyPost_ret (by simp [results, Try.results142, go_sem, hb_k0, hb_k1, hb_k2, hb_k3, hb_r0, hb_r1, hb_r2, hb_r3]) rfl ⟨rfl, ?_⟩
  (repeat (first | with_reducible exact Below.refl _ _ | with_reducible assumption | ((with_reducible refine Below.setCell ?_ ?hp _); case hp => (first | omega | (simp only [World.size_alloc, World.size_setCell, World.size_drew]; omega) | (simp; done) | (simp; omega))) | ((with_reducible refine Below.alloc ?_ ?hp _); case hp => (first | omega | (simp only [World.size_alloc, World.size_setCell, World.size_drew]; omega) | (simp; done) | (simp; omega))) | with_reducible refine Below.drew ?_ | with_reducible refine below_drewN ?_ _))

set_option maxHeartbeats 400000 in
theorem bare_0 (x : Insn) (hc : x.code < 65536) (hf : form x.code = 0) (w : World) :
    Calls Try.prog 142 #[(Value.agg #[.int .u16 x.code, .int .u8 x.jt, .int .u8 x.jf, .int .u32 x.k])] w fun e w' => e = .returned (.agg #[.int .u16 x.code, .int .u8 0, .int .u8 0, .int .u32 0]) ∧ Below w.heap.size w w' := by
  have HF := Lib.hid hf
  clear hf
  go_enter Try.func142, Try.ntmps142
  go_wp2_with (go_at_call 105; refine (form_any x.code hc _).mono ?_; rw [HF.out]; rintro e w' ⟨rfl, hb⟩; (obtain ⟨hb_c, hb_f⟩ := bcell hb; have hb_z := (hb).size; have hb_0 : Below w.heap.size w _ := Below.trans (by (repeat (first | with_reducible exact Below.refl _ _ | with_reducible assumption | ((with_reducible refine Below.setCell ?_ ?hp _); case hp => (first | omega | (simp only [World.size_alloc, World.size_setCell, World.size_drew]; omega) | (simp; done) | (simp; omega))) | ((with_reducible refine Below.alloc ?_ ?hp _); case hp => (first | omega | (simp only [World.size_alloc, World.size_setCell, World.size_drew]; omega) | (simp; done) | (simp; omega))) | with_reducible refine Below.drew ?_ | with_reducible refine below_drewN ?_ _))) ((hb).mono (by (first | omega | (simp only [World.size_alloc, World.size_setCell, World.size_drew]; omega) | (simp; done) | (simp; omega)))); (try simp only [World.size_alloc, World.size_setCell, World.size_drew] at hb_z hb_c hb_f); clear hb); (have hb_k0 := hb_c (w.heap.size) 0 (by omega); simp [go_sem] at hb_k0; have hb_k1 := hb_c (w.heap.size) 1 (by omega); simp [go_sem] at hb_k1; have hb_k2 := hb_c (w.heap.size) 2 (by omega); simp [go_sem] at hb_k2; have hb_k3 := hb_c (w.heap.size) 3 (by omega); simp [go_sem] at hb_k3); (have hb_r0 := hb_c (w.heap.size+1) 0 (by omega); simp [go_sem] at hb_r0; have hb_r1 := hb_c (w.heap.size+1) 1 (by omega); simp [go_sem] at hb_r1; have hb_r2 := hb_c (w.heap.size+1) 2 (by omega); simp [go_sem] at hb_r2; have hb_r3 := hb_c (w.heap.size+1) 3 (by omega); simp [go_sem] at hb_r3))
  refine bodyPost_ret (by simp [results, Try.results142, go_sem, hb_k0, hb_k1, hb_k2, hb_k3, hb_r0, hb_r1, hb_r2, hb_r3]) rfl ⟨rfl, ?_⟩
  (repeat (first | with_reducible exact Below.refl _ _ | with_reducible assumption | ((with_reducible refine Below.setCell ?_ ?hp _); case hp => (first | omega | (simp only [World.size_alloc, World.size_setCell, World.size_drew]; omega) | (simp; done) | (simp; omega))) | ((with_reducible refine Below.alloc ?_ ?hp _); case hp => (first | omega | (simp only [World.size_alloc, World.size_setCell, World.size_drew]; omega) | (simp; done) | (simp; omega))) | with_reducible refine Below.drew ?_ | with_reducible refine below_drewN ?_ _))

set_option maxHeartbeats 400000 in
theorem bare_1 (x : Insn) (hc : x.code < 65536) (hf : form x.code = 1) (w : World) :
    Calls Try.prog 142 #[(Value.agg #[.int .u16 x.code, .int .u8 x.jt, .int .u8 x.jf, .int .u32 x.k])] w fun e w' => e = .returned (.agg #[.int .u16 x.code, .int .u8 0, .int .u8 0, .int .u32 x.k]) ∧ Below w.heap.size w w' := by
  have HF := Lib.hid hf
  clear hf
  go_enter Try.func142, Try.ntmps142
  go_wp2_with (go_at_call 105; refine (form_any x.code hc _).mono ?_; rw [HF.out]; rintro e w' ⟨rfl, hb⟩; (obtain ⟨hb_c, hb_f⟩ := bcell hb; have hb_z := (hb).size; have hb_0 : Below w.heap.size w _ := Below.trans (by (repeat (first | with_reducible exact Below.refl _ _ | with_reducible assumption | ((with_reducible refine Below.setCell ?_ ?hp _); case hp => (first | omega | (simp only [World.size_alloc, World.size_setCell, World.size_drew]; omega) | (simp; done) | (simp; omega))) | ((with_reducible refine Below.alloc ?_ ?hp _); case hp => (first | omega | (simp only [World.size_alloc, World.size_setCell, World.size_drew]; omega) | (simp; done) | (simp; omega))) | with_reducible refine Below.drew ?_ | with_reducible refine below_drewN ?_ _))) ((hb).mono (by (first | omega | (simp only [World.size_alloc, World.size_setCell, World.size_drew]; omega) | (simp; done) | (simp; omega)))); (try simp only [World.size_alloc, World.size_setCell, World.size_drew] at hb_z hb_c hb_f); clear hb); (have hb_k0 := hb_c (w.heap.size) 0 (by omega); simp [go_sem] at hb_k0; have hb_k1 := hb_c (w.heap.size) 1 (by omega); simp [go_sem] at hb_k1; have hb_k2 := hb_c (w.heap.size) 2 (by omega); simp [go_sem] at hb_k2; have hb_k3 := hb_c (w.heap.size) 3 (by omega); simp [go_sem] at hb_k3); (have hb_r0 := hb_c (w.heap.size+1) 0 (by omega); simp [go_sem] at hb_r0; have hb_r1 := hb_c (w.heap.size+1) 1 (by omega); simp [go_sem] at hb_r1; have hb_r2 := hb_c (w.heap.size+1) 2 (by omega); simp [go_sem] at hb_r2; have hb_r3 := hb_c (w.heap.size+1) 3 (by omega); simp [go_sem] at hb_r3))
  refine bodyPost_ret (by simp [results, Try.results142, go_sem, hb_k0, hb_k1, hb_k2, hb_k3, hb_r0, hb_r1, hb_r2, hb_r3]) rfl ⟨rfl, ?_⟩
  (repeat (first | with_reducible exact Below.refl _ _ | with_reducible assumption | ((with_reducible refine Below.setCell ?_ ?hp _); case hp => (first | omega | (simp only [World.size_alloc, World.size_setCell, World.size_drew]; omega) | (simp; done) | (simp; omega))) | ((with_reducible refine Below.alloc ?_ ?hp _); case hp => (first | omega | (simp only [World.size_alloc, World.size_setCell, World.size_drew]; omega) | (simp; done) | (simp; omega))) | with_reducible refine Below.drew ?_ | with_reducible refine below_drewN ?_ _))

set_option maxHeartbeats 400000 in
theorem bare_2 (x : Insn) (hc : x.code < 65536) (hf : form x.code = 2) (w : World) :
    Calls Try.prog 142 #[(Value.agg #[.int .u16 x.code, .int .u8 x.jt, .int .u8 x.jf, .int .u32 x.k])] w fun e w' => e = .returned (.agg #[.int .u16 x.code, .int .u8 0, .int .u8 0, .int .u32 x.k]) ∧ Below w.heap.size w w' := by
  have HF := Lib.hid hf
  clear hf
  go_enter Try.func142, Try.ntmps142
  go_wp2_with (go_at_call 105; refine (form_any x.code hc _).mono ?_; rw [HF.out]; rintro e w' ⟨rfl, hb⟩; (obtain ⟨hb_c, hb_f⟩ := bcell hb; have hb_z := (hb).size; have hb_0 : Below w.heap.size w _ := Below.trans (by (repeat (first | with_reducible exact Below.refl _ _ | with_reducible assumption | ((with_reducible refine Below.setCell ?_ ?hp _); case hp => (first | omega | (simp only [World.size_alloc, World.size_setCell, World.size_drew]; omega) | (simp; done) | (simp; omega))) | ((with_reducible refine Below.alloc ?_ ?hp _); case hp => (first | omega | (simp only [World.size_alloc, World.size_setCell, World.size_drew]; omega) | (simp; done) | (simp; omega))) | with_reducible refine Below.drew ?_ | with_reducible refine below_drewN ?_ _))) ((hb).mono (by (first | omega | (simp only [World.size_alloc, World.size_setCell, World.size_drew]; omega) | (simp; done) | (simp; omega)))); (try simp only [World.size_alloc, World.size_setCell, World.size_drew] at hb_z hb_c hb_f); clear hb); (have hb_k0 := hb_c (w.heap.size) 0 (by omega); simp [go_sem] at hb_k0; have hb_k1 := hb_c (w.heap.size) 1 (by omega); simp [go_sem] at hb_k1; have hb_k2 := hb_c (w.heap.size) 2 (by omega); simp [go_sem] at hb_k2; have hb_k3 := hb_c (w.heap.size) 3 (by omega); simp [go_sem] at hb_k3); (have hb_r0 := hb_c (w.heap.size+1) 0 (by omega); simp [go_sem] at hb_r0; have hb_r1 := hb_c (w.heap.size+1) 1 (by omega); simp [go_sem] at hb_r1; have hb_r2 := hb_c (w.heap.size+1) 2 (by omega); simp [go_sem] at hb_r2; have hb_r3 := hb_c (w.heap.size+1) 3 (by omega); simp [go_sem] at hb_r3))
  refine bodyPost_ret (by simp [results, Try.results142, go_sem, hb_k0, hb_k1, hb_k2, hb_k3, hb_r0, hb_r1, hb_r2, hb_r3]) rfl ⟨rfl, ?_⟩
  (repeat (first | with_reducible exact Below.refl _ _ | with_reducible assumption | ((with_reducible refine Below.setCell ?_ ?hp _); case hp => (first | omega | (simp only [World.size_alloc, World.size_setCell, World.size_drew]; omega) | (simp; done) | (simp; omega))) | ((with_reducible refine Below.alloc ?_ ?hp _); case hp => (first | omega | (simp only [World.size_alloc, World.size_setCell, World.size_drew]; omega) | (simp; done) | (simp; omega))) | with_reducible refine Below.drew ?_ | with_reducible refine below_drewN ?_ _))

set_option maxHeartbeats 400000 in
theorem bare_3 (x : Insn) (hc : x.code < 65536) (hf : form x.code = 3) (w : World) :
    Calls Try.prog 142 #[(Value.agg #[.int .u16 x.code, .int .u8 x.jt, .int .u8 x.jf, .int .u32 x.k])] w fun e w' => e = .returned (.agg #[.int .u16 x.code, .int .u8 0, .int .u8 0, .int .u32 x.k]) ∧ Below w.heap.size w w' := by
  have HF := Lib.hid hf
  clear hf
  go_enter Try.func142, Try.ntmps142
  go_wp2_with (go_at_call 105; refine (form_any x.code hc _).mono ?_; rw [HF.out]; rintro e w' ⟨rfl, hb⟩; (obtain ⟨hb_c, hb_f⟩ := bcell hb; have hb_z := (hb).size; have hb_0 : Below w.heap.size w _ := Below.trans (by (repeat (first | with_reducible exact Below.refl _ _ | with_reducible assumption | ((with_reducible refine Below.setCell ?_ ?hp _); case hp => (first | omega | (simp only [World.size_alloc, World.size_setCell, World.size_drew]; omega) | (simp; done) | (simp; omega))) | ((with_reducible refine Below.alloc ?_ ?hp _); case hp => (first | omega | (simp only [World.size_alloc, World.size_setCell, World.size_drew]; omega) | (simp; done) | (simp; omega))) | with_reducible refine Below.drew ?_ | with_reducible refine below_drewN ?_ _))) ((hb).mono (by (first | omega | (simp only [World.size_alloc, World.size_setCell, World.size_drew]; omega) | (simp; done) | (simp; omega)))); (try simp only [World.size_alloc, World.size_setCell, World.size_drew] at hb_z hb_c hb_f); clear hb); (have hb_k0 := hb_c (w.heap.size) 0 (by omega); simp [go_sem] at hb_k0; have hb_k1 := hb_c (w.heap.size) 1 (by omega); simp [go_sem] at hb_k1; have hb_k2 := hb_c (w.heap.size) 2 (by omega); simp [go_sem] at hb_k2; have hb_k3 := hb_c (w.heap.size) 3 (by omega); simp [go_sem] at hb_k3); (have hb_r0 := hb_c (w.heap.size+1) 0 (by omega); simp [go_sem] at hb_r0; have hb_r1 := hb_c (w.heap.size+1) 1 (by omega); simp [go_sem] at hb_r1; have hb_r2 := hb_c (w.heap.size+1) 2 (by omega); simp [go_sem] at hb_r2; have hb_r3 := hb_c (w.heap.size+1) 3 (by omega); simp [go_sem] at hb_r3))
  refine bodyPost_ret (by simp [results, Try.results142, go_sem, hb_k0, hb_k1, hb_k2, hb_k3, hb_r0, hb_r1, hb_r2, hb_r3]) rfl ⟨rfl, ?_⟩
  (repeat (first | with_reducible exact Below.refl _ _ | with_reducible assumption | ((with_reducible refine Below.setCell ?_ ?hp _); case hp => (first | omega | (simp only [World.size_alloc, World.size_setCell, World.size_drew]; omega) | (simp; done) | (simp; omega))) | ((with_reducible refine Below.alloc ?_ ?hp _); case hp => (first | omega | (simp only [World.size_alloc, World.size_setCell, World.size_drew]; omega) | (simp; done) | (simp; omega))) | with_reducible refine Below.drew ?_ | with_reducible refine below_drewN ?_ _))

set_option maxHeartbeats 400000 in
theorem bare_4 (x : Insn) (hc : x.code < 65536) (hf : form x.code = 4) (w : World) :
    Calls Try.prog 142 #[(Value.agg #[.int .u16 x.code, .int .u8 x.jt, .int .u8 x.jf, .int .u32 x.k])] w fun e w' => e = .returned (.agg #[.int .u16 x.code, .int .u8 0, .int .u8 0, .int .u32 x.k]) ∧ Below w.heap.size w w' := by
  have HF := Lib.hid hf
  clear hf
  go_enter Try.func142, Try.ntmps142
  go_wp2_with (go_at_call 105; refine (form_any x.code hc _).mono ?_; rw [HF.out]; rintro e w' ⟨rfl, hb⟩; (obtain ⟨hb_c, hb_f⟩ := bcell hb; have hb_z := (hb).size; have hb_0 : Below w.heap.size w _ := Below.trans (by (repeat (first | with_reducible exact Below.refl _ _ | with_reducible assumption | ((with_reducible refine Below.setCell ?_ ?hp _); case hp => (first | omega | (simp only [World.size_alloc, World.size_setCell, World.size_drew]; omega) | (simp; done) | (simp; omega))) | ((with_reducible refine Below.alloc ?_ ?hp _); case hp => (first | omega | (simp only [World.size_alloc, World.size_setCell, World.size_drew]; omega) | (simp; done) | (simp; omega))) | with_reducible refine Below.drew ?_ | with_reducible refine below_drewN ?_ _))) ((hb).mono (by (first | omega | (simp only [World.size_alloc, World.size_setCell, World.size_drew]; omega) | (simp; done) | (simp; omega)))); (try simp only [World.size_alloc, World.size_setCell, World.size_drew] at hb_z hb_c hb_f); clear hb); (have hb_k0 := hb_c (w.heap.size) 0 (by omega); simp [go_sem] at hb_k0; have hb_k1 := hb_c (w.heap.size) 1 (by omega); simp [go_sem] at hb_k1; have hb_k2 := hb_c (w.heap.size) 2 (by omega); simp [go_sem] at hb_k2; have hb_k3 := hb_c (w.heap.size) 3 (by omega); simp [go_sem] at hb_k3); (have hb_r0 := hb_c (w.heap.size+1) 0 (by omega); simp [go_sem] at hb_r0; have hb_r1 := hb_c (w.heap.size+1) 1 (by omega); simp [go_sem] at hb_r1; have hb_r2 := hb_c (w.heap.size+1) 2 (by omega); simp [go_sem] at hb_r2; have hb_r3 := hb_c (w.heap.size+1) 3 (by omega); simp [go_sem] at hb_r3))
  refine bodyPost_ret (by simp [results, Try.results142, go_sem, hb_k0, hb_k1, hb_k2, hb_k3, hb_r0, hb_r1, hb_r2, hb_r3]) rfl ⟨rfl, ?_⟩
  (repeat (first | with_reducible exact Below.refl _ _ | with_reducible assumption | ((with_reducible refine Below.setCell ?_ ?hp _); case hp => (first | omega | (simp only [World.size_alloc, World.size_setCell, World.size_drew]; omega) | (simp; done) | (simp; omega))) | ((with_reducible refine Below.alloc ?_ ?hp _); case hp => (first | omega | (simp only [World.size_alloc, World.size_setCell, World.size_drew]; omega) | (simp; done) | (simp; omega))) | with_reducible refine Below.drew ?_ | with_reducible refine below_drewN ?_ _))

set_option maxHeartbeats 400000 in
theorem bare_5 (x : Insn) (hc : x.code < 65536) (hf : form x.code = 5) (w : World) :
    Calls Try.prog 142 #[(Value.agg #[.int .u16 x.code, .int .u8 x.jt, .int .u8 x.jf, .int .u32 x.k])] w fun e w' => e = .returned (.agg #[.int .u16 x.code, .int .u8 x.jt, .int .u8 x.jf, .int .u32 x.k]) ∧ Below w.heap.size w w' := by
  have HF := Lib.hid hf
  clear hf
  go_enter Try.func142, Try.ntmps142
  go_wp2_with (go_at_call 105; refine (form_any x.code hc _).mono ?_; rw [HF.out]; rintro e w' ⟨rfl, hb⟩; (obtain ⟨hb_c, hb_f⟩ := bcell hb; have hb_z := (hb).size; have hb_0 : Below w.heap.size w _ := Below.trans (by (repeat (first | with_reducible exact Below.refl _ _ | with_reducible assumption | ((with_reducible refine Below.setCell ?_ ?hp _); case hp => (first | omega | (simp only [World.size_alloc, World.size_setCell, World.size_drew]; omega) | (simp; done) | (simp; omega))) | ((with_reducible refine Below.alloc ?_ ?hp _); case hp => (first | omega | (simp only [World.size_alloc, World.size_setCell, World.size_drew]; omega) | (simp; done) | (simp; omega))) | with_reducible refine Below.drew ?_ | with_reducible refine below_drewN ?_ _))) ((hb).mono (by (first | omega | (simp only [World.size_alloc, World.size_setCell, World.size_drew]; omega) | (simp; done) | (simp; omega)))); (try simp only [World.size_alloc, World.size_setCell, World.size_drew] at hb_z hb_c hb_f); clear hb); (have hb_k0 := hb_c (w.heap.size) 0 (by omega); simp [go_sem] at hb_k0; have hb_k1 := hb_c (w.heap.size) 1 (by omega); simp [go_sem] at hb_k1; have hb_k2 := hb_c (w.heap.size) 2 (by omega); simp [go_sem] at hb_k2; have hb_k3 := hb_c (w.heap.size) 3 (by omega); simp [go_sem] at hb_k3); (have hb_r0 := hb_c (w.heap.size+1) 0 (by omega); simp [go_sem] at hb_r0; have hb_r1 := hb_c (w.heap.size+1) 1 (by omega); simp [go_sem] at hb_r1; have hb_r2 := hb_c (w.heap.size+1) 2 (by omega); simp [go_sem] at hb_r2; have hb_r3 := hb_c (w.heap.size+1) 3 (by omega); simp [go_sem] at hb_r3))
  refine bodyPost_ret (by simp [results, Try.results142, go_sem, hb_k0, hb_k1, hb_k2, hb_k3, hb_r0, hb_r1, hb_r2, hb_r3]) rfl ⟨rfl, ?_⟩
  (repeat (first | with_reducible exact Below.refl _ _ | with_reducible assumption | ((with_reducible refine Below.setCell ?_ ?hp _); case hp => (first | omega | (simp only [World.size_alloc, World.size_setCell, World.size_drew]; omega) | (simp; done) | (simp; omega))) | ((with_reducible refine Below.alloc ?_ ?hp _); case hp => (first | omega | (simp only [World.size_alloc, World.size_setCell, World.size_drew]; omega) | (simp; done) | (simp; omega))) | with_reducible refine Below.drew ?_ | with_reducible refine below_drewN ?_ _))

set_option maxHeartbeats 400000 in
theorem bare_6 (x : Insn) (hc : x.code < 65536) (hf : form x.code = 6) (w : World) :
    Calls Try.prog 142 #[(Value.agg #[.int .u16 x.code, .int .u8 x.jt, .int .u8 x.jf, .int .u32 x.k])] w fun e w' => e = .returned (.agg #[.int .u16 x.code, .int .u8 x.jt, .int .u8 x.jf, .int .u32 0]) ∧ Below w.heap.size w w' := by
  have HF := Lib.hid hf
  clear hf
  go_enter Try.func142, Try.ntmps142
  go_wp2_with (go_at_call 105; refine (form_any x.code hc _).mono ?_; rw [HF.out]; rintro e w' ⟨rfl, hb⟩; (obtain ⟨hb_c, hb_f⟩ := bcell hb; have hb_z := (hb).size; have hb_0 : Below w.heap.size w _ := Below.trans (by (repeat (first | with_reducible exact Below.refl _ _ | with_reducible assumption | ((with_reducible refine Below.setCell ?_ ?hp _); case hp => (first | omega | (simp only [World.size_alloc, World.size_setCell, World.size_drew]; omega) | (simp; done) | (simp; omega))) | ((with_reducible refine Below.alloc ?_ ?hp _); case hp => (first | omega | (simp only [World.size_alloc, World.size_setCell, World.size_drew]; omega) | (simp; done) | (simp; omega))) | with_reducible refine Below.drew ?_ | with_reducible refine below_drewN ?_ _))) ((hb).mono (by (first | omega | (simp only [World.size_alloc, World.size_setCell, World.size_drew]; omega) | (simp; done) | (simp; omega)))); (try simp only [World.size_alloc, World.size_setCell, World.size_drew] at hb_z hb_c hb_f); clear hb); (have hb_k0 := hb_c (w.heap.size) 0 (by omega); simp [go_sem] at hb_k0; have hb_k1 := hb_c (w.heap.size) 1 (by omega); simp [go_sem] at hb_k1; have hb_k2 := hb_c (w.heap.size) 2 (by omega); simp [go_sem] at hb_k2; have hb_k3 := hb_c (w.heap.size) 3 (by omega); simp [go_sem] at hb_k3); (have hb_r0 := hb_c (w.heap.size+1) 0 (by omega); simp [go_sem] at hb_r0; have hb_r1 := hb_c (w.heap.size+1) 1 (by omega); simp [go_sem] at hb_r1; have hb_r2 := hb_c (w.heap.size+1) 2 (by omega); simp [go_sem] at hb_r2; have hb_r3 := hb_c (w.heap.size+1) 3 (by omega); simp [go_sem] at hb_r3))
  refine bodyPost_ret (by simp [results, Try.results142, go_sem, hb_k0, hb_k1, hb_k2, hb_k3, hb_r0, hb_r1, hb_r2, hb_r3]) rfl ⟨rfl, ?_⟩
  (repeat (first | with_reducible exact Below.refl _ _ | with_reducible assumption | ((with_reducible refine Below.setCell ?_ ?hp _); case hp => (first | omega | (simp only [World.size_alloc, World.size_setCell, World.size_drew]; omega) | (simp; done) | (simp; omega))) | ((with_reducible refine Below.alloc ?_ ?hp _); case hp => (first | omega | (simp only [World.size_alloc, World.size_setCell, World.size_drew]; omega) | (simp; done) | (simp; omega))) | with_reducible refine Below.drew ?_ | with_reducible refine below_drewN ?_ _))

theorem bare_any (x : Insn) (hx : x.Ok) (w : World) :
    Calls Try.prog 142 #[(Value.agg #[.int .u16 x.code, .int .u8 x.jt, .int .u8 x.jf, .int .u32 x.k])] w fun e w' => e = .returned (Value.agg #[.int .u16 (bare x).code, .int .u8 (bare x).jt, .int .u8 (bare x).jf, .int .u32 (bare x).k]) ∧ Below w.heap.size w w' := by
  have hc := hx.code
  rcases form_vals x.code with hf | hf | hf | hf | hf | hf | hf | hf
  · rw [show bare x = x by unfold bare; simp [hf]]; exact bare_m1 x hc hf w
  · rw [show bare x = ⟨x.code, 0, 0, 0⟩ by unfold bare; simp [hf]]; exact bare_0 x hc hf w
  · rw [show bare x = ⟨x.code, 0, 0, x.k⟩ by unfold bare; simp [hf]]; exact bare_1 x hc hf w
  · rw [show bare x = ⟨x.code, 0, 0, x.k⟩ by unfold bare; simp [hf]]; exact bare_2 x hc hf w
  · rw [show bare x = ⟨x.code, 0, 0, x.k⟩ by unfold bare; simp [hf]]; exact bare_3 x hc hf w
  · rw [show bare x = ⟨x.code, 0, 0, x.k⟩ by unfold bare; simp [hf]]; exact bare_4 x hc hf w
  · rw [show bare x = x by unfold bare; simp [hf]]; exact bare_5 x hc hf w
  · rw [show bare x = ⟨x.code, x.jt, x.jf, 0⟩ by unfold bare; simp [hf]]; exact bare_6 x hc hf w

end Go.Proofs.Ytfjbanfibmpalaa

/- Words: rows that a call made itself and may write (lists of anything of fixed size); append by them. -/
set_option linter.unusedVariables false
set_option linter.unusedSimpArgs false
namespace Go.Proofs.Ytfjbanfibmpalaa
open Go.RowKit

/-- How a Lean datum lies in cells. -/
structure Enc (α : Type) where
  enc : α → List Value
  size : Nat
  len : ∀ x, (enc x).length = size
  one : ∀ x, ∀ u ∈ enc x, u.oneCell' = true

def Enc.flat {α : Type} (E : Enc α) (l : List α) : List Value := l.flatMap E.enc

theorem Enc.flat_len {α : Type} (E : Enc α) (l : List α) : (E.flat l).length = l.length * E.size := by
  induction l with
  | nil => simp [Enc.flat]
  | cons x r ih =>
    have : E.flat (x :: r) = E.enc x ++ E.flat r := rfl
    rw [this, List.length_append, ih, E.len, List.length_cons, Nat.succ_mul, Nat.add_comm]

theorem Enc.flat_get {α : Type} (E : Enc α) (l : List α) : ∀ (i : Nat) (hi : i < l.length) (r : Nat), r < E.size → (E.flat l)[i * E.size + r]? = (E.enc (l[i]'hi))[r]? := by
  induction l with
  | nil => intro i hi; simp at hi
  | cons x t ih =>
    intro i hi r hr
    have e : E.flat (x :: t) = E.enc x ++ E.flat t := rfl
    rw [e]
    cases i with
    | zero =>
      rw [Nat.zero_mul, Nat.zero_add, List.getElem?_append_left (by rw [E.len]; exact hr)]
      rfl
    | succ i =>
      rw [List.getElem?_append_right (by rw [E.len, Nat.succ_mul]; omega), E.len, show (i + 1) * E.size + r - E.size = i * E.size + r by rw [Nat.succ_mul]; omega]
      exact ih i (by simpa using hi) r hr

theorem Enc.flat_one {α : Type} (E : Enc α) (l : List α) : ∀ u ∈ E.flat l, u.oneCell' = true := by
  intro u hu
  obtain ⟨x, _, hx⟩ := List.mem_flatMap.1 hu
  exact E.one x u hx

theorem Enc.flat_append {α : Type} (E : Enc α) (a b : List α) : E.flat (a ++ b) = E.flat a ++ E.flat b := by simp [Enc.flat]

/-- The cells of a list from an address on. -/
def Enc.at_ {α : Type} (E : Enc α) (w : World) (b o : Nat) (l : List α) : Prop := ∀ i (h : i < l.length) (r : Nat) (u : Value), (E.enc (l[i]'h))[r]? = some u → w.cell? ⟨b, o + i * E.size + r, none⟩ = some u

theorem Enc.at_flat {α : Type} {E : Enc α} {w : World} {b o : Nat} {l : List α} (h : E.at_ w b o l) : ∀ j u, (E.flat l)[j]? = some u → w.cell? ((⟨b, o, none⟩ : Addr).add j) = some u := by
  intro j u hj
  have hlt : j < (E.flat l).length := by
    rcases Nat.lt_or_ge j (E.flat l).length with h | h
    · exact h
    · rw [List.getElem?_eq_none h] at hj; cases hj
  rw [E.flat_len] at hlt
  have hs : 0 < E.size := by
    rcases Nat.eq_zero_or_pos E.size with h0 | h0
    · rw [h0] at hlt; omega
    · exact h0
  have hi : j / E.size < l.length := by rw [Nat.div_lt_iff_lt_mul hs]; exact hlt
  have hr : j % E.size < E.size := Nat.mod_lt _ hs
  have e : j / E.size * E.size + j % E.size = j := by rw [Nat.mul_comm]; exact Nat.div_add_mod j E.size
  have hg := E.flat_get l _ hi _ hr
  rw [e] at hg
  have := h _ hi _ u (hg ▸ hj)
  rw [Nat.add_assoc, e] at this
  unfold Addr.add
  split
  · rename_i h0; subst h0; simpa using this
  · exact this

/-- A slice that reads as a list. -/
structure Enc.Rd {α : Type} (E : Enc α) (w : World) (A : Option Addr) (l : List α) : Prop where
  at_ : l ≠ [] → ∃ b o, A = some ⟨b, o, none⟩ ∧ b < w.heap.size ∧ E.at_ w b o l

theorem Enc.at_.keep {α : Type} {E : Enc α} {w w' : World} {b o : Nat} {l : List α} (h : E.at_ w b o l) (hk : ∀ o, w'.cell? ⟨b, o, none⟩ = w.cell? ⟨b, o, none⟩) : E.at_ w' b o l :=
  fun i hi r u hu => (hk _).trans (h i hi r u hu)

theorem Enc.Rd.below {α : Type} {E : Enc α} {w w' : World} {A : Option Addr} {l : List α} (h : E.Rd w A l) {B : Nat} (hb : Below B w w') (hB : w.heap.size ≤ B) : E.Rd w' A l :=
  ⟨fun hl => by
    obtain ⟨b, o, rfl, hlt, hc⟩ := h.at_ hl
    exact ⟨b, o, rfl, Nat.lt_of_lt_of_le hlt hb.size, hc.keep fun o => hb.cell (p := ⟨b, o, none⟩) (Nat.lt_of_lt_of_le hlt hB)⟩⟩

theorem Enc.Rd.get {α : Type} {E : Enc α} {w : World} {A : Option Addr} {l : List α} (h : E.Rd w A l) {i : Nat} (hi : i < l.length) :
    ∃ b o, A = some ⟨b, o, none⟩ ∧ b < w.heap.size ∧ E.at_ w b o l :=
  h.at_ (by intro e; subst e; simp at hi)

/-- A row of the call's own that holds a list. -/
def Enc.Own {α : Type} (E : Enc α) (e : TypeId) (w : World) (base : Nat) (A : Option Addr) (c : Nat) (l : List α) : Prop :=
  w.ownsRow base e E.size (.slice A l.length c) l.length (E.flat l)

section
variable {α : Type} {E : Enc α} {e : TypeId} {w w' : World} {base : Nat} {A : Option Addr} {c : Nat} {l : List α}

theorem Enc.Own.nil : E.Own e w base none 0 [] := ⟨by simp [Enc.flat], .inl ⟨rfl, rfl⟩⟩

theorem Enc.Own.fresh (E : Enc α) (w : World) (e : TypeId) : E.Own e (w.alloc (.cells #[] e)) w.heap.size (some ⟨w.heap.size, 0, none⟩) 0 [] :=
  ⟨by simp [Enc.flat], .inr ⟨w.heap.size, 0, #[], rfl, Nat.le_refl _, heap_alloc_new w _, Nat.le_refl _, by unfold maxLen; omega, by simp, by simp [Enc.flat]⟩⟩

theorem Enc.Own.form (h : E.Own e w base A c l) (hl : l ≠ []) : ∃ g, A = some ⟨g, 0, none⟩ ∧ base ≤ g ∧ g < w.heap.size := by
  rcases h.2 with ⟨h1, h2⟩ | ⟨g, cap, cur, h1, h2, h3, _⟩
  · exact absurd (List.eq_nil_of_length_eq_zero h2) hl
  · refine ⟨g, by injection h1, h2, ?_⟩
    rcases Nat.lt_or_ge g w.heap.size with h | h
    · exact h
    · rw [Array.getElem?_eq_none h] at h3; cases h3

theorem Enc.Own.at_ {g : Nat} (h : E.Own e w base (some ⟨g, 0, none⟩) c l) : E.at_ w g 0 l := by
  intro i hi r u hu
  have hr : r < E.size := by
    rcases Nat.lt_or_ge r E.size with h | h
    · exact h
    · rw [List.getElem?_eq_none (by rw [E.len]; exact h)] at hu; cases hu
  have hj : i * E.size + r < l.length * E.size := by
    have : (i + 1) * E.size ≤ l.length * E.size := Nat.mul_le_mul_right _ hi
    rw [Nat.succ_mul] at this; omega
  rw [Nat.zero_add, World.ownsRow.cellAt h _ hj, E.flat_get l i hi r hr]
  exact hu

theorem Enc.Own.rd (h : E.Own e w base A c l) : E.Rd w A l := ⟨fun hl => by
  obtain ⟨g, rfl, _, hg⟩ := h.form hl
  exact ⟨g, 0, rfl, hg, h.at_⟩⟩

theorem Enc.Own.frozen {g : Nat} (h : E.Own e w base (some ⟨g, 0, none⟩) c l) (j : Nat) : w.frozen? ⟨g, j, none⟩ = false := World.ownsRow.frozenAt h j

theorem Enc.Own.lt {g : Nat} (h : E.Own e w base (some ⟨g, 0, none⟩) c l) : base ≤ g ∧ g < w.heap.size := World.ownsRow.lt (show w.ownsRow _ _ _ _ _ _ from h) g rfl

theorem Enc.Own.below (h : E.Own e w base A c l) {B : Nat} (hb : Below B w w') (hB : w.heap.size ≤ B) : E.Own e w' base A c l := by
  refine World.ownsRow.kept (row := none) h ⟨hb.os, hb.tape, hb.output, hb.size, fun k hk _ => hb.block k (Nat.lt_of_lt_of_le hk hB)⟩ ?_
  cases A <;> simp [Value.ownBlock]

theorem Enc.Own.mono (h : E.Own e w base A c l) {base' : Nat} (hb : base' ≤ base) : E.Own e w base' A c l :=
  ⟨h.1, h.2.imp id fun ⟨g, cap, cur, h1, h2, r⟩ => ⟨g, cap, cur, h1, Nat.le_trans hb h2, r⟩⟩
end

/-- append(s, x...): whatever source. -/
theorem run_append_L {α : Type} {P : Program} (E : Enc α) (e t ty : TypeId) (z : Value) (bytes : Nat) (ht : P.underlying t = some (.slice e)) (hinf : (P.info? e).map (fun i => (i.zero, i.size, i.bytes)) = some (some z, E.size, bytes)) (hzs : z.cells.size = E.size)
    (hsz : 0 < E.size) (w : World) (base : Nat) (A : Option Addr) (c : Nat) (l : List α) (hown : E.Own e w base A c l) (B : Option Addr) (d : Nat) (m : List α) (hr : E.Rd w B m)
    (hb1 : (l.length + m.length) ≤ 1099511627776) (hb2 : bytes ≤ 128) (hbase : base ≤ w.heap.size) :
    ∃ A' c' w', (Builtin.append_ #[t, t] ty #[.slice A l.length c, .slice B m.length d]).run P w = .ok (.slice A' (l ++ m).length c') w' ∧ E.Own e w' base A' c' (l ++ m) ∧ w.grownBy w' (Value.slice A l.length c).ownBlock ∧
      ((Value.slice A' (l ++ m).length c').ownBlock = (Value.slice A l.length c).ownBlock ∨ (Value.slice A' (l ++ m).length c').ownBlock = some w.heap.size) := by
  obtain ⟨i, hi, hz, hs, hby⟩ := info_parts hinf
  have hby' : (l.length + m.length) * bytes ≤ 140737488355328 := by
    have : (l.length + m.length) * bytes ≤ 1099511627776 * 128 := Nat.mul_le_mul hb1 hb2
    omega
  by_cases hB : ∃ ad, B = some ad
  · obtain ⟨ad, rfl⟩ := hB
    have hcells : ∀ j u, (E.flat m)[j]? = some u → w.cell? (ad.add j) = some u := by
      intro j u hj
      by_cases hm : m = []
      · subst hm; simp [Enc.flat] at hj
      · obtain ⟨b, o, h1, _, h2⟩ := hr.at_ hm
        injection h1 with h1
        subst h1
        exact Enc.at_flat h2 j u hj
    obtain ⟨v', w', hrun, h2, h3, _, h5⟩ := run_append_own_at (P := P) w base t ty e i z E.size bytes ht hi hz hs hby hzs hsz _ _ _ hown ad m.length d (E.flat m) (E.flat_len m) hcells (E.flat_one m) (by unfold maxLen; omega) hby' hbase
    rw [← E.flat_append, show l.length + m.length = (l ++ m).length by simp] at h2
    have hf : ∃ A' c', v' = .slice A' (l ++ m).length c' := by
      rcases h2.2 with ⟨h, h0⟩ | ⟨g, cap, cur, h, _⟩
      · exact ⟨none, 0, by rw [h, h0]⟩
      · exact ⟨_, _, h⟩
    obtain ⟨A', c', rfl⟩ := hf
    exact ⟨A', c', w', hrun, h2, h3, h5⟩
  · have hB' : B = none := by cases B with
      | none => rfl
      | some a => exact absurd ⟨a, rfl⟩ hB
    subst hB'
    have hm : m = [] := by
      rcases Classical.em (m = []) with h | h
      · exact h
      · obtain ⟨b, o, h1, _⟩ := hr.at_ h; cases h1
    subst hm
    refine ⟨A, c, w, ?_, by simpa using hown, World.grownBy.refl w _, .inl (by simp)⟩
    rcases hown.2 with ⟨h1, h2⟩ | ⟨g, cap, cur, h1, _, _, hnc, _⟩
    · have : l = [] := List.eq_nil_of_length_eq_zero h2
      subst this
      injection h1 with h1 h3 h4
      subst h1; subst h4
      simp [Builtin.append_, run_underlying ht, sizeOf, typeInfo, hi, Builtin.lenOf, Builtin.firstCells]
    · injection h1 with h1 h3 h4
      subst h1; subst h4
      simp [Builtin.append_, run_underlying ht, sizeOf, typeInfo, hi, Builtin.lenOf, Builtin.firstCells, hnc, storeCells]

theorem wpList_append_L {α : Type} {P : Program} (E : Enc α) (e t : TypeId) {ops : Array Oper} {rest : List Oper} {o : Oper} {a : Act} {Q : Exit → Act → World → Prop} (hgd : o.guard = none) (s x : Operand)
    (ho : o.op = .call { callee := .builtin .append, args := #[s, x], argTypes := #[t, t] })
    (z : Value) (bytes : Nat) (ht : P.underlying t = some (.slice e)) (hinf : (P.info? e).map (fun i => (i.zero, i.size, i.bytes)) = some (some z, E.size, bytes)) (hzs : z.cells.size = E.size) (hsz : 0 < E.size)
    (w : World) (base : Nat) (A : Option Addr) (c : Nat) (l : List α) (hs : a.eval s = .slice A l.length c) (hown : E.Own e w base A c l) (B : Option Addr) (d : Nat) (m : List α) (hx : a.eval x = .slice B m.length d) (hr : E.Rd w B m)
    (hb1 : (l.length + m.length) ≤ 1099511627776) (hb2 : bytes ≤ 128) (hbase : base ≤ w.heap.size)
    (h : ∀ A' c' w', E.Own e w' base A' c' (l ++ m) → w.grownBy w' (Value.slice A l.length c).ownBlock →
      ((Value.slice A' (l ++ m).length c').ownBlock = (Value.slice A l.length c).ownBlock ∨ (Value.slice A' (l ++ m).length c').ownBlock = some w.heap.size) → wpList P ops Q rest (a.put o.dst (.slice A' (l ++ m).length c')) w') :
    wpList P ops Q (o :: rest) a w := by
  refine wpList_plain hgd fun K hK => ?_
  obtain ⟨A', c', w', hr', h2, h3, h4⟩ := run_append_L (P := P) E e t o.type z bytes ht hinf hzs hsz w base A c l hown B d m hr hb1 hb2 hbase
  unfold Oper.wp execOp
  simp only [ho, resolve, invoke, builtin, Sem.run_bind, Sem.run_pure, Result.andThen_ok, List.map_toArray, List.map_cons, List.map_nil, hs, hx, hr']
  exact hK _ _ (h A' c' w' h2 h3 h4)

/-- Nothing below a base has turned behind an append to a row of the call's own. -/
theorem below_append {α : Type} {E : Enc α} {e : TypeId} {w0 w w' : World} {base : Nat} {A : Option Addr} {c : Nat} {l : List α} (hb : Below base w0 w) (hown : E.Own e w base A c l) (hg : w.grownBy w' (Value.slice A l.length c).ownBlock) (hB : base ≤ w.heap.size) : Below base w0 w' :=
  hb.grown hg hB fun k hk => (World.ownsRow.lt hown k hk).1

/-! Instructions -/
def EI : Enc Insn := ⟨Insn.cells, 4, fun _ => rfl, fun x u hu => by simp [Insn.cells] at hu; rcases hu with rfl | rfl | rfl | rfl <;> rfl⟩

theorem at_insn {w : World} {b o : Nat} {l : List Insn} (h : EI.at_ w b o l) : ∀ i (h : i < l.length), IAt w b (o + i * 4) (l[i]'h) := fun i hi =>
  ⟨h i hi 0 _ rfl, h i hi 1 _ rfl, h i hi 2 _ rfl, h i hi 3 _ rfl⟩

theorem insn_at {w : World} {b o : Nat} {l : List Insn} (h : ∀ i (h : i < l.length), IAt w b (o + i * 4) (l[i]'h)) : EI.at_ w b o l := by
  intro i hi r u hu
  obtain ⟨h0, h1, h2, h3⟩ := h i hi
  match r, hu with
  | 0, hu => injection hu with hu; subst hu; exact h0
  | 1, hu => injection hu with hu; subst hu; exact h1
  | 2, hu => injection hu with hu; subst hu; exact h2
  | 3, hu => injection hu with hu; subst hu; exact h3
  | r + 4, hu => simp [EI, Insn.cells] at hu

theorem RdP.enc {w : World} {A : Option Addr} {l : List Insn} (h : RdP w A l) : EI.Rd w A l := ⟨fun hl => by
  obtain ⟨b, o, h1, h2, h3⟩ := h.at_ hl
  exact ⟨b, o, h1, h2, insn_at h3⟩⟩

theorem RdP.of_enc {w : World} {A : Option Addr} {l : List Insn} (h : EI.Rd w A l) (h1 : l.length ≤ 17592186044416) (h2 : ∀ x ∈ l, x.Ok) : RdP w A l := ⟨h1, h2, fun hl => by
  obtain ⟨b, o, h1, h2, h3⟩ := h.at_ hl
  exact ⟨b, o, h1, h2, at_insn h3⟩⟩

end Go.Proofs.Ytfjbanfibmpalaa

/- Words: a range over a function, the iterator writing nothing that was there when the loop began; the body writing the caller's own blocks alone. -/
set_option linter.unusedVariables false
set_option linter.unusedSimpArgs false
namespace Go.Proofs.Ytfjbanfibmpalaa
open Go.RowKit Go.Shelf

/-- What lies from m0 to n0, or from N to K, is as it was. -/
structure KpB (m0 n0 N K : Nat) (A B : World) : Prop where
  os : B.os = A.os
  tape : B.tape = A.tape
  output : B.output = A.output
  size : A.heap.size ≤ B.heap.size
  block : ∀ k, ((m0 ≤ k ∧ k < n0) ∨ (N ≤ k ∧ k < K)) → k < A.heap.size → B.heap[k]? = A.heap[k]?

section
variable {m0 n0 N K : Nat} {A B C : World}
theorem KpB.refl (m0 n0 N K : Nat) (A : World) : KpB m0 n0 N K A A := ⟨rfl, rfl, rfl, Nat.le_refl _, fun _ _ _ => rfl⟩
theorem KpB.trans (h : KpB m0 n0 N K A B) (k : KpB m0 n0 N K B C) : KpB m0 n0 N K A C :=
  ⟨k.os.trans h.os, k.tape.trans h.tape, k.output.trans h.output, Nat.le_trans h.size k.size, fun i hi hl => (k.block i hi (Nat.lt_of_lt_of_le hl h.size)).trans (h.block i hi hl)⟩
theorem KpB.mono {n1 M : Nat} (h : KpB m0 n0 N K A B) (h0 : n1 ≤ n0) (hN : N ≤ M) : KpB m0 n1 M K A B :=
  ⟨h.os, h.tape, h.output, h.size, fun k hk hl => h.block k (by omega) hl⟩
theorem KpB.alloc (h : KpB m0 n0 N K A B) (o : Obj) : KpB m0 n0 N K A (B.alloc o) :=
  h.trans ⟨rfl, rfl, rfl, by simp, fun k _ hl => Below.heap_alloc B o k hl⟩
theorem KpB.drew (h : KpB m0 n0 N K A B) : KpB m0 n0 N K A B.drew := ⟨h.os, h.tape, h.output, h.size, h.block⟩
theorem KpB.drewN (h : KpB m0 n0 N K A B) (m : Nat) : KpB m0 n0 N K A (B.drewN m) := ⟨h.os, h.tape, h.output, h.size, h.block⟩
theorem KpB.setCell (h : KpB m0 n0 N K A B) {p : Addr} (h0 : p.block < m0 ∨ n0 ≤ p.block) (hN : p.block < N ∨ K ≤ p.block) (u : Value) : KpB m0 n0 N K A (B.setCell p u) :=
  ⟨h.os, h.tape, h.output, by simpa using h.size, fun k hk hl => (Below.heap_setCell B p u k (by omega)).trans (h.block k hk hl)⟩
theorem KpB.of_below (h : Below A.heap.size A B) : KpB m0 n0 N K A B := ⟨h.os, h.tape, h.output, h.size, fun k _ hl => h.block k hl⟩
theorem KpB.then_below (h : KpB m0 n0 N K A B) (h2 : Below B.heap.size B C) : KpB m0 n0 N K A C := h.trans (.of_below h2)
theorem KpB.grown {row : Option Nat} (h : KpB m0 n0 N K A B) (hg : B.grownBy C row) (hr : ∀ k, row = some k → (k < m0 ∨ n0 ≤ k) ∧ (k < N ∨ K ≤ k)) : KpB m0 n0 N K A C :=
  ⟨hg.os.trans h.os, hg.tape.trans h.tape, hg.output.trans h.output, Nat.le_trans h.size hg.size, fun k hk hl => (hg.block k (Nat.lt_of_lt_of_le hl h.size) (fun e => by have := hr k e.symm; omega)).trans (h.block k hk hl)⟩
end

theorem below_put {B : Nat} (W : World) (l : Nat) (o : Obj) (hl : B ≤ l) : Below B W (W.putObj l o) :=
  ⟨rfl, rfl, rfl, by simp, fun k hk => World.putObj_heap_other (by omega)⟩
theorem kp_put {m0 n0 N K : Nat} (W : World) (l : Nat) (o : Obj) (h0 : n0 ≤ l) (hl : l < N) : KpB m0 n0 N K W (W.putObj l o) :=
  ⟨rfl, rfl, rfl, by simp, fun k hk _ => World.putObj_heap_other (by omega)⟩

/-- A step of an iterator that owns what lies from N to K: nothing else that was there has turned. -/
structure Step (N K : Nat) (A B : World) : Prop where
  os : B.os = A.os
  tape : B.tape = A.tape
  output : B.output = A.output
  size : A.heap.size ≤ B.heap.size
  block : ∀ k, k < A.heap.size → ¬ (N ≤ k ∧ k < K) → B.heap[k]? = A.heap[k]?

section
variable {N K : Nat} {A B C : World}
theorem Step.refl (N K : Nat) (A : World) : Step N K A A := ⟨rfl, rfl, rfl, Nat.le_refl _, fun _ _ _ => rfl⟩
theorem Step.of_below (h : Below A.heap.size A B) : Step N K A B := ⟨h.os, h.tape, h.output, h.size, fun k hk _ => h.block k hk⟩
theorem Step.trans (h : Step N K A B) (k : Step N K B C) : Step N K A C :=
  ⟨k.os.trans h.os, k.tape.trans h.tape, k.output.trans h.output, Nat.le_trans h.size k.size, fun i hi hn => (k.block i (Nat.lt_of_lt_of_le hi h.size) hn).trans (h.block i hi hn)⟩
theorem Step.setCell (h : Step N K A B) {p : Addr} (h1 : N ≤ p.block) (h2 : p.block < K ∨ A.heap.size ≤ p.block) (u : Value) : Step N K A (B.setCell p u) :=
  ⟨h.os, h.tape, h.output, by simpa using h.size, fun k hk hl => (Below.heap_setCell B p u k (by omega)).trans (h.block k hk hl)⟩
theorem Step.wider {M : Nat} (h : Step N K A B) (h1 : M ≤ N) : Step M K A B :=
  ⟨h.os, h.tape, h.output, h.size, fun k hk hn => h.block k hk (by omega)⟩
theorem Step.below {B0 : Nat} (h : Step N K A B) (h1 : B0 ≤ N) (h2 : B0 ≤ A.heap.size) : Below B0 A B := ⟨h.os, h.tape, h.output, h.size, fun k hk => h.block k (by omega) (by omega)⟩
theorem Step.put (W : World) (l : Nat) (o : Obj) (h1 : N ≤ l) (h2 : l < K) : Step N K W (W.putObj l o) :=
  ⟨rfl, rfl, rfl, by simp, fun k _ hn => World.putObj_heap_other (by omega)⟩
end

/-- An iterator's value: it yields just these, one behind the other, where every round goes on. What it keeps for itself it has laid ahead of the first round. -/
def Iter (P : Program) (gf : Nat) (lb : Array Value) (ys : List (Array Value)) (m0 n0 : Nat) (w0 : World) : Prop :=
  ∀ (l : Nat) (W : World) (P0 : World → Prop) (J : Nat → Nat → World → Prop), Below n0 w0 W → n0 ≤ W.heap.size →
    (∀ A B, P0 A → Below W.heap.size A B → P0 B) → (∀ A, P0 A → W.heap.size ≤ A.heap.size → J A.heap.size 0 A) →
    (∀ K i A B, J K i A → Step W.heap.size K A B → J K i B) →
    (∀ K i (h : i < ys.length) A, J K i A → W.heap.size ≤ K → K ≤ A.heap.size → YieldAt Fence.wide 0 P l (ys[i]'h) A fun e B =>
      e = .returned (.bool true) ∧ J K (i + 1) B ∧ KpB m0 n0 W.heap.size K A B) →
    P0 W → CallsIn Fence.wide 0 P gf (#[.func (.yield l) #[] #[]] ++ lb) W fun e B => (∃ v, e = .returned v) ∧ ∃ K, W.heap.size ≤ K ∧ K ≤ B.heap.size ∧ J K ys.length B

theorem Iter.later {P : Program} {gf : Nat} {lb : Array Value} {ys : List (Array Value)} {m0 n0 : Nat} {w0 w1 : World} (h : Iter P gf lb ys m0 n0 w0) (hb : Below n0 w0 w1) : Iter P gf lb ys m0 n0 w1 :=
  fun l W P0 J hW => h l W P0 J (hb.trans hW)

/-- How a round may end. -/
def rpost (m0 n0 M K : Nat) (I : Nat → Nat → World → Prop) (i : Nat) (W : World) : Exit → Act → World → Prop
  | .normal, _, W' => KpB m0 n0 M K W W' ∧ I K (i + 1) W'
  | _, _, _ => False

theorem rf_law {P : Program} {n m : Nat} {g : Operand} {ps : Array Tmp} {assign body : Code} {Q : Exit → Act → World → Prop} {a : Act} {w : World}
    {gf : Nat} {lb : Array Value} (hg : a.eval g = .func (.func gf) #[] lb) (eg : ∀ args w, (callFunc gf args).run P w = .ok (.enter gf args) w)
    {ys : List (Array Value)} {m0 n0 : Nat} (hit : Iter P gf lb ys m0 n0 w) (hn0 : n0 ≤ w.heap.size) (hps : ∀ i (h : i < ys.length), (ys[i]'h).size = ps.size)
    (I0 : World → Prop) (I : Nat → Nat → World → Prop) (hI0 : ∀ A B, I0 A → Below w.heap.size A B → I0 B) (hI1 : ∀ A, I0 A → w.heap.size + 2 ≤ A.heap.size → I A.heap.size 0 A)
    (hI : ∀ K i A B, I K i A → w.heap.size + 2 ≤ K → Step (w.heap.size + 1) K A B → I K i B)
    (h0 : I0 w) (a₁ : Nat → Act)
    (hassign : ∀ (l i : Nat) (h : i < ys.length) (W : World) (K : Act → World → Prop), K (a₁ i) W →
      assign.wpIn (Fence.wide.inRound l) m P (Exit.then K (fun _ _ _ => False)) { tmps := (ps.zip (ys[i]'h)).foldl (fun t (p, v) => t.setIfInBounds p v) a.tmps, defers := [] } W)
    (hbody : ∀ (l K i : Nat) (h : i < ys.length) (W : World), I K i W → w.heap.size + 2 ≤ K → K ≤ W.heap.size → body.wpIn (Fence.wide.inRound l) m P (rpost m0 n0 w.heap.size K I i W) (a₁ i) W)
    (hdone : ∀ (K : Nat) (W : World), w.heap.size + 2 ≤ K → K ≤ W.heap.size → I K ys.length W → W.heap[w.heap.size]? = some (.deferred (some [])) → Q .normal { a with defers := { target := .collected w.heap.size, args := #[] } :: a.defers } W) :
    (Code.rangeFunc g ps assign body).wpIn Fence.wide n P Q a w := by
  refine wpIn_rangeFunc ?_
  intro fn hfn
  obtain ⟨rec, hrec⟩ : ∃ rec : LoopState → Option Code → Loop, rec = fun st pe => { state := st, pending := pe, fn, tmps := a.tmps, params := ps, assign, body, defers := w.heap.size } := ⟨_, rfl⟩
  obtain ⟨W1, hW1⟩ : ∃ W1, (w.alloc (.deferred (some []))).alloc (.loop (rec .ready none)) = W1 := ⟨_, rfl⟩
  have hs1 : W1.heap.size = w.heap.size + 2 := by rw [← hW1]; simp
  have hL1 : W1.heap[w.heap.size + 1]? = some (.loop (rec .ready none)) := by
    rw [← hW1]; have := World.alloc_heap_new (w.alloc (.deferred (some []))) (.loop (rec .ready none)); rwa [World.size_alloc] at this
  have hK1 : W1.heap[w.heap.size]? = some (.deferred (some [])) := by
    rw [← hW1]; exact (Below.heap_alloc _ _ _ (by simp)).trans (World.alloc_heap_new w _)
  have hB1 : Below w.heap.size w W1 := by rw [← hW1]; exact ((Below.refl _ w).alloc (Nat.le_refl _) _).alloc (by simp) _
  have hI1' : I0 W1 := hI0 _ _ h0 hB1
  refine ⟨w.heap.size + 1, [{ target := .collected w.heap.size, args := #[] }], W1, { target := .fn (.func gf) lb, args := #[.func (.yield (w.heap.size + 1)) #[] #[]] }, W1, gf,
    #[.func (.yield (w.heap.size + 1)) #[] #[]] ++ lb, W1, ?_, ?_, ?_, ?_, (fun h => by cases h), ?_⟩
  · rw [← hW1, hrec]; exact run_enterLoop_outer _ _ _ _ _
  · simp only [resolve, hg]
    simp [go_sem]
  · intro f' _; trivial
  · simp [invoke, go_sem, eg]
  · have keep : ∀ {A B : World} {k K : Nat} {o : Obj}, Step W1.heap.size K A B → k < w.heap.size + 2 → A.heap[k]? = some o → B.heap[k]? = some o := fun hb hk h => (hb.block _ (Array.getElem?_eq_some_iff.1 h).1 (by omega)).trans h
    have keep0 : ∀ {A B : World} {k : Nat} {o : Obj}, Below W1.heap.size A B → k < w.heap.size + 2 → A.heap[k]? = some o → B.heap[k]? = some o := fun hb hk h => (hb.block _ (by omega)).trans h
    have hcall := hit (w.heap.size + 1) W1
      (fun W => I0 W ∧ W.heap[w.heap.size + 1]? = some (.loop (rec .ready none)) ∧ W.heap[w.heap.size]? = some (.deferred (some [])))
      (fun K i W => I K i W ∧ W.heap[w.heap.size + 1]? = some (.loop (rec .ready none)) ∧ W.heap[w.heap.size]? = some (.deferred (some [])) ∧ w.heap.size + 2 ≤ K)
      (hB1.mono hn0) (by omega)
      (fun A B h hb => ⟨hI0 _ _ h.1 (hb.mono (by omega)), keep0 hb (by omega) h.2.1, keep0 hb (by omega) h.2.2⟩)
      (fun A h hs => ⟨hI1 _ h.1 (by omega), h.2.1, h.2.2, by omega⟩)
      (fun K i A B h hb => ⟨hI _ _ _ _ h.1 h.2.2.2 (hb.wider (by omega)), keep hb (by omega) h.2.1, keep hb (by omega) h.2.2.1, h.2.2.2⟩)
      ?_ ⟨hI1', hL1, hK1⟩
    · refine (show CallsIn Fence.wide (n - 1) P gf _ W1 _ from ⟨trivial, fun cs hr => hcall.2 cs (room_wide _)⟩).mono ?_
      rintro e W2 ⟨⟨v, rfl⟩, K, hKl, hKu, hi, hl, hk, hK2⟩
      exact ⟨none, _, by have := run_endLoop (P := P) hl (by rw [hrec]; simp); rw [hrec] at this; exact this,
        hdone K _ (by omega) (by simpa using hKu) (hI _ _ _ _ hi hK2 (.put _ _ _ (by omega) (by omega))) ((World.putObj_heap_other (by omega)).trans hk)⟩
    · rintro K i hlt W ⟨hi, hl, hk, hK2⟩ hKl hKu
      have hlW : w.heap.size + 1 < W.heap.size := (Array.getElem?_eq_some_iff.1 hl).1
      have hy := run_yield (P := P) (args := ys[i]) hl (by rw [hrec]; exact hps i hlt)
      rw [hrec] at hy
      refine ⟨fn, _, assign, body, hy, ?_⟩
      have hR : RoundIn Fence.wide m P (w.heap.size + 1) fn ((ps.zip (ys[i]'hlt)).foldl (fun t (p, v) => t.setIfInBounds p v) a.tmps) assign body W (fun e B =>
          e = .returned (.bool true) ∧ (I K (i + 1) B ∧ B.heap[w.heap.size + 1]? = some (.loop (rec .ready none)) ∧ B.heap[w.heap.size]? = some (.deferred (some [])) ∧ w.heap.size + 2 ≤ K) ∧ KpB m0 n0 W1.heap.size K W B) := by
        refine roundIn_of_wpIn hfn (hassign _ i hlt W _ ?_)
        refine ⟨_, run_beginRound hl (by rw [hrec]), ?_⟩
        have hl2 : (W.putObj (w.heap.size + 1) (.loop { rec .ready none with state := .busy })).heap[w.heap.size + 1]? = some (.loop { rec .ready none with state := .busy }) := World.putObj_heap_same hlW
        have hk2 : (W.putObj (w.heap.size + 1) (.loop { rec .ready none with state := .busy })).heap[w.heap.size]? = some (.deferred (some [])) := (World.putObj_heap_other (by omega)).trans hk
        have hkp2 : KpB m0 n0 W1.heap.size K W (W.putObj (w.heap.size + 1) (.loop { rec .ready none with state := .busy })) := kp_put _ _ _ (by omega) (by omega)
        have hlW2 : w.heap.size + 1 < (W.putObj (w.heap.size + 1) (.loop { rec .ready none with state := .busy })).heap.size := by simpa using hlW
        refine wpIn_mono (hbody _ K i hlt _ (hI _ _ _ _ hi hK2 (.put _ _ _ (by omega) (by omega))) (by omega) (by simpa using hKu)) ?_
        rintro e a3 W3 hp
        cases e with
        | normal =>
          obtain ⟨hk3, hi3⟩ := hp
          have hl3 := (hk3.block (w.heap.size + 1) (.inr (by omega)) hlW2).trans hl2
          have hr := run_endRound (P := P) none hl3
          rw [hrec] at hr
          have hd3 : W3.heap[w.heap.size]? = some (.deferred (some [])) := (hk3.block w.heap.size (.inr ⟨Nat.le_refl _, by omega⟩) (Nat.lt_of_lt_of_le (Nat.lt_succ_self _) (Nat.le_of_lt hlW2))).trans hk2
          have hw3 : w.heap.size + 1 < W3.heap.size := (Array.getElem?_eq_some_iff.1 hl3).1
          refine ⟨_, _, hr, rfl, ⟨hI _ _ _ _ hi3 hK2 (.put _ _ _ (by omega) (by omega)), ?_, ?_, hK2⟩, (hkp2.trans (hk3.mono (Nat.le_refl _) (by omega))).trans (kp_put _ _ _ (by omega) (by omega))⟩
          · rw [hrec]
            exact World.putObj_heap_same hw3
          · rw [World.putObj_heap_other (by omega)]
            exact hd3
        | ret => exact hp.elim
        | exit id => exact hp.elim
        | goto t => exact hp.elim
        | panic ch => exact hp.elim
        | outgrown => exact hp.elim
      exact ⟨hR.1, fun c cs hr => hR.2 c cs (room_wide _)⟩

theorem Enc.Own.step {α : Type} {E : Enc α} {e : TypeId} {W W' : World} {base : Nat} {A : Option Addr} {c : Nat} {l : List α} {N K : Nat} (h : E.Own e W base A c l) (hs : Step N K W W') (hb : K ≤ base) : E.Own e W' base A c l := by
  refine ⟨h.1, h.2.imp id ?_⟩
  rintro ⟨g, cap, cur, h1, h2, h3, r⟩
  exact ⟨g, cap, cur, h1, h2, (hs.block g (Array.getElem?_eq_some_iff.1 h3).1 (by omega)).trans h3, r⟩

/-- A variable of one's own behind an append to a row of one's own. -/
theorem Enc.Own.box {α : Type} {E : Enc α} {e : TypeId} {W W' : World} {base : Nat} {A : Option Addr} {c : Nat} {l : List α} (h : E.Own e W base A c l) (hg : W.grownBy W' (Value.slice A l.length c).ownBlock)
    {b : Nat} {o : Obj} (hb : W.heap[b]? = some o) (hlt : b < base) : W'.heap[b]? = some o :=
  (hg.block b (Array.getElem?_eq_some_iff.1 hb).1 (fun e' => by have := (World.ownsRow.lt h _ e'.symm).1; omega)).trans hb

/-- append(s, x...) within a fence. -/
theorem wpListIn_append_L {α : Type} {F : Fence} {n : Nat} {P : Program} (E : Enc α) (e t : TypeId) {ops : Array Oper} {rest : List Oper} {o : Oper} {a : Act} {Q : Exit → Act → World → Prop} (hgd : o.guard = none) (s x : Operand)
    (hop : o.op = .call { callee := .builtin .append, args := #[s, x], argTypes := #[t, t] })
    (z : Value) (bytes : Nat) (ht : P.underlying t = some (.slice e)) (hinf : (P.info? e).map (fun i => (i.zero, i.size, i.bytes)) = some (some z, E.size, bytes)) (hzs : z.cells.size = E.size) (hsz : 0 < E.size)
    (w : World) (base : Nat) (A : Option Addr) (c : Nat) (l : List α) (hs : a.eval s = .slice A l.length c) (hown : E.Own e w base A c l) (B : Option Addr) (d : Nat) (m : List α) (hx : a.eval x = .slice B m.length d) (hr : E.Rd w B m)
    (hb1 : (l.length + m.length) ≤ 1099511627776) (hb2 : bytes ≤ 128) (hbase : base ≤ w.heap.size)
    (h : ∀ A' c' w', E.Own e w' base A' c' (l ++ m) → w.grownBy w' (Value.slice A l.length c).ownBlock →
      ((Value.slice A' (l ++ m).length c').ownBlock = (Value.slice A l.length c).ownBlock ∨ (Value.slice A' (l ++ m).length c').ownBlock = some w.heap.size) → wpListIn F n P ops Q rest (a.put o.dst (.slice A' (l ++ m).length c')) w') :
    wpListIn F n P ops Q (o :: rest) a w := by
  obtain ⟨A', c', w', hrun, h2, h3, h4⟩ := run_append_L (P := P) E e t o.type z bytes ht hinf hzs hsz w base A c l hown B d m hr hb1 hb2 hbase
  refine wpListIn_plain hgd fun K hK' => ?_
  unfold Oper.wpIn
  refine ⟨?_, ?_⟩
  · simp [Oper.about, hop, resolve, Target.leads, Sem.run_pure]
  · rw [Oper.semAt_plain F _ _ (by rw [hop]; intro c hc'; cases hc')]
    simp only [execOp, hop, resolve, invoke, builtin, Sem.run_bind, Sem.run_pure, Result.andThen_ok, List.map_toArray, List.map_cons, List.map_nil, hs, hx, hrun]
    exact hK' _ _ (h A' c' w' h2 h3 h4)

theorem Enc.Rd.one_new {α : Type} (E : Enc α) (w : World) (e : TypeId) (x : α) (cs : Array Value) (hcs : cs = (E.enc x).toArray) : E.Rd (w.alloc (.cells cs e)) (some ⟨w.heap.size, 0, none⟩) [x] :=
  ⟨fun _ => ⟨w.heap.size, 0, rfl, by simp, fun i hi r u hu => by
    have : i = 0 := by simpa using hi
    subst this
    rw [Nat.zero_add, Nat.zero_mul, Nat.zero_add, cell_of_row _ _ _ cs e (0, 0) (heap_alloc_new w _), hcs]
    simpa using hu⟩⟩

end Go.Proofs.Ytfjbanfibmpalaa

/- What comes next, told one behind the other: all but tests. -/
set_option linter.unusedVariables false
set_option linter.unusedSimpArgs false
namespace Go.Proofs.Ytfjbanfibmpalaa
open Go.RowKit Go.Shelf
attribute [local go_sem] Oper.semAt_some

theorem IAt_of_below {w w' : World} {b o n : Nat} {x : Insn} (h : IAt w b o x) (hb : Below n w w') (hl : b < n) : IAt w' b o x := h.keep fun o => hb.cell (p := ⟨b, o, none⟩) hl

set_option maxHeartbeats 400000 in
theorem next_iter_plain (x : Insn) (hx : x.Ok) (i : Nat) (hi : i ≤ 255) (f : Int) (hf : form x.code = f) (h0 : 0 ≤ f) (e4 : (f == 4) = false) (e5 : (f == 5) = false) (e6 : (f == 6) = false) (hr : isRet x.code = false) (g1 g2 m0 n0 : Nat) (w0 : World)
    (h1 : IAt w0 g1 0 x) (h2 : w0.cell? ⟨g2, 0, none⟩ = some (.int .i64 i)) (hg1 : m0 ≤ g1 ∧ g1 < n0) (hg2 : m0 ≤ g2 ∧ g2 < n0) :
    Iter Try.prog 123 #[.pointer (some ⟨g1, 0, none⟩), .pointer (some ⟨g2, 0, none⟩)] [#[.int .i64 ((i : Int) + 1)]] m0 n0 w0 := by
  intro l W P0 J hW hn0 hP hPJ hJ hY hJ0
  have hc := hx.code
  have HF := Lib.hid hf
  have HR := Lib.hid hr
  clear hf hr
  have HI := Lib.hid (IAt_of_below h1 hW hg1.2)
  have h2' := (hW.cell (p := ⟨g2, 0, none⟩) hg2.2).trans h2
  obtain ⟨c0, c1, c2, c3⟩ := HI.out
  clear h2 h1
  have HY := Lib.hid hY
  have HJ := Lib.hid (And.intro hP hPJ)
  clear hY hJ hP hPJ hW
  refine callsIn_of_wp Try.func123 rfl trivial ?_ rfl
  simp only [Try.ntmps123, List.size_toArray, List.length_cons, List.length_nil, Nat.reduceAdd, Nat.reduceSub, Array.replicate_succ, Array.replicate_zero, List.push_toArray, List.append_toArray, List.nil_append, List.cons_append]
  have hwf : ∀ k, Fence.wide.fn k := fun _ => trivial
  have hwd : Fence.wide.depth = none := rfl
  have hg1W : g1 < W.heap.size := by omega
  have hg2W : g2 < W.heap.size := by omega
  gi_wp2_with (first
    | (gi_at_call 105; refine (callsIn_wide.2 (form_any x.code hc _)).mono ?_; rw [HF.out]; rintro e w1 ⟨rfl, hb⟩; have d2 := (hb.cell (p := ⟨g2, 0, none⟩) hg2W).trans h2'; have HD := Lib.hid (IAt_of_below HI.out hb hg1W); obtain ⟨d0, d1, dd, d3⟩ := HD.out; have hz := hb.size; have HB := Lib.hid hb; clear hb)
    | (gi_at_call 65; refine (callsIn_wide.2 (returns_any x.code x.jt x.jf x.k _)).mono ?_; rw [HR.out]; rintro e w2 ⟨rfl, hb2⟩; have e2 := (hb2.cell (p := ⟨g2, 0, none⟩) (show g2 < _ by omega)).trans d2; have HE := Lib.hid (IAt_of_below HD.out hb2 (by omega)); obtain ⟨e0, e1, ee, e3⟩ := HE.out; have hz2 := hb2.size; have HB2 := Lib.hid (HB.out.trans (hb2.mono hz)); obtain ⟨fn, tmps, assign, body, hy, hR⟩ := HY.out _ 0 (by simp) w2 (HJ.out.2 _ (HJ.out.1 _ _ hJ0 HB2.out) HB2.out.size) HB2.out.size (Nat.le_refl _); simp only [List.getElem_cons_zero] at hy; have HRR := Lib.hid hR; clear hb2 hR))
  refine HRR.out.mono ?_
  rintro e B ⟨rfl, hJB, hkp⟩
  have HKP := Lib.hid hkp
  clear hkp
  gi_wp2
  go_end0
  exact ⟨⟨_, rfl⟩, _, HB2.out.size, HKP.out.size, hJB⟩
set_option maxHeartbeats 400000 in
theorem next_iter_neg (x : Insn) (hx : x.Ok) (i : Nat) (hi : i ≤ 255) (hf : form x.code = -1) (g1 g2 m0 n0 : Nat) (w0 : World)
    (h1 : IAt w0 g1 0 x) (h2 : w0.cell? ⟨g2, 0, none⟩ = some (.int .i64 i)) (hg1 : m0 ≤ g1 ∧ g1 < n0) (hg2 : m0 ≤ g2 ∧ g2 < n0) :
    Iter Try.prog 123 #[.pointer (some ⟨g1, 0, none⟩), .pointer (some ⟨g2, 0, none⟩)] [] m0 n0 w0 := by
  intro l W P0 J hW hn0 hP hPJ hJ hY hJ0
  have hc := hx.code
  have HF := Lib.hid hf
  clear hf
  have HI := Lib.hid (IAt_of_below h1 hW hg1.2)
  have h2' := (hW.cell (p := ⟨g2, 0, none⟩) hg2.2).trans h2
  obtain ⟨c0, c1, c2, c3⟩ := HI.out
  clear h2 h1
  have HY := Lib.hid hY
  have HJ := Lib.hid (And.intro hP hPJ)
  clear hY hJ hP hPJ hW
  refine callsIn_of_wp Try.func123 rfl trivial ?_ rfl
  simp only [Try.ntmps123, List.size_toArray, List.length_cons, List.length_nil, Nat.reduceAdd, Nat.reduceSub, Array.replicate_succ, Array.replicate_zero, List.push_toArray, List.append_toArray, List.nil_append, List.cons_append]
  have hwf : ∀ k, Fence.wide.fn k := fun _ => trivial
  have hwd : Fence.wide.depth = none := rfl
  have hg1W : g1 < W.heap.size := by omega
  have hg2W : g2 < W.heap.size := by omega
  gi_wp2_with (gi_at_call 105; refine (callsIn_wide.2 (form_any x.code hc _)).mono ?_; rw [HF.out]; rintro e w1 ⟨rfl, hb⟩; have d2 := (hb.cell (p := ⟨g2, 0, none⟩) hg2W).trans h2'; have HD := Lib.hid (IAt_of_below HI.out hb hg1W); obtain ⟨d0, d1, dd, d3⟩ := HD.out; have hz := hb.size; have HB := Lib.hid hb; clear hb)
  go_end0
  exact ⟨⟨_, rfl⟩, _, HB.out.size, Nat.le_refl _, HJ.out.2 _ (HJ.out.1 _ _ hJ0 HB.out) HB.out.size⟩

set_option maxHeartbeats 400000 in
theorem next_iter_ret (x : Insn) (hx : x.Ok) (i : Nat) (hi : i ≤ 255) (f : Int) (hf : form x.code = f) (h0 : 0 ≤ f) (hr : isRet x.code = true) (g1 g2 m0 n0 : Nat) (w0 : World)
    (h1 : IAt w0 g1 0 x) (h2 : w0.cell? ⟨g2, 0, none⟩ = some (.int .i64 i)) (hg1 : m0 ≤ g1 ∧ g1 < n0) (hg2 : m0 ≤ g2 ∧ g2 < n0) :
    Iter Try.prog 123 #[.pointer (some ⟨g1, 0, none⟩), .pointer (some ⟨g2, 0, none⟩)] [] m0 n0 w0 := by
  intro l W P0 J hW hn0 hP hPJ hJ hY hJ0
  have hc := hx.code
  have HF := Lib.hid hf
  have HR := Lib.hid hr
  clear hf hr
  have HI := Lib.hid (IAt_of_below h1 hW hg1.2)
  have h2' := (hW.cell (p := ⟨g2, 0, none⟩) hg2.2).trans h2
  obtain ⟨c0, c1, c2, c3⟩ := HI.out
  clear h2 h1
  have HY := Lib.hid hY
  have HJ := Lib.hid (And.intro hP hPJ)
  clear hY hJ hP hPJ hW
  refine callsIn_of_wp Try.func123 rfl trivial ?_ rfl
  simp only [Try.ntmps123, List.size_toArray, List.length_cons, List.length_nil, Nat.reduceAdd, Nat.reduceSub, Array.replicate_succ, Array.replicate_zero, List.push_toArray, List.append_toArray, List.nil_append, List.cons_append]
  have hwf : ∀ k, Fence.wide.fn k := fun _ => trivial
  have hwd : Fence.wide.depth = none := rfl
  have hg1W : g1 < W.heap.size := by omega
  have hg2W : g2 < W.heap.size := by omega
  gi_wp2_with (first
    | (gi_at_call 105; refine (callsIn_wide.2 (form_any x.code hc _)).mono ?_; rw [HF.out]; rintro e w1 ⟨rfl, hb⟩; have d2 := (hb.cell (p := ⟨g2, 0, none⟩) hg2W).trans h2'; have HD := Lib.hid (IAt_of_below HI.out hb hg1W); obtain ⟨d0, d1, dd, d3⟩ := HD.out; have hz := hb.size; have HB := Lib.hid hb; clear hb)
    | (gi_at_call 65; refine (callsIn_wide.2 (returns_any x.code x.jt x.jf x.k _)).mono ?_; rw [HR.out]; rintro e w2 ⟨rfl, hb2⟩; have e2 := (hb2.cell (p := ⟨g2, 0, none⟩) (show g2 < _ by omega)).trans d2; have HE := Lib.hid (IAt_of_below HD.out hb2 (by omega)); obtain ⟨e0, e1, ee, e3⟩ := HE.out; have hz2 := hb2.size; have HB2 := Lib.hid (HB.out.trans (hb2.mono hz)); clear hb2))
  go_end0
  exact ⟨⟨_, rfl⟩, _, HB2.out.size, Nat.le_refl _, HJ.out.2 _ (HJ.out.1 _ _ hJ0 HB2.out) HB2.out.size⟩

set_option maxHeartbeats 400000 in
theorem next_iter_ja (x : Insn) (hx : x.Ok) (i : Nat) (hi : i ≤ 255) (hf : form x.code = 4) (hr : isRet x.code = false) (hk : x.k ≤ 255) (g1 g2 m0 n0 : Nat) (w0 : World)
    (h1 : IAt w0 g1 0 x) (h2 : w0.cell? ⟨g2, 0, none⟩ = some (.int .i64 i)) (hg1 : m0 ≤ g1 ∧ g1 < n0) (hg2 : m0 ≤ g2 ∧ g2 < n0) :
    Iter Try.prog 123 #[.pointer (some ⟨g1, 0, none⟩), .pointer (some ⟨g2, 0, none⟩)] [#[.int .i64 ((i : Int) + 1 + x.k)]] m0 n0 w0 := by
  intro l W P0 J hW hn0 hP hPJ hJ hY hJ0
  have hc := hx.code
  have HF := Lib.hid hf
  have HR := Lib.hid hr
  clear hf hr
  have HI := Lib.hid (IAt_of_below h1 hW hg1.2)
  have h2' := (hW.cell (p := ⟨g2, 0, none⟩) hg2.2).trans h2
  obtain ⟨c0, c1, c2, c3⟩ := HI.out
  clear h2 h1
  have HY := Lib.hid hY
  have HJ := Lib.hid (And.intro hP hPJ)
  clear hY hJ hP hPJ hW
  refine callsIn_of_wp Try.func123 rfl trivial ?_ rfl
  simp only [Try.ntmps123, List.size_toArray, List.length_cons, List.length_nil, Nat.reduceAdd, Nat.reduceSub, Array.replicate_succ, Array.replicate_zero, List.push_toArray, List.append_toArray, List.nil_append, List.cons_append]
  have hwf : ∀ k, Fence.wide.fn k := fun _ => trivial
  have hwd : Fence.wide.depth = none := rfl
  have hg1W : g1 < W.heap.size := by omega
  have hg2W : g2 < W.heap.size := by omega
  gi_wp2_with (first
    | (gi_at_call 105; refine (callsIn_wide.2 (form_any x.code hc _)).mono ?_; rw [HF.out]; rintro e w1 ⟨rfl, hb⟩; have d2 := (hb.cell (p := ⟨g2, 0, none⟩) hg2W).trans h2'; have HD := Lib.hid (IAt_of_below HI.out hb hg1W); obtain ⟨d0, d1, dd, d3⟩ := HD.out; have hz := hb.size; have HB := Lib.hid hb; clear hb)
    | (gi_at_call 65; refine (callsIn_wide.2 (returns_any x.code x.jt x.jf x.k _)).mono ?_; rw [HR.out]; rintro e w2 ⟨rfl, hb2⟩; have e2 := (hb2.cell (p := ⟨g2, 0, none⟩) (show g2 < _ by omega)).trans d2; have HE := Lib.hid (IAt_of_below HD.out hb2 (by omega)); obtain ⟨e0, e1, ee, e3⟩ := HE.out; have hz2 := hb2.size; have HB2 := Lib.hid (HB.out.trans (hb2.mono hz)); clear hb2; obtain ⟨fn, tmps, assign, body, hy, hR⟩ := HY.out _ 0 (by simp) w2 (HJ.out.2 _ (HJ.out.1 _ _ hJ0 HB2.out) HB2.out.size) HB2.out.size (Nat.le_refl _); simp only [List.getElem_cons_zero] at hy; have HRR := Lib.hid hR; clear hR))
  refine HRR.out.mono ?_
  rintro e B ⟨rfl, hJB, hkp⟩
  have HKP := Lib.hid hkp
  clear hkp
  gi_wp2
  go_end0
  exact ⟨⟨_, rfl⟩, _, HB2.out.size, HKP.out.size, hJB⟩

set_option maxHeartbeats 400000 in
theorem next_iter_far (x : Insn) (hx : x.Ok) (i : Nat) (hi : i ≤ 255) (hf : form x.code = 4) (hr : isRet x.code = false) (hk : 255 < x.k) (g1 g2 m0 n0 : Nat) (w0 : World)
    (h1 : IAt w0 g1 0 x) (h2 : w0.cell? ⟨g2, 0, none⟩ = some (.int .i64 i)) (hg1 : m0 ≤ g1 ∧ g1 < n0) (hg2 : m0 ≤ g2 ∧ g2 < n0) :
    Iter Try.prog 123 #[.pointer (some ⟨g1, 0, none⟩), .pointer (some ⟨g2, 0, none⟩)] [] m0 n0 w0 := by
  intro l W P0 J hW hn0 hP hPJ hJ hY hJ0
  have hc := hx.code
  have HF := Lib.hid hf
  have HR := Lib.hid hr
  clear hf hr
  have HI := Lib.hid (IAt_of_below h1 hW hg1.2)
  have h2' := (hW.cell (p := ⟨g2, 0, none⟩) hg2.2).trans h2
  obtain ⟨c0, c1, c2, c3⟩ := HI.out
  clear h2 h1
  have HY := Lib.hid hY
  have HJ := Lib.hid (And.intro hP hPJ)
  clear hY hJ hP hPJ hW
  refine callsIn_of_wp Try.func123 rfl trivial ?_ rfl
  simp only [Try.ntmps123, List.size_toArray, List.length_cons, List.length_nil, Nat.reduceAdd, Nat.reduceSub, Array.replicate_succ, Array.replicate_zero, List.push_toArray, List.append_toArray, List.nil_append, List.cons_append]
  have hwf : ∀ k, Fence.wide.fn k := fun _ => trivial
  have hwd : Fence.wide.depth = none := rfl
  have hg1W : g1 < W.heap.size := by omega
  have hg2W : g2 < W.heap.size := by omega
  have hx4 := hx.k
  gi_wp2_with (first
    | (gi_at_call 105; refine (callsIn_wide.2 (form_any x.code hc _)).mono ?_; rw [HF.out]; rintro e w1 ⟨rfl, hb⟩; have d2 := (hb.cell (p := ⟨g2, 0, none⟩) hg2W).trans h2'; have HD := Lib.hid (IAt_of_below HI.out hb hg1W); obtain ⟨d0, d1, dd, d3⟩ := HD.out; have hz := hb.size; have HB := Lib.hid hb; clear hb)
    | (gi_at_call 65; refine (callsIn_wide.2 (returns_any x.code x.jt x.jf x.k _)).mono ?_; rw [HR.out]; rintro e w2 ⟨rfl, hb2⟩; have e2 := (hb2.cell (p := ⟨g2, 0, none⟩) (show g2 < _ by omega)).trans d2; have HE := Lib.hid (IAt_of_below HD.out hb2 (by omega)); obtain ⟨e0, e1, ee, e3⟩ := HE.out; have hz2 := hb2.size; have HB2 := Lib.hid (HB.out.trans (hb2.mono hz)); clear hb2))
  go_end0
  exact ⟨⟨_, rfl⟩, _, HB2.out.size, Nat.le_refl _, HJ.out.2 _ (HJ.out.1 _ _ hJ0 HB2.out) HB2.out.size⟩

end Go.Proofs.Ytfjbanfibmpalaa

/- What comes next, told one behind the other: tests. -/
set_option linter.unusedVariables false
set_option linter.unusedSimpArgs false
namespace Go.Proofs.Ytfjbanfibmpalaa
open Go.RowKit Go.Shelf
attribute [local go_sem] Oper.semAt_some
set_option maxRecDepth 100000 in
set_option maxHeartbeats 400000 in
theorem next_iter_t5e (x : Insn) (hx : x.Ok) (i : Nat) (hi : i ≤ 255) (hf : form x.code = 5) (hr : isRet x.code = false) (hk : x.jt = x.jf) (g1 g2 m0 n0 : Nat) (w0 : World)
    (h1 : IAt w0 g1 0 x) (h2 : w0.cell? ⟨g2, 0, none⟩ = some (.int .i64 i)) (hg1 : m0 ≤ g1 ∧ g1 < n0) (hg2 : m0 ≤ g2 ∧ g2 < n0) :
    Iter Try.prog 123 #[.pointer (some ⟨g1, 0, none⟩), .pointer (some ⟨g2, 0, none⟩)] [#[.int .i64 ((i : Int) + 1 + x.jt)]] m0 n0 w0 := by
  have n1 : ¬ x.jt < x.jf := by omega
  have n2 : ¬ x.jf < x.jt := by omega
  have HK := Lib.hid hk
  clear hk
  intro l W P0 J hW hn0 hP hPJ hJ hY hJ0
  have hc := hx.code
  have HF := Lib.hid hf
  have HR := Lib.hid hr
  clear hf hr
  have HI := Lib.hid (IAt_of_below h1 hW hg1.2)
  have h2' := (hW.cell (p := ⟨g2, 0, none⟩) hg2.2).trans h2
  obtain ⟨c0, c1, c2, c3⟩ := HI.out
  clear h2 h1
  have HY := Lib.hid hY
  have HJ := Lib.hid (And.intro hP hPJ)
  clear hY hJ hP hPJ hW
  refine callsIn_of_wp Try.func123 rfl trivial ?_ rfl
  simp only [Try.ntmps123, List.size_toArray, List.length_cons, List.length_nil, Nat.reduceAdd, Nat.reduceSub, Array.replicate_succ, Array.replicate_zero, List.push_toArray, List.append_toArray, List.nil_append, List.cons_append]
  have hwf : ∀ k, Fence.wide.fn k := fun _ => trivial
  have hwd : Fence.wide.depth = none := rfl
  have hg1W : g1 < W.heap.size := by omega
  have hg2W : g2 < W.heap.size := by omega
  have q1 := hx.jt
  have q2 := hx.jf
  gi_wp2_with (first
    | (gi_at_call 105; refine (callsIn_wide.2 (form_any x.code hc _)).mono ?_; rw [HF.out]; rintro e w1 ⟨rfl, hb⟩; have d2 := (hb.cell (p := ⟨g2, 0, none⟩) hg2W).trans h2'; have HD := Lib.hid (IAt_of_below HI.out hb hg1W); obtain ⟨d0, d1, dd, d3⟩ := HD.out; have hz := hb.size; have HB := Lib.hid hb; clear hb)
    | (gi_at_call 65; refine (callsIn_wide.2 (returns_any x.code x.jt x.jf x.k _)).mono ?_; rw [HR.out]; rintro e w2 ⟨rfl, hb2⟩; have e2 := (hb2.cell (p := ⟨g2, 0, none⟩) (show g2 < _ by omega)).trans d2; have HE := Lib.hid (IAt_of_below HD.out hb2 (by omega)); obtain ⟨e0, e1, ee, e3⟩ := HE.out; have hz2 := hb2.size; have HB2 := Lib.hid (HB.out.trans (hb2.mono hz)); clear hb2))
  gi_quiet_th (fail)
  obtain ⟨fn, tmps, assign, body, hy, hR⟩ := HY.out _ 0 (by simp) (w2.drewN nq) (HJ.out.2 _ (HJ.out.1 _ _ hJ0 (below_drewN HB2.out nq)) HB2.out.size) HB2.out.size (Nat.le_refl _)
  simp only [List.getElem_cons_zero] at hy
  have HRR := Lib.hid hR
  clear hR
  gi_wp2
  refine HRR.out.mono ?_
  rintro e B ⟨rfl, hJB, hkp⟩
  have HKP := Lib.hid hkp
  clear hkp
  gi_wp2
  go_end0
  exact ⟨⟨_, rfl⟩, _, HB2.out.size, HKP.out.size, hJB⟩

set_option maxRecDepth 100000 in
set_option maxHeartbeats 400000 in
theorem next_iter_t5l (x : Insn) (hx : x.Ok) (i : Nat) (hi : i ≤ 255) (hf : form x.code = 5) (hr : isRet x.code = false) (hk : x.jt < x.jf) (g1 g2 m0 n0 : Nat) (w0 : World)
    (h1 : IAt w0 g1 0 x) (h2 : w0.cell? ⟨g2, 0, none⟩ = some (.int .i64 i)) (hg1 : m0 ≤ g1 ∧ g1 < n0) (hg2 : m0 ≤ g2 ∧ g2 < n0) :
    Iter Try.prog 123 #[.pointer (some ⟨g1, 0, none⟩), .pointer (some ⟨g2, 0, none⟩)] [#[.int .i64 ((i : Int) + 1 + x.jt)], #[.int .i64 ((i : Int) + 1 + x.jf)]] m0 n0 w0 := by
  have n2 : ¬ x.jf < x.jt := by omega
  have hne : ((x.jt : Int) != (x.jf : Int)) = true := by rw [bne_iff_ne]; omega
  intro l W P0 J hW hn0 hP hPJ hJ hY hJ0
  have hc := hx.code
  have HF := Lib.hid hf
  have HR := Lib.hid hr
  clear hf hr
  have HI := Lib.hid (IAt_of_below h1 hW hg1.2)
  have h2' := (hW.cell (p := ⟨g2, 0, none⟩) hg2.2).trans h2
  obtain ⟨c0, c1, c2, c3⟩ := HI.out
  clear h2 h1
  have HY := Lib.hid hY
  have HJ := Lib.hid (And.intro hP hPJ)
  clear hY hJ hP hPJ hW
  refine callsIn_of_wp Try.func123 rfl trivial ?_ rfl
  simp only [Try.ntmps123, List.size_toArray, List.length_cons, List.length_nil, Nat.reduceAdd, Nat.reduceSub, Array.replicate_succ, Array.replicate_zero, List.push_toArray, List.append_toArray, List.nil_append, List.cons_append]
  have hwf : ∀ k, Fence.wide.fn k := fun _ => trivial
  have hwd : Fence.wide.depth = none := rfl
  have hg1W : g1 < W.heap.size := by omega
  have hg2W : g2 < W.heap.size := by omega
  have q1 := hx.jt
  have q2 := hx.jf
  gi_wp2_with (first
    | (gi_at_call 105; refine (callsIn_wide.2 (form_any x.code hc _)).mono ?_; rw [HF.out]; rintro e w1 ⟨rfl, hb⟩; have d2 := (hb.cell (p := ⟨g2, 0, none⟩) hg2W).trans h2'; have HD := Lib.hid (IAt_of_below HI.out hb hg1W); obtain ⟨d0, d1, dd, d3⟩ := HD.out; have hz := hb.size; have HB := Lib.hid hb; clear hb)
    | (gi_at_call 65; refine (callsIn_wide.2 (returns_any x.code x.jt x.jf x.k _)).mono ?_; rw [HR.out]; rintro e w2 ⟨rfl, hb2⟩; have e2 := (hb2.cell (p := ⟨g2, 0, none⟩) (show g2 < _ by omega)).trans d2; have HE := Lib.hid (IAt_of_below HD.out hb2 (by omega)); obtain ⟨e0, e1, ee, e3⟩ := HE.out; have hz2 := hb2.size; have HB2 := Lib.hid (HB.out.trans (hb2.mono hz)); clear hb2))
  gi_quiet_th (fail)
  obtain ⟨fn, tmps, assign, body, hy, hR⟩ := HY.out _ 0 (by simp) (w2.drewN nq) (HJ.out.2 _ (HJ.out.1 _ _ hJ0 (below_drewN HB2.out nq)) HB2.out.size) HB2.out.size (Nat.le_refl _)
  simp only [List.getElem_cons_zero] at hy
  have HRR := Lib.hid hR
  clear hR
  gi_wp2
  refine HRR.out.mono ?_
  rintro e B ⟨rfl, hJB, hkp⟩
  have hsz2 : (w2.drewN nq).heap.size ≤ B.heap.size := hkp.size
  have f2 : B.cell? ⟨g2, 0, none⟩ = some (.int .i64 i) := (World.cell?_of_block (w := w2.drewN nq) (a := ⟨g2, 0, none⟩) (hkp.block g2 (.inl hg2) (show g2 < w2.heap.size by omega))).trans e2
  obtain ⟨fn2, tmps2, assign2, body2, hy2, hR2⟩ := HY.out _ 1 (by simp) B hJB HB2.out.size hsz2
  simp only [List.getElem_cons_zero, List.getElem_cons_succ] at hy2
  have HRR2 := Lib.hid hR2
  have HKP := Lib.hid hkp
  clear hR2 hkp hy
  gi_wp2
  refine HRR2.out.mono ?_
  rintro e B2 ⟨rfl, hJB2, hkp2⟩
  have HKP2 := Lib.hid hkp2
  clear hkp2
  gi_wp2
  go_end0
  exact ⟨⟨_, rfl⟩, _, HB2.out.size, Nat.le_trans HKP.out.size HKP2.out.size, hJB2⟩

set_option maxRecDepth 100000 in
set_option maxHeartbeats 400000 in
theorem next_iter_t5g (x : Insn) (hx : x.Ok) (i : Nat) (hi : i ≤ 255) (hf : form x.code = 5) (hr : isRet x.code = false) (hk : x.jf < x.jt) (g1 g2 m0 n0 : Nat) (w0 : World)
    (h1 : IAt w0 g1 0 x) (h2 : w0.cell? ⟨g2, 0, none⟩ = some (.int .i64 i)) (hg1 : m0 ≤ g1 ∧ g1 < n0) (hg2 : m0 ≤ g2 ∧ g2 < n0) :
    Iter Try.prog 123 #[.pointer (some ⟨g1, 0, none⟩), .pointer (some ⟨g2, 0, none⟩)] [#[.int .i64 ((i : Int) + 1 + x.jf)], #[.int .i64 ((i : Int) + 1 + x.jt)]] m0 n0 w0 := by
  have n1 : ¬ x.jt < x.jf := by omega
  have hne : ((x.jf : Int) != (x.jt : Int)) = true := by rw [bne_iff_ne]; omega
  intro l W P0 J hW hn0 hP hPJ hJ hY hJ0
  have hc := hx.code
  have HF := Lib.hid hf
  have HR := Lib.hid hr
  clear hf hr
  have HI := Lib.hid (IAt_of_below h1 hW hg1.2)
  have h2' := (hW.cell (p := ⟨g2, 0, none⟩) hg2.2).trans h2
  obtain ⟨c0, c1, c2, c3⟩ := HI.out
  clear h2 h1
  have HY := Lib.hid hY
  have HJ := Lib.hid (And.intro hP hPJ)
  clear hY hJ hP hPJ hW
  refine callsIn_of_wp Try.func123 rfl trivial ?_ rfl
  simp only [Try.ntmps123, List.size_toArray, List.length_cons, List.length_nil, Nat.reduceAdd, Nat.reduceSub, Array.replicate_succ, Array.replicate_zero, List.push_toArray, List.append_toArray, List.nil_append, List.cons_append]
  have hwf : ∀ k, Fence.wide.fn k := fun _ => trivial
  have hwd : Fence.wide.depth = none := rfl
  have hg1W : g1 < W.heap.size := by omega
  have hg2W : g2 < W.heap.size := by omega
  have q1 := hx.jt
  have q2 := hx.jf
  gi_wp2_with (first
    | (gi_at_call 105; refine (callsIn_wide.2 (form_any x.code hc _)).mono ?_; rw [HF.out]; rintro e w1 ⟨rfl, hb⟩; have d2 := (hb.cell (p := ⟨g2, 0, none⟩) hg2W).trans h2'; have HD := Lib.hid (IAt_of_below HI.out hb hg1W); obtain ⟨d0, d1, dd, d3⟩ := HD.out; have hz := hb.size; have HB := Lib.hid hb; clear hb)
    | (gi_at_call 65; refine (callsIn_wide.2 (returns_any x.code x.jt x.jf x.k _)).mono ?_; rw [HR.out]; rintro e w2 ⟨rfl, hb2⟩; have e2 := (hb2.cell (p := ⟨g2, 0, none⟩) (show g2 < _ by omega)).trans d2; have HE := Lib.hid (IAt_of_below HD.out hb2 (by omega)); obtain ⟨e0, e1, ee, e3⟩ := HE.out; have hz2 := hb2.size; have HB2 := Lib.hid (HB.out.trans (hb2.mono hz)); clear hb2))
  gi_quiet_th (fail)
  obtain ⟨fn, tmps, assign, body, hy, hR⟩ := HY.out _ 0 (by simp) (w2.drewN nq) (HJ.out.2 _ (HJ.out.1 _ _ hJ0 (below_drewN HB2.out nq)) HB2.out.size) HB2.out.size (Nat.le_refl _)
  simp only [List.getElem_cons_zero] at hy
  have HRR := Lib.hid hR
  clear hR
  gi_wp2
  refine HRR.out.mono ?_
  rintro e B ⟨rfl, hJB, hkp⟩
  have hsz2 : (w2.drewN nq).heap.size ≤ B.heap.size := hkp.size
  have f2 : B.cell? ⟨g2, 0, none⟩ = some (.int .i64 i) := (World.cell?_of_block (w := w2.drewN nq) (a := ⟨g2, 0, none⟩) (hkp.block g2 (.inl hg2) (show g2 < w2.heap.size by omega))).trans e2
  obtain ⟨fn2, tmps2, assign2, body2, hy2, hR2⟩ := HY.out _ 1 (by simp) B hJB HB2.out.size hsz2
  simp only [List.getElem_cons_zero, List.getElem_cons_succ] at hy2
  have HRR2 := Lib.hid hR2
  have HKP := Lib.hid hkp
  clear hR2 hkp hy
  gi_wp2
  refine HRR2.out.mono ?_
  rintro e B2 ⟨rfl, hJB2, hkp2⟩
  have HKP2 := Lib.hid hkp2
  clear hkp2
  gi_wp2
  go_end0
  exact ⟨⟨_, rfl⟩, _, HB2.out.size, Nat.le_trans HKP.out.size HKP2.out.size, hJB2⟩

set_option maxRecDepth 100000 in
set_option maxHeartbeats 400000 in
theorem next_iter_t6e (x : Insn) (hx : x.Ok) (i : Nat) (hi : i ≤ 255) (hf : form x.code = 6) (hr : isRet x.code = false) (hk : x.jt = x.jf) (g1 g2 m0 n0 : Nat) (w0 : World)
    (h1 : IAt w0 g1 0 x) (h2 : w0.cell? ⟨g2, 0, none⟩ = some (.int .i64 i)) (hg1 : m0 ≤ g1 ∧ g1 < n0) (hg2 : m0 ≤ g2 ∧ g2 < n0) :
    Iter Try.prog 123 #[.pointer (some ⟨g1, 0, none⟩), .pointer (some ⟨g2, 0, none⟩)] [#[.int .i64 ((i : Int) + 1 + x.jt)]] m0 n0 w0 := by
  have n1 : ¬ x.jt < x.jf := by omega
  have n2 : ¬ x.jf < x.jt := by omega
  have HK := Lib.hid hk
  clear hk
  intro l W P0 J hW hn0 hP hPJ hJ hY hJ0
  have hc := hx.code
  have HF := Lib.hid hf
  have HR := Lib.hid hr
  clear hf hr
  have HI := Lib.hid (IAt_of_below h1 hW hg1.2)
  have h2' := (hW.cell (p := ⟨g2, 0, none⟩) hg2.2).trans h2
  obtain ⟨c0, c1, c2, c3⟩ := HI.out
  clear h2 h1
  have HY := Lib.hid hY
  have HJ := Lib.hid (And.intro hP hPJ)
  clear hY hJ hP hPJ hW
  refine callsIn_of_wp Try.func123 rfl trivial ?_ rfl
  simp only [Try.ntmps123, List.size_toArray, List.length_cons, List.length_nil, Nat.reduceAdd, Nat.reduceSub, Array.replicate_succ, Array.replicate_zero, List.push_toArray, List.append_toArray, List.nil_append, List.cons_append]
  have hwf : ∀ k, Fence.wide.fn k := fun _ => trivial
  have hwd : Fence.wide.depth = none := rfl
  have hg1W : g1 < W.heap.size := by omega
  have hg2W : g2 < W.heap.size := by omega
  have q1 := hx.jt
  have q2 := hx.jf
  gi_wp2_with (first
    | (gi_at_call 105; refine (callsIn_wide.2 (form_any x.code hc _)).mono ?_; rw [HF.out]; rintro e w1 ⟨rfl, hb⟩; have d2 := (hb.cell (p := ⟨g2, 0, none⟩) hg2W).trans h2'; have HD := Lib.hid (IAt_of_below HI.out hb hg1W); obtain ⟨d0, d1, dd, d3⟩ := HD.out; have hz := hb.size; have HB := Lib.hid hb; clear hb)
    | (gi_at_call 65; refine (callsIn_wide.2 (returns_any x.code x.jt x.jf x.k _)).mono ?_; rw [HR.out]; rintro e w2 ⟨rfl, hb2⟩; have e2 := (hb2.cell (p := ⟨g2, 0, none⟩) (show g2 < _ by omega)).trans d2; have HE := Lib.hid (IAt_of_below HD.out hb2 (by omega)); obtain ⟨e0, e1, ee, e3⟩ := HE.out; have hz2 := hb2.size; have HB2 := Lib.hid (HB.out.trans (hb2.mono hz)); clear hb2))
  gi_quiet_th (fail)
  obtain ⟨fn, tmps, assign, body, hy, hR⟩ := HY.out _ 0 (by simp) (w2.drewN nq) (HJ.out.2 _ (HJ.out.1 _ _ hJ0 (below_drewN HB2.out nq)) HB2.out.size) HB2.out.size (Nat.le_refl _)
  simp only [List.getElem_cons_zero] at hy
  have HRR := Lib.hid hR
  clear hR
  gi_wp2
  refine HRR.out.mono ?_
  rintro e B ⟨rfl, hJB, hkp⟩
  have HKP := Lib.hid hkp
  clear hkp
  gi_wp2
  go_end0
  exact ⟨⟨_, rfl⟩, _, HB2.out.size, HKP.out.size, hJB⟩

set_option maxRecDepth 100000 in
set_option maxHeartbeats 400000 in
theorem next_iter_t6l (x : Insn) (hx : x.Ok) (i : Nat) (hi : i ≤ 255) (hf : form x.code = 6) (hr : isRet x.code = false) (hk : x.jt < x.jf) (g1 g2 m0 n0 : Nat) (w0 : World)
    (h1 : IAt w0 g1 0 x) (h2 : w0.cell? ⟨g2, 0, none⟩ = some (.int .i64 i)) (hg1 : m0 ≤ g1 ∧ g1 < n0) (hg2 : m0 ≤ g2 ∧ g2 < n0) :
    Iter Try.prog 123 #[.pointer (some ⟨g1, 0, none⟩), .pointer (some ⟨g2, 0, none⟩)] [#[.int .i64 ((i : Int) + 1 + x.jt)], #[.int .i64 ((i : Int) + 1 + x.jf)]] m0 n0 w0 := by
  have n2 : ¬ x.jf < x.jt := by omega
  have hne : ((x.jt : Int) != (x.jf : Int)) = true := by rw [bne_iff_ne]; omega
  intro l W P0 J hW hn0 hP hPJ hJ hY hJ0
  have hc := hx.code
  have HF := Lib.hid hf
  have HR := Lib.hid hr
  clear hf hr
  have HI := Lib.hid (IAt_of_below h1 hW hg1.2)
  have h2' := (hW.cell (p := ⟨g2, 0, none⟩) hg2.2).trans h2
  obtain ⟨c0, c1, c2, c3⟩ := HI.out
  clear h2 h1
  have HY := Lib.hid hY
  have HJ := Lib.hid (And.intro hP hPJ)
  clear hY hJ hP hPJ hW
  refine callsIn_of_wp Try.func123 rfl trivial ?_ rfl
  simp only [Try.ntmps123, List.size_toArray, List.length_cons, List.length_nil, Nat.reduceAdd, Nat.reduceSub, Array.replicate_succ, Array.replicate_zero, List.push_toArray, List.append_toArray, List.nil_append, List.cons_append]
  have hwf : ∀ k, Fence.wide.fn k := fun _ => trivial
  have hwd : Fence.wide.depth = none := rfl
  have hg1W : g1 < W.heap.size := by omega
  have hg2W : g2 < W.heap.size := by omega
  have q1 := hx.jt
  have q2 := hx.jf
  gi_wp2_with (first
    | (gi_at_call 105; refine (callsIn_wide.2 (form_any x.code hc _)).mono ?_; rw [HF.out]; rintro e w1 ⟨rfl, hb⟩; have d2 := (hb.cell (p := ⟨g2, 0, none⟩) hg2W).trans h2'; have HD := Lib.hid (IAt_of_below HI.out hb hg1W); obtain ⟨d0, d1, dd, d3⟩ := HD.out; have hz := hb.size; have HB := Lib.hid hb; clear hb)
    | (gi_at_call 65; refine (callsIn_wide.2 (returns_any x.code x.jt x.jf x.k _)).mono ?_; rw [HR.out]; rintro e w2 ⟨rfl, hb2⟩; have e2 := (hb2.cell (p := ⟨g2, 0, none⟩) (show g2 < _ by omega)).trans d2; have HE := Lib.hid (IAt_of_below HD.out hb2 (by omega)); obtain ⟨e0, e1, ee, e3⟩ := HE.out; have hz2 := hb2.size; have HB2 := Lib.hid (HB.out.trans (hb2.mono hz)); clear hb2))
  gi_quiet_th (fail)
  obtain ⟨fn, tmps, assign, body, hy, hR⟩ := HY.out _ 0 (by simp) (w2.drewN nq) (HJ.out.2 _ (HJ.out.1 _ _ hJ0 (below_drewN HB2.out nq)) HB2.out.size) HB2.out.size (Nat.le_refl _)
  simp only [List.getElem_cons_zero] at hy
  have HRR := Lib.hid hR
  clear hR
  gi_wp2
  refine HRR.out.mono ?_
  rintro e B ⟨rfl, hJB, hkp⟩
  have hsz2 : (w2.drewN nq).heap.size ≤ B.heap.size := hkp.size
  have f2 : B.cell? ⟨g2, 0, none⟩ = some (.int .i64 i) := (World.cell?_of_block (w := w2.drewN nq) (a := ⟨g2, 0, none⟩) (hkp.block g2 (.inl hg2) (show g2 < w2.heap.size by omega))).trans e2
  obtain ⟨fn2, tmps2, assign2, body2, hy2, hR2⟩ := HY.out _ 1 (by simp) B hJB HB2.out.size hsz2
  simp only [List.getElem_cons_zero, List.getElem_cons_succ] at hy2
  have HRR2 := Lib.hid hR2
  have HKP := Lib.hid hkp
  clear hR2 hkp hy
  gi_wp2
  refine HRR2.out.mono ?_
  rintro e B2 ⟨rfl, hJB2, hkp2⟩
  have HKP2 := Lib.hid hkp2
  clear hkp2
  gi_wp2
  go_end0
  exact ⟨⟨_, rfl⟩, _, HB2.out.size, Nat.le_trans HKP.out.size HKP2.out.size, hJB2⟩

set_option maxRecDepth 100000 in
set_option maxHeartbeats 400000 in
theorem next_iter_t6g (x : Insn) (hx : x.Ok) (i : Nat) (hi : i ≤ 255) (hf : form x.code = 6) (hr : isRet x.code = false) (hk : x.jf < x.jt) (g1 g2 m0 n0 : Nat) (w0 : World)
    (h1 : IAt w0 g1 0 x) (h2 : w0.cell? ⟨g2, 0, none⟩ = some (.int .i64 i)) (hg1 : m0 ≤ g1 ∧ g1 < n0) (hg2 : m0 ≤ g2 ∧ g2 < n0) :
    Iter Try.prog 123 #[.pointer (some ⟨g1, 0, none⟩), .pointer (some ⟨g2, 0, none⟩)] [#[.int .i64 ((i : Int) + 1 + x.jf)], #[.int .i64 ((i : Int) + 1 + x.jt)]] m0 n0 w0 := by
  have n1 : ¬ x.jt < x.jf := by omega
  have hne : ((x.jf : Int) != (x.jt : Int)) = true := by rw [bne_iff_ne]; omega
  intro l W P0 J hW hn0 hP hPJ hJ hY hJ0
  have hc := hx.code
  have HF := Lib.hid hf
  have HR := Lib.hid hr
  clear hf hr
  have HI := Lib.hid (IAt_of_below h1 hW hg1.2)
  have h2' := (hW.cell (p := ⟨g2, 0, none⟩) hg2.2).trans h2
  obtain ⟨c0, c1, c2, c3⟩ := HI.out
  clear h2 h1
  have HY := Lib.hid hY
  have HJ := Lib.hid (And.intro hP hPJ)
  clear hY hJ hP hPJ hW
  refine callsIn_of_wp Try.func123 rfl trivial ?_ rfl
  simp only [Try.ntmps123, List.size_toArray, List.length_cons, List.length_nil, Nat.reduceAdd, Nat.reduceSub, Array.replicate_succ, Array.replicate_zero, List.push_toArray, List.append_toArray, List.nil_append, List.cons_append]
  have hwf : ∀ k, Fence.wide.fn k := fun _ => trivial
  have hwd : Fence.wide.depth = none := rfl
  have hg1W : g1 < W.heap.size := by omega
  have hg2W : g2 < W.heap.size := by omega
  have q1 := hx.jt
  have q2 := hx.jf
  gi_wp2_with (first
    | (gi_at_call 105; refine (callsIn_wide.2 (form_any x.code hc _)).mono ?_; rw [HF.out]; rintro e w1 ⟨rfl, hb⟩; have d2 := (hb.cell (p := ⟨g2, 0, none⟩) hg2W).trans h2'; have HD := Lib.hid (IAt_of_below HI.out hb hg1W); obtain ⟨d0, d1, dd, d3⟩ := HD.out; have hz := hb.size; have HB := Lib.hid hb; clear hb)
    | (gi_at_call 65; refine (callsIn_wide.2 (returns_any x.code x.jt x.jf x.k _)).mono ?_; rw [HR.out]; rintro e w2 ⟨rfl, hb2⟩; have e2 := (hb2.cell (p := ⟨g2, 0, none⟩) (show g2 < _ by omega)).trans d2; have HE := Lib.hid (IAt_of_below HD.out hb2 (by omega)); obtain ⟨e0, e1, ee, e3⟩ := HE.out; have hz2 := hb2.size; have HB2 := Lib.hid (HB.out.trans (hb2.mono hz)); clear hb2))
  gi_quiet_th (fail)
  obtain ⟨fn, tmps, assign, body, hy, hR⟩ := HY.out _ 0 (by simp) (w2.drewN nq) (HJ.out.2 _ (HJ.out.1 _ _ hJ0 (below_drewN HB2.out nq)) HB2.out.size) HB2.out.size (Nat.le_refl _)
  simp only [List.getElem_cons_zero] at hy
  have HRR := Lib.hid hR
  clear hR
  gi_wp2
  refine HRR.out.mono ?_
  rintro e B ⟨rfl, hJB, hkp⟩
  have hsz2 : (w2.drewN nq).heap.size ≤ B.heap.size := hkp.size
  have f2 : B.cell? ⟨g2, 0, none⟩ = some (.int .i64 i) := (World.cell?_of_block (w := w2.drewN nq) (a := ⟨g2, 0, none⟩) (hkp.block g2 (.inl hg2) (show g2 < w2.heap.size by omega))).trans e2
  obtain ⟨fn2, tmps2, assign2, body2, hy2, hR2⟩ := HY.out _ 1 (by simp) B hJB HB2.out.size hsz2
  simp only [List.getElem_cons_zero, List.getElem_cons_succ] at hy2
  have HRR2 := Lib.hid hR2
  have HKP := Lib.hid hkp
  clear hR2 hkp hy
  gi_wp2
  refine HRR2.out.mono ?_
  rintro e B2 ⟨rfl, hJB2, hkp2⟩
  have HKP2 := Lib.hid hkp2
  clear hkp2
  gi_wp2
  go_end0
  exact ⟨⟨_, rfl⟩, _, HB2.out.size, Nat.le_trans HKP.out.size HKP2.out.size, hJB2⟩

end Go.Proofs.Ytfjbanfibmpalaa

/- Contracts: check.next, slices.AppendSeq, slices.Collect, check.Next. -/
set_option linter.unusedVariables false
set_option linter.unusedSimpArgs false
namespace Go.Proofs.Ytfjbanfibmpalaa
open Go.RowKit Go.Shelf
attribute [local go_sem] Oper.semAt_some

def ints (l : List Nat) : List (Array Value) := l.map fun (k : Nat) => (#[Value.int .i64 (k : Int)] : Array Value)

/-- What comes next, told one behind the other. -/
theorem next_iter (x : Insn) (hx : x.Ok) (i : Nat) (hi : i ≤ 255) (g1 g2 m0 n0 : Nat) (w0 : World) (h1 : IAt w0 g1 0 x) (h2 : w0.cell? ⟨g2, 0, none⟩ = some (.int .i64 i)) (hg1 : m0 ≤ g1 ∧ g1 < n0) (hg2 : m0 ≤ g2 ∧ g2 < n0) :
    Iter Try.prog 123 #[.pointer (some ⟨g1, 0, none⟩), .pointer (some ⟨g2, 0, none⟩)] (ints (nexts x i)) m0 n0 w0 := by
  have hv := form_vals x.code
  by_cases hneg : form x.code < 0
  · rw [show nexts x i = [] by unfold nexts; rw [if_pos (.inl hneg)]]
    exact next_iter_neg x hx i hi (by omega) g1 g2 m0 n0 w0 h1 h2 hg1 hg2
  by_cases hr : isRet x.code = true
  · rw [show nexts x i = [] by unfold nexts; rw [if_pos (.inr hr)]]
    exact next_iter_ret x hx i hi _ rfl (by omega) hr g1 g2 m0 n0 w0 h1 h2 hg1 hg2
  have hr' : isRet x.code = false := by simpa using hr
  have hno : ¬ (form x.code < 0 ∨ isRet x.code = true) := by rintro (h | h); exact hneg h; exact hr h
  by_cases h4 : form x.code = 4
  · by_cases hk : x.k ≤ 255
    · rw [show nexts x i = [i + 1 + x.k] by unfold nexts; rw [if_neg hno, if_pos h4, if_pos hk]]
      exact next_iter_ja x hx i hi h4 hr' hk g1 g2 m0 n0 w0 h1 h2 hg1 hg2
    · rw [show nexts x i = [] by unfold nexts; rw [if_neg hno, if_pos h4, if_neg hk]]
      exact next_iter_far x hx i hi h4 hr' (by omega) g1 g2 m0 n0 w0 h1 h2 hg1 hg2
  by_cases h56 : form x.code = 5 ∨ form x.code = 6
  · by_cases he : x.jt = x.jf
    · rw [show nexts x i = [i + 1 + x.jt] by unfold nexts; rw [if_neg hno, if_neg h4, if_pos h56, if_pos he]]
      rcases h56 with h | h
      · exact next_iter_t5e x hx i hi h hr' he g1 g2 m0 n0 w0 h1 h2 hg1 hg2
      · exact next_iter_t6e x hx i hi h hr' he g1 g2 m0 n0 w0 h1 h2 hg1 hg2
    · by_cases hl : x.jt < x.jf
      · rw [show nexts x i = [i + 1 + x.jt, i + 1 + x.jf] by unfold nexts; rw [if_neg hno, if_neg h4, if_pos h56, if_neg he, Nat.min_eq_left (by omega), Nat.max_eq_right (by omega)]]
        rcases h56 with h | h
        · exact next_iter_t5l x hx i hi h hr' hl g1 g2 m0 n0 w0 h1 h2 hg1 hg2
        · exact next_iter_t6l x hx i hi h hr' hl g1 g2 m0 n0 w0 h1 h2 hg1 hg2
      · rw [show nexts x i = [i + 1 + x.jf, i + 1 + x.jt] by unfold nexts; rw [if_neg hno, if_neg h4, if_pos h56, if_neg he, Nat.min_eq_right (by omega), Nat.max_eq_left (by omega)]]
        rcases h56 with h | h
        · exact next_iter_t5g x hx i hi h hr' (by omega) g1 g2 m0 n0 w0 h1 h2 hg1 hg2
        · exact next_iter_t6g x hx i hi h hr' (by omega) g1 g2 m0 n0 w0 h1 h2 hg1 hg2
  · rw [show nexts x i = [i + 1] by unfold nexts; rw [if_neg hno, if_neg h4, if_neg h56]]
    exact next_iter_plain x hx i hi _ rfl (by omega) (by simp; omega) (by simp; omega) (by simp; omega) hr' g1 g2 m0 n0 w0 h1 h2 hg1 hg2

set_option maxHeartbeats 400000 in
theorem next_any (x : Insn) (i : Nat) (w : World) :
    Calls Try.prog 74 #[(Value.agg #[.int .u16 x.code, .int .u8 x.jt, .int .u8 x.jf, .int .u32 x.k]), .int .i64 i] w fun e w' => e = .returned (.func (.func 123) #[] #[.pointer (some ⟨w.heap.size, 0, none⟩), .pointer (some ⟨w.heap.size + 1, 0, none⟩)]) ∧
      (w.alloc (.cells #[.int .u16 x.code, .int .u8 x.jt, .int .u8 x.jf, .int .u32 x.k] 36)).alloc (.cells #[.int .i64 i] 3) = w' := by
  go_enter Try.func74, Try.ntmps74
  go_wp2
  go_ret
  exact ⟨rfl, rfl⟩

/-! Whole numbers in cells -/
def EN : Enc Nat := ⟨fun n => [.int .i64 (n : Int)], 1, fun _ => rfl, fun x u hu => by simp at hu; subst hu; rfl⟩

theorem info_int : (Try.prog.info? 3).map (fun i => (i.zero, i.size, i.bytes)) = some (some (.int .i64 0), EN.size, 8) := by kernel_rfl

set_option maxHeartbeats 400000 in
theorem appendSeq_any (gf : Nat) (lb : Array Value) (ns : List Nat) (m0 n0 : Nat) (w : World) (eg : ∀ args w, (callFunc gf args).run Try.prog w = .ok (.enter gf args) w) (hit : Iter Try.prog gf lb (ints ns) m0 n0 w) (hn0 : n0 ≤ w.heap.size) (hlen : ns.length ≤ 1000000) :
    Calls Try.prog 176 #[.slice none 0 0, .func (.func gf) #[] lb] w fun e w' => ∃ A c, e = .returned (.slice A ns.length c) ∧ EN.Own 3 w' w.heap.size A c ns ∧ Below w.heap.size w w' := by
  refine (callsIn_wide (n := 0)).1 ?_
  refine callsIn_of_wp_marks Try.func176 rfl trivial ?_ rfl
  simp only [Try.ntmps176, List.size_toArray, List.length_cons, List.length_nil, Nat.reduceAdd, Nat.reduceSub, Array.replicate_succ, Array.replicate_zero, List.push_toArray, List.append_toArray, List.nil_append, List.cons_append]
  have hlens : (ints ns).length = ns.length := by simp [ints]
  gi_wp2
  obtain ⟨w1, hw1⟩ : ∃ w1, w.alloc (.cells #[.slice none 0 0] 64) = w1 := ⟨_, rfl⟩
  rw [hw1]
  have hs1 : w1.heap.size = w.heap.size + 1 := by rw [← hw1]; simp
  have hb1 : Below w.heap.size w w1 := by rw [← hw1]; (repeat (first | with_reducible exact Below.refl _ _ | with_reducible assumption | ((with_reducible refine Below.setCell ?_ ?hp _); case hp => (first | omega | (simp only [World.size_alloc, World.size_setCell, World.size_drew]; omega) | (simp; done) | (simp; omega))) | ((with_reducible refine Below.alloc ?_ ?hp _); case hp => (first | omega | (simp only [World.size_alloc, World.size_setCell, World.size_drew]; omega) | (simp; done) | (simp; omega))) | with_reducible refine Below.drew ?_ | with_reducible refine below_drewN ?_ _))
  have hbox : w1.heap[w.heap.size]? = some (.cells #[.slice none 0 0] 64 (0, 0)) := by rw [← hw1]; exact heap_alloc_new w _
  clear hw1
  refine rf_law (m := 0) (gf := gf) (lb := lb) rfl eg (hit.later (hb1.mono hn0)) (by omega) (fun i h => by simp [ints])
    (fun W => W.heap[w.heap.size]? = some (.cells #[.slice none 0 0] 64 (0, 0)) ∧ Below w.heap.size w W)
    (fun K i W => (∃ A c, W.heap[w.heap.size]? = some (.cells #[.slice A (ns.take i).length c] 64 (0, 0)) ∧ EN.Own 3 W K A c (ns.take i)) ∧ Below w.heap.size w W)
    ?hI0 ?hI1 ?hI ⟨hbox, hb1⟩ (fun i => ⟨#[.slice none 0 0, .func (.func gf) #[] lb, .pointer (some ⟨w.heap.size, 0, none⟩), undef, .slice none 0 0, .int .i64 ((ns.getD i 0 : Nat) : Int), .func (.func gf) #[] lb, .int .i64 ((ns.getD i 0 : Nat) : Int), undef, undef, undef, undef, undef], []⟩) ?assign ?body ?done
  case hI0 =>
    rintro A B ⟨h1, h2⟩ hs
    exact ⟨(hs.block _ (by omega)).trans h1, h2.trans (hs.mono (by omega))⟩
  case hI1 =>
    rintro A ⟨h1, h2⟩ hs
    exact ⟨⟨none, 0, by simpa using h1, by simpa using Enc.Own.nil⟩, h2⟩
  case hI =>
    rintro K i A B ⟨⟨R, c, h1, h2⟩, h3⟩ hK hs
    exact ⟨⟨R, c, (hs.block _ (Array.getElem?_eq_some_iff.1 h1).1 (by omega)).trans h1, h2.step hs (Nat.le_refl _)⟩, h3.trans (hs.below (by omega) h3.size)⟩
  case assign =>
    intro l i h W K hK
    have e : (ints ns)[i]'h = #[.int .i64 ((ns.getD i 0 : Nat) : Int)] := by
      have : i < ns.length := by omega
      simp [ints, this]
    rw [e]
    gi_wp2
    exact hK
  case body =>
    rintro l K i h W ⟨⟨R, c, hbx, hown⟩, hB⟩ hK hKW
    have hi : i < ns.length := by omega
    have htk : ns.take i ++ [ns.getD i 0] = ns.take (i + 1) := by
      rw [List.take_succ_eq_append_getElem hi]; simp [hi]
    have HTK := Lib.hid htk
    clear htk
    have hbc : W.cell? ⟨w.heap.size, 0, none⟩ = some (.slice R (ns.take i).length c) := cell_of_row _ _ _ _ _ _ hbx
    have hbf : W.frozen? ⟨w.heap.size, 0, none⟩ = false := by simp [World.frozen?, hbx]
    have hltb : w.heap.size < W.heap.size := (Array.getElem?_eq_some_iff.1 hbx).1
    have HBX := Lib.hid hbx
    clear hbx
    have hown1 := Lib.hid (hown.below (w' := W.alloc (.cells #[.int .i64 ((ns.getD i 0 : Nat) : Int)] 3)) (B := W.heap.size) (by (repeat (first | with_reducible exact Below.refl _ _ | with_reducible assumption | ((with_reducible refine Below.setCell ?_ ?hp _); case hp => (first | omega | (simp only [World.size_alloc, World.size_setCell, World.size_drew]; omega) | (simp; done) | (simp; omega))) | ((with_reducible refine Below.alloc ?_ ?hp _); case hp => (first | omega | (simp only [World.size_alloc, World.size_setCell, World.size_drew]; omega) | (simp; done) | (simp; omega))) | with_reducible refine Below.drew ?_ | with_reducible refine below_drewN ?_ _))) (Nat.le_refl _))
    have htl : (ns.take i).length ≤ 1000000 := by rw [List.length_take]; omega
    generalize ns.take i = p at *
    generalize ns.getD i 0 = k at *
    gi_wp2_with (gi_at_builtin; refine wpListIn_append_L EN 3 64 rfl (.tmp 8) (.tmp 10) rfl _ 8 Try.underlying64 info_int rfl (by decide) _ K R c p rfl hown1.out (some ⟨W.heap.size, 0, none⟩) 1 [k] rfl (Enc.Rd.one_new EN W _ k _ rfl) (by show p.length + 1 ≤ _; omega) (by decide) (by simp only [World.size_alloc]; omega) ?_; intro A' c' w3 hown3 hg hat; have hb3 : w3.heap[w.heap.size]? = some (.cells #[.slice R p.length c] 64 (0, 0)) := hown1.out.box hg ((Below.heap_alloc W _ _ hltb).trans HBX.out) (by omega); have hc3 : w3.cell? ⟨w.heap.size, 0, none⟩ = some (.slice R p.length c) := cell_of_row w3 w.heap.size 0 _ _ _ hb3; have hf3 : w3.frozen? ⟨w.heap.size, 0, none⟩ = false := (by simp [World.frozen?, hb3]); have HG := Lib.hid hg; have HO3 := Lib.hid hown3; have HB3 := Lib.hid hb3; clear hg hat hown3 hb3)
    have hs3 : W.heap.size + 1 ≤ w3.heap.size := by have := HG.out.size; simpa using this
    have hkp : KpB m0 n0 w1.heap.size K W w3 := ((KpB.refl _ _ _ _ _).alloc _).grown HG.out (fun k hk => by have := World.ownsRow.lt hown1.out k hk; omega)
    have hB3 : Below w.heap.size w w3 := (hB.alloc hB.size _).grown HG.out (by simp only [World.size_alloc]; omega) (fun k hk => by have := World.ownsRow.lt hown1.out k hk; omega)
    refine ⟨hkp.setCell (p := ⟨w.heap.size, 0, none⟩) (.inr (by show n0 ≤ w.heap.size; omega)) (.inl (by show w.heap.size < _; omega)) _, ⟨A', c', ?_, ?_⟩, hB3.setCell (p := ⟨w.heap.size, 0, none⟩) (Nat.le_refl _) _⟩
    · rw [← HTK.out]
      exact (heap_setCell_same w3 _ 0 _ _ _ HB3.out).trans (by simp)
    · rw [← HTK.out]
      exact ownsRow_setCell_below HO3.out (a := ⟨w.heap.size, 0, none⟩) (by show w.heap.size < K; omega) _
  case done =>
    rintro K W hK hKW ⟨⟨R, c, hbx, hown⟩, hB⟩ hD
    have hbc : W.cell? ⟨w.heap.size, 0, none⟩ = some (.slice R (ns.take (ints ns).length).length c) := cell_of_row _ _ _ _ _ _ hbx
    rw [hlens, List.take_length] at hbc hown
    gi_wp2
    refine ⟨by simp, .inl ⟨_, _, rfl, run_takeDeferred hD, ?_⟩⟩
    refine ⟨_, results_tmp rfl _ _ _, R, c, rfl, ?_, ?_⟩
    · exact (hown.step (N := w1.heap.size) (K := w1.heap.size + 1) (.put _ _ _ (Nat.le_refl _) (by omega)) (by omega)).mono (by omega)
    · exact hB.trans (below_put _ _ _ (by omega))

theorem enters_next (args : Array Value) (w : World) : (callFunc 123 args).run Try.prog w = .ok (.enter 123 args) w := enters_of Try.func123 (by kernel_rfl) rfl args w

set_option maxHeartbeats 400000 in
theorem collect_any (gf : Nat) (lb : Array Value) (ns : List Nat) (m0 n0 : Nat) (w : World) (eg : ∀ args w, (callFunc gf args).run Try.prog w = .ok (.enter gf args) w) (hit : Iter Try.prog gf lb (ints ns) m0 n0 w) (hn0 : n0 ≤ w.heap.size) (hlen : ns.length ≤ 1000000) :
    Calls Try.prog 170 #[.func (.func gf) #[] lb] w fun e w' => ∃ A c, e = .returned (.slice A ns.length c) ∧ EN.Own 3 w' w.heap.size A c ns ∧ Below w.heap.size w w' := by
  have HA := Lib.hid (appendSeq_any gf lb ns m0 n0 w eg hit hn0 hlen)
  clear eg hit
  go_enter Try.func170, Try.ntmps170
  go_wp2_with (go_at_call 176; refine HA.out.mono ?_; rintro e w' ⟨A, c, rfl, ho, hb⟩)
  go_ret
  exact ⟨A, c, rfl, ho, hb⟩

set_option maxRecDepth 100000 in
set_option maxHeartbeats 400000 in
theorem nextList_any (x : Insn) (hx : x.Ok) (i : Nat) (hi : i ≤ 255) (w : World) :
    Calls Try.prog 157 #[(Value.agg #[.int .u16 x.code, .int .u8 x.jt, .int .u8 x.jf, .int .u32 x.k]), .int .i64 i] w fun e w' => ∃ A c, e = .returned (.slice A (nexts x i).length c) ∧ EN.Own 3 w' w.heap.size A c (nexts x i) ∧ Below w.heap.size w w' := by
  have hlen : (nexts x i).length ≤ 1000000 := by unfold nexts; (repeat' split) <;> simp
  obtain ⟨W, hW⟩ : ∃ W, W = w.alloc (.cells #[.int .u16 x.code, .int .u8 x.jt, .int .u8 x.jf, .int .u32 x.k] 36) := ⟨_, rfl⟩
  obtain ⟨W2, hW2⟩ : ∃ W2, W2 = (W.alloc (.cells #[.int .u16 x.code, .int .u8 x.jt, .int .u8 x.jf, .int .u32 x.k] 36)).alloc (.cells #[.int .i64 i] 3) := ⟨_, rfl⟩
  have hs : W.heap.size = w.heap.size + 1 := by rw [hW]; simp
  have hs2 : W2.heap.size = w.heap.size + 3 := by rw [hW2]; simp [hs]
  have hIt : Iter Try.prog 123 #[.pointer (some ⟨W.heap.size, 0, none⟩), .pointer (some ⟨W.heap.size + 1, 0, none⟩)] (ints (nexts x i)) 0 W2.heap.size W2 := by
    refine next_iter x hx i hi _ _ _ _ _ ?_ ?_ ⟨by omega, by omega⟩ ⟨by omega, by omega⟩
    · subst hW2; exact ⟨by simp [go_sem], by simp [go_sem], by simp [go_sem], by simp [go_sem]⟩
    · subst hW2; simp [go_sem]
  rw [hs] at hIt
  have HC := Lib.hid (collect_any _ _ _ _ _ W2 enters_next hIt (Nat.le_refl _) hlen)
  have hB : Below w.heap.size w W2 := by subst hW2; subst hW; (repeat (first | with_reducible exact Below.refl _ _ | with_reducible assumption | ((with_reducible refine Below.setCell ?_ ?hp _); case hp => (first | omega | (simp only [World.size_alloc, World.size_setCell, World.size_drew]; omega) | (simp; done) | (simp; omega))) | ((with_reducible refine Below.alloc ?_ ?hp _); case hp => (first | omega | (simp only [World.size_alloc, World.size_setCell, World.size_drew]; omega) | (simp; done) | (simp; omega))) | with_reducible refine Below.drew ?_ | with_reducible refine below_drewN ?_ _))
  have HB := Lib.hid hB
  have HW := Lib.hid hW2
  have HN := Lib.hid (next_any x i W)
  have HWW := Lib.hid hW
  clear hIt hB hW2
  subst hW
  clear hs hs2
  go_enter Try.func157, Try.ntmps157
  go_wp2_with (first
    | (go_at_call 74; refine HN.out.mono ?_; rw [← HW.out]; rintro e w' ⟨rfl, rfl⟩)
    | (go_at_call 170; refine HC.out.mono ?_; rintro e w' ⟨A, c, rfl, ho, hb⟩))
  go_ret
  exact ⟨A, c, rfl, ho.mono HB.out.size, HB.out.trans (hb.mono HB.out.size)⟩
end Go.Proofs.Ytfjbanfibmpalaa

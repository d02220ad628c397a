/- Contracts of layer 2: forms and names. -/
import Derived.Test.YtfjbanfibmpalaaK0
set_option linter.unusedVariables false
set_option linter.unusedSimpArgs false
namespace Go.Proofs.Ytfjbanfibmpalaa
open Go.RowKit

set_option maxHeartbeats 400000 in
theorem single_any (c : Nat) (w : World) :
    Calls Try.prog 144 #[.int .u16 c] w fun e w' => e = .returned (.tuple #[.string (single c).1, .int .i64 (single c).2]) ∧ w = w' := by
  go_enter Try.func144, Try.ntmps144
  go_wp2
  all_goals
    go_ret2
    go_light
    refine ⟨?_, rfl⟩
    simp only [beq_iff_eq, beq_eq_false_iff_ne, ne_eq] at *
    simp only [single]
    repeat (first | rw [if_pos (by omega)] | rw [if_neg (by omega)])
    rfl

/-- A block of sixteen names. -/
def NamesAt (w : World) (g : Nat) (a : Array ByteArray) : Prop := ∀ h, h < 16 → w.cell? ⟨g, h, none⟩ = some (.string (a.getD h default))

theorem names_new (w : World) (a : Array ByteArray) (t : TypeId) (cs : Array Value) (ha : a.size = 16) (hc : cs = a.map Value.string) :
    NamesAt (w.alloc (.cells cs t)) w.heap.size a := by
  intro h hh
  rw [cell_of_row _ _ _ cs t (0, 0) (heap_alloc_new w _), hc]
  simp [ha, hh, Array.getD]

set_option maxHeartbeats 400000 in
theorem reckons_any (w : World) :
    Calls Try.prog 159 #[] w fun e w' => e = .returned (.pointer (some ⟨w.heap.size, 0, none⟩)) ∧ NamesAt w' w.heap.size reckNames ∧ Below w.heap.size w w' ∧ w.heap.size < w'.heap.size := by
  go_enter Try.func159, Try.ntmps159
  go_wp2
  go_ret
  refine ⟨rfl, names_new _ _ _ _ rfl (by simp [reckNames]), by (repeat (first | with_reducible exact Below.refl _ _ | with_reducible assumption | ((with_reducible refine Below.setCell ?_ ?hp _); case hp => (first | omega | (simp only [World.size_alloc, World.size_setCell, World.size_drew]; omega) | (simp; done) | (simp; omega))) | ((with_reducible refine Below.alloc ?_ ?hp _); case hp => (first | omega | (simp only [World.size_alloc, World.size_setCell, World.size_drew]; omega) | (simp; done) | (simp; omega))) | with_reducible refine Below.drew ?_ | with_reducible refine below_drewN ?_ _)), by simp⟩

set_option maxHeartbeats 400000 in
theorem tests_any (w : World) :
    Calls Try.prog 160 #[] w fun e w' => e = .returned (.pointer (some ⟨w.heap.size, 0, none⟩)) ∧ NamesAt w' w.heap.size testNames ∧ Below w.heap.size w w' ∧ w.heap.size < w'.heap.size := by
  go_enter Try.func160, Try.ntmps160
  go_wp2
  go_ret
  refine ⟨rfl, names_new _ _ _ _ rfl (by simp [testNames]), by (repeat (first | with_reducible exact Below.refl _ _ | with_reducible assumption | ((with_reducible refine Below.setCell ?_ ?hp _); case hp => (first | omega | (simp only [World.size_alloc, World.size_setCell, World.size_drew]; omega) | (simp; done) | (simp; omega))) | ((with_reducible refine Below.alloc ?_ ?hp _); case hp => (first | omega | (simp only [World.size_alloc, World.size_setCell, World.size_drew]; omega) | (simp; done) | (simp; omega))) | with_reducible refine Below.drew ?_ | with_reducible refine below_drewN ?_ _)), by simp⟩

set_option maxHeartbeats 400000 in
theorem behind_any (i n : Nat) (w : World) (hn : n ≤ 1000000) (hi : i ≤ 1000000) :
    Calls Try.prog 106 #[.int .i64 i, .int .i64 n] w fun e w' => e = .returned (.int .u64 (behind i n)) ∧ w = w' := by
  go_enter Try.func106, Try.ntmps106
  go_wp2
  all_goals
    go_ret
    go_light
    refine ⟨?_, rfl⟩
    unfold behind
    first
      | (rw [if_neg (by omega)]; rfl)
      | (rw [if_pos (by omega)]; show Ending.returned (Value.int _ _) = _; congr 2; omega)

set_option maxHeartbeats 400000 in
theorem returns_any (c a b k : Nat) (w : World) :
    Calls Try.prog 65 #[.agg #[.int .u16 c, .int .u8 a, .int .u8 b, .int .u32 k]] w fun e w' => e = .returned (.bool (isRet c)) ∧ Below w.heap.size w w' := by
  go_enter Try.func65, Try.ntmps65
  go_wp2
  all_goals
    go_ret
    go_light
    refine ⟨?_, by (repeat (first | with_reducible exact Below.refl _ _ | with_reducible assumption | ((with_reducible refine Below.setCell ?_ ?hp _); case hp => (first | omega | (simp only [World.size_alloc, World.size_setCell, World.size_drew]; omega) | (simp; done) | (simp; omega))) | ((with_reducible refine Below.alloc ?_ ?hp _); case hp => (first | omega | (simp only [World.size_alloc, World.size_setCell, World.size_drew]; omega) | (simp; done) | (simp; omega))) | with_reducible refine Below.drew ?_ | with_reducible refine below_drewN ?_ _))⟩
    unfold isRet
    first
      | (show Ending.returned (Value.bool true) = _; rw [show c = 6 by omega]; rfl)
      | (show Ending.returned (Value.bool _) = _; congr 2; rw [Bool.eq_iff_iff]; simp; omega)
theorem sided_none (c : Nat) (hc : c < 65536) (h : c % 16 ≠ 4 ∧ c % 16 ≠ 12 ∧ c % 16 ≠ 5 ∧ c % 16 ≠ 13) (w : World) :
    Calls Try.prog 145 #[.int .u16 c] w fun e w' => e = .returned (.tuple #[.pointer none, .string ⟨#[]⟩, .int .i64 (-1)]) ∧ w = w' := by
  have hb := u16_15 c hc
  obtain ⟨h1, h2, h3, h4⟩ := h
  generalize c % 16 = m at *
  have e1 : (((m : Nat) : Int) == 4) = false := by simp; omega
  have e2 : (((m : Nat) : Int) == 12) = false := by simp; omega
  have e3 : (((m : Nat) : Int) == 5) = false := by simp; omega
  have e4 : (((m : Nat) : Int) == 13) = false := by simp; omega
  go_enter Try.func145, Try.ntmps145
  go_wp2
  go_ret3
  exact ⟨rfl, rfl⟩

/-- The side and the form of a low half. -/
def sideOf (c : Nat) : ByteArray := if c % 16 = 4 ∨ c % 16 = 5 then ⟨#[46, 107]⟩ else ⟨#[46, 120]⟩
def sideForm (c : Nat) : Int := if c % 16 = 4 then 1 else if c % 16 = 12 then 0 else if c % 16 = 5 then 5 else 6
def sideName (c : Nat) : ByteArray := if c % 16 = 4 ∨ c % 16 = 12 then reckNames.getD (c / 16) default else testNames.getD (c / 16) default

theorem sided_some (c : Nat) (hc : c < 256) (h : c % 16 = 4 ∨ c % 16 = 12 ∨ c % 16 = 5 ∨ c % 16 = 13) (w : World) :
    Calls Try.prog 145 #[.int .u16 c] w fun e w' => e = .returned (.tuple #[.pointer (some ⟨w.heap.size, 0, none⟩), .string (sideOf c), .int .i64 (sideForm c)]) ∧
      w'.cell? ⟨w.heap.size, c / 16, none⟩ = some (.string (sideName c)) ∧ Below w.heap.size w w' ∧ w.heap.size < w'.heap.size := by
  have hb := u16_15 c (by omega)
  have hd : c / 16 < 16 := by omega
  unfold sideOf sideForm sideName
  rcases h with h | h | h | h
  · rw [h] at hb
    go_enter Try.func145, Try.ntmps145
    go_wp2_with (go_at_call 159; refine (reckons_any _).mono ?_; rintro e w' ⟨rfl, hn, hbel, hsz⟩)
    go_ret3
    refine ⟨by simp [h], ?_, hbel, hsz⟩
    rw [hn _ hd]; simp [h]
  · rw [h] at hb
    go_enter Try.func145, Try.ntmps145
    go_wp2_with (go_at_call 159; refine (reckons_any _).mono ?_; rintro e w' ⟨rfl, hn, hbel, hsz⟩)
    go_ret3
    refine ⟨by simp [h], ?_, hbel, hsz⟩
    rw [hn _ hd]; simp [h]
  · rw [h] at hb
    go_enter Try.func145, Try.ntmps145
    go_wp2_with (go_at_call 160; refine (tests_any _).mono ?_; rintro e w' ⟨rfl, hn, hbel, hsz⟩)
    go_ret3
    refine ⟨by simp [h], ?_, hbel, hsz⟩
    rw [hn _ hd]; simp [h]
  · rw [h] at hb
    go_enter Try.func145, Try.ntmps145
    go_wp2_with (go_at_call 160; refine (tests_any _).mono ?_; rintro e w' ⟨rfl, hn, hbel, hsz⟩)
    go_ret3
    refine ⟨by simp [h], ?_, hbel, hsz⟩
    rw [hn _ hd]; simp [h]

end Go.Proofs.Ytfjbanfibmpalaa

/- Contracts: wicketgatelaw05.wakes; VmAlu. -/
import Derived.Test.YtfjbanfibmpalaaK64
import Derived.Deep.RegionHeld3
set_option linter.unusedVariables false
set_option linter.unusedSimpArgs false
namespace Go.Proofs.Ytfjbanfibmpalaa
open Go.RowKit Go.Shelf

def l05 : List Insn := [⟨32, 0, 0, 0⟩, ⟨21, 0, 1, 7⟩, ⟨6, 0, 0, 1⟩, ⟨6, 0, 0, 2⟩]
theorem ok_low {c a b k : Nat} (h : c < 256 ∧ a < 256 ∧ b < 256 ∧ k < 256) : (⟨c, a, b, k⟩ : Insn).Ok :=
  ⟨by show c < _; omega, by show a < _; omega, by show b < _; omega, by show k < _; omega⟩
theorem l05_good : Good l05 := by
  refine ⟨?_, by decide +kernel⟩
  intro x hx
  simp [l05] at hx
  rcases hx with rfl | rfl | rfl | rfl <;> exact ok_low (by decide)
def dtN (n : Nat) : Dt := ⟨n, 0, 0, 0, 0, 0, 0, 0, 0⟩
theorem dtN_ok {n : Nat} (h : n < 4294967296) : (dtN n).Ok := by
  have z : 0 < 18446744073709551616 := by decide
  exact ⟨h, (by decide : 0 < 4294967296), z, z, z, z, z, z, z⟩
/-- A literal row of instructions. -/
theorem Good.lit5 {l : List Insn} (hg : Good l) {w : World} {cs : Array Value} (hcs : cs = (EI.flat l).toArray) : RdP (w.alloc (.cells cs 36)) (some ⟨w.heap.size, 0, none⟩) l :=
  RdP.of_enc (Enc.Rd.list_at EI w _ l cs hcs _ rfl) (by have := hg.len; omega) hg.ok

theorem run_7 (g : Nat) (W : World) (hl : RdP W (some ⟨g, 0, none⟩) l05) : Calls Try.prog 37 #[.slice (some ⟨g, 0, none⟩) 4 4, .agg #[.int .u32 7, .int .u32 0, .int .u64 0, .int .u64 0, .int .u64 0, .int .u64 0, .int .u64 0, .int .u64 0, .int .u64 0]] W fun e w' =>
    e = .returned (.tuple #[.int .u32 1, .int .i64 0]) ∧ Below W.heap.size W w' := by
  have h := run_good (some ⟨g, 0, none⟩) 4 l05 (dtN 7) (dtN_ok (by decide)) W hl l05_good
  rw [show runL l05 (datL (dtN 7)) = 1 by decide +kernel] at h
  exact h
theorem run_8 (g : Nat) (W : World) (hl : RdP W (some ⟨g, 0, none⟩) l05) : Calls Try.prog 37 #[.slice (some ⟨g, 0, none⟩) 4 4, .agg #[.int .u32 8, .int .u32 0, .int .u64 0, .int .u64 0, .int .u64 0, .int .u64 0, .int .u64 0, .int .u64 0, .int .u64 0]] W fun e w' =>
    e = .returned (.tuple #[.int .u32 2, .int .i64 0]) ∧ Below W.heap.size W w' := by
  have h := run_good (some ⟨g, 0, none⟩) 4 l05 (dtN 8) (dtN_ok (by decide)) W hl l05_good
  rw [show runL l05 (datL (dtN 8)) = 2 by decide +kernel] at h
  exact h

set_option maxRecDepth 100000 in
set_option maxHeartbeats 400000 in
theorem wakes05_any (w : World) : Calls Try.prog 29 #[] w fun e w' => e = .returned (.bool true) ∧ Below w.heap.size w w' := by
  have HL := Lib.hid (l05_good.lit5 (w := w) (cs := #[.int .u16 32, .int .u8 0, .int .u8 0, .int .u32 0, .int .u16 21, .int .u8 0, .int .u8 1, .int .u32 7, .int .u16 6, .int .u8 0, .int .u8 0, .int .u32 1, .int .u16 6, .int .u8 0, .int .u8 0, .int .u32 2]) rfl)
  go_enter Try.func29, Try.ntmps29
  have tok : True := trivial
  go_wp2_with (first
    | (go_at_call 37; have _t := tok; refine (run_7 _ _ HL.out).mono ?_; rintro e w1 ⟨rfl, hb⟩; have HB1 := Lib.hid (Below.trans (show Below w.heap.size w _ by (repeat (first | with_reducible exact Below.refl _ _ | with_reducible assumption | ((with_reducible refine Below.setCell ?_ ?hp _); case hp => (first | omega | (simp only [World.size_alloc, World.size_setCell, World.size_drew]; omega) | (simp; done) | (simp; omega))) | ((with_reducible refine Below.alloc ?_ ?hp _); case hp => (first | omega | (simp only [World.size_alloc, World.size_setCell, World.size_drew]; omega) | (simp; done) | (simp; omega))) | with_reducible refine Below.drew ?_ | with_reducible refine below_drewN ?_ _))) (hb.mono (by simp))); have HL1 := Lib.hid (HL.out.below hb (Nat.le_refl _)); clear hb tok)
    | (go_at_call 37; refine (run_8 _ _ HL1.out).mono ?_; rintro e w2 ⟨rfl, hb⟩; have HB2 := Lib.hid (HB1.out.trans (hb.mono HB1.out.size)); clear hb))
  go_ret
  exact ⟨rfl, HB2.out⟩

set_option maxHeartbeats 400000 in
theorem vmalu_any (c a b : Nat) (hc : c < 65536) (ha : a < 4294967296) (hb : b < 4294967296) (w : World) :
    Calls Try.prog 6 #[.int .u16 c, .int .u32 a, .int .u32 b] w fun e w' => e = .returned (.bool true) ∧ Below w.heap.size w w' := by
  have HW := Lib.hid (wakes05_any w)
  have HA := Lib.hid (fun W => alu_any c a b hc ha hb W)
  have HRA := Lib.hid (fun W => ralu_any c a b hc ha hb W)
  have HH := Lib.hid (fun W => holds_any c a b hc ha hb W)
  have HRH := Lib.hid (fun W => rholds_any c a b hc ha hb W)
  generalize aluL (c / 16 % 16) a b = p at *
  generalize holdsL (c / 16 % 16) a b = q at *
  obtain ⟨p1, p2⟩ := p
  clear hc ha hb
  cases p2 <;> cases q
  all_goals
    go_enter Try.func6, Try.ntmps6
    go_wp2_with (first
      | (go_at_call 29; refine HW.out.mono ?_; rintro e w1 ⟨rfl, hb1⟩; have HB1 := Lib.hid hb1; clear hb1)
      | (go_at_call 30; refine (HA.out _).mono ?_; rintro e w2 ⟨rfl, hb2⟩; have HB2 := Lib.hid (HB1.out.trans (hb2.mono HB1.out.size)); clear hb2)
      | (go_at_call 31; refine (HRA.out _).mono ?_; rintro e w3 ⟨rfl, rfl⟩)
      | (go_at_call 32; refine (HH.out _).mono ?_; rintro e w4 ⟨rfl, rfl⟩)
      | (go_at_call 33; refine (HRH.out _).mono ?_; rintro e w5 ⟨rfl, rfl⟩))
    go_ret
    exact ⟨rfl, HB2.out⟩
end Go.Proofs.Ytfjbanfibmpalaa

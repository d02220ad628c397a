/- Contract: wicketgatelaw22.wakes. -/
import Derived.Test.YtfjbanfibmpalaaPF
set_option linter.unusedVariables false
set_option linter.unusedSimpArgs false
namespace Go.Proofs.Ytfjbanfibmpalaa
open Go.RowKit Go.Shelf
attribute [local go_sem ↓] Go.wp_at_zero Go.wp_at_succ

def wl1 : List Insn := [⟨32, 0, 0, 0⟩, ⟨21, 0, 1, 5⟩, ⟨5, 0, 0, 1⟩, ⟨6, 0, 0, 1⟩, ⟨6, 0, 0, 2⟩]
def wl2 : List Insn := [⟨32, 0, 0, 0⟩, ⟨21, 0, 1, 5⟩, ⟨6, 0, 0, 2⟩, ⟨6, 0, 0, 1⟩]
def wl3 : List Insn := [⟨6, 0, 0, 0⟩, ⟨6, 0, 0, 0⟩]

theorem ok_small {c a b k : Nat} (h : c < 256 ∧ a < 256 ∧ b < 256 ∧ k < 256) : (⟨c, a, b, k⟩ : Insn).Ok :=
  ⟨by show c < _; omega, by show a < _; omega, by show b < _; omega, by show k < _; omega⟩
theorem wl1_good : Good wl1 := by
  refine ⟨?_, by decide +kernel⟩
  intro x hx
  simp [wl1] at hx
  rcases hx with rfl | rfl | rfl | rfl | rfl <;> exact ok_small (by decide)
theorem wl2_good : Good wl2 := by
  refine ⟨?_, by decide +kernel⟩
  intro x hx
  simp [wl2] at hx
  rcases hx with rfl | rfl | rfl | rfl <;> exact ok_small (by decide)
theorem wl3_good : Good wl3 := by
  refine ⟨?_, by decide +kernel⟩
  intro x hx
  simp [wl3] at hx
  subst hx
  exact ok_small (by decide)
theorem wl1_prune : pruneL wl1 = wl2 := by decide +kernel
theorem wl2_once : wl2 = onceL wl2 := by decide +kernel
theorem wl3_once : ¬ wl3 = onceL wl3 := by decide +kernel

/-- A literal row of instructions. -/
theorem Good.lit {l : List Insn} (hg : Good l) {w : World} {cs : Array Value} (hcs : cs = (EI.flat l).toArray) : RdP (w.alloc (.cells cs 36)) (some ⟨w.heap.size, 0, none⟩) l :=
  RdP.of_enc (Enc.Rd.list_at EI w _ l cs hcs _ rfl) (by have := hg.len; omega) hg.ok

theorem wakes_prune (w : World) : Calls Try.prog 20 #[.slice (some ⟨w.heap.size, 0, none⟩) 5 5] (w.alloc (.cells #[.int .u16 32, .int .u8 0, .int .u8 0, .int .u32 0, .int .u16 21, .int .u8 0, .int .u8 1, .int .u32 5, .int .u16 5, .int .u8 0, .int .u8 0, .int .u32 1, .int .u16 6, .int .u8 0, .int .u8 0, .int .u32 1, .int .u16 6, .int .u8 0, .int .u8 0, .int .u32 2] 36)) fun e w' =>
    ∃ R c, e = .returned (.tuple #[.slice R 4 c, .int .i64 0]) ∧ RdP w' R wl2 ∧ Below w.heap.size w w' := by
  refine (pprune_good (some ⟨w.heap.size, 0, none⟩) 5 wl1 _ (wl1_good.lit (w := w) rfl) wl1_good).mono ?_
  rintro e w' ⟨R, c, rfl, ho, hb⟩
  rw [wl1_prune] at ho ⊢
  exact ⟨R, c, rfl, wl2_good.rdp ho, Below.trans (by (repeat (first | with_reducible exact Below.refl _ _ | with_reducible assumption | ((with_reducible refine Below.setCell ?_ ?hp _); case hp => (first | omega | (simp only [World.size_alloc, World.size_setCell, World.size_drew]; omega) | (simp; done) | (simp; omega))) | ((with_reducible refine Below.alloc ?_ ?hp _); case hp => (first | omega | (simp only [World.size_alloc, World.size_setCell, World.size_drew]; omega) | (simp; done) | (simp; omega))) | with_reducible refine Below.drew ?_ | with_reducible refine below_drewN ?_ _))) (hb.mono (by simp))⟩

set_option maxRecDepth 100000 in
set_option maxHeartbeats 1000000 in
theorem wakes22_any (w : World) : Calls Try.prog 17 #[] w fun e w' => e = .returned (.bool true) ∧ Below w.heap.size w w' := by
  go_enter Try.func17, Try.ntmps17
  have tok : True := trivial
  go_wp2_with (first
    | (go_at_call 20; refine (wakes_prune w).mono ?_; rintro e w1 ⟨R, c, rfl, hr, hb⟩; have HR := Lib.hid hr; have HB := Lib.hid hb; clear hr hb)
    | (go_at_call 22; refine (rsame_any R (some ⟨w1.heap.size, 0, none⟩) c 4 wl2 wl2 _ (HR.out.below (B := w1.heap.size) (by (repeat (first | with_reducible exact Below.refl _ _ | with_reducible assumption | ((with_reducible refine Below.setCell ?_ ?hp _); case hp => (first | omega | (simp only [World.size_alloc, World.size_setCell, World.size_drew]; omega) | (simp; done) | (simp; omega))) | ((with_reducible refine Below.alloc ?_ ?hp _); case hp => (first | omega | (simp only [World.size_alloc, World.size_setCell, World.size_drew]; omega) | (simp; done) | (simp; omega))) | with_reducible refine Below.drew ?_ | with_reducible refine below_drewN ?_ _))) (Nat.le_refl _)) (wl2_good.lit (w := w1) rfl)).mono ?_; rw [decide_eq_true rfl]; rintro e w2 ⟨rfl, hb⟩; have HB2 := Lib.hid hb; have HR2 := Lib.hid ((wl2_good.lit (w := w1) rfl).below hb (Nat.le_refl _)); clear hb)
    | (go_at_call 23; have _t := tok; refine (pruned_good (some ⟨w1.heap.size, 0, none⟩) 4 wl2 w2 HR2.out wl2_good).mono ?_; rw [decide_eq_true wl2_once]; rintro e w3 ⟨rfl, hb⟩; have HB3 := Lib.hid (HB.out.trans ((Below.trans (show Below w1.heap.size w1 _ by (repeat (first | with_reducible exact Below.refl _ _ | with_reducible assumption | ((with_reducible refine Below.setCell ?_ ?hp _); case hp => (first | omega | (simp only [World.size_alloc, World.size_setCell, World.size_drew]; omega) | (simp; done) | (simp; omega))) | ((with_reducible refine Below.alloc ?_ ?hp _); case hp => (first | omega | (simp only [World.size_alloc, World.size_setCell, World.size_drew]; omega) | (simp; done) | (simp; omega))) | with_reducible refine Below.drew ?_ | with_reducible refine below_drewN ?_ _))) ((HB2.out.trans (hb.mono HB2.out.size)).mono (by simp))).mono HB.out.size)); clear hb tok)
    | (go_at_call 23; refine (pruned_good (some ⟨w3.heap.size, 0, none⟩) 2 wl3 _ (wl3_good.lit (w := w3) rfl) wl3_good).mono ?_; rw [decide_eq_false wl3_once]; rintro e w4 ⟨rfl, hb⟩; have HB4 := Lib.hid (HB3.out.trans (Below.trans (show Below w.heap.size w3 _ from (Below.refl _ _).alloc HB3.out.size _) (hb.mono (by have := HB3.out.size; simp; omega)))); clear hb))
  go_ret
  exact ⟨rfl, HB4.out⟩
end Go.Proofs.Ytfjbanfibmpalaa

/- Contracts: (prune.program).lead$1; (prune.program).lead. -/
import Derived.Test.YtfjbanfibmpalaaK26
import Derived.Deep.QuietTactic
import Derived.BigQuiet
set_option linter.unusedVariables false
set_option linter.unusedSimpArgs false
namespace Go.Proofs.Ytfjbanfibmpalaa
open Go.RowKit Go.Shelf
attribute [local go_sem ↓] Go.wp_at_zero Go.wp_at_succ

theorem RdP.drewN {w : World} {A : Option Addr} {l : List Insn} (h : RdP w A l) (m : Nat) : RdP (w.drewN m) A l :=
  h.below (B := w.heap.size) (below_drewN (Below.refl _ _) m) (Nat.le_refl _)

theorem end_quiet (A : Option Addr) (cap : Nat) (l : List Insn) (i : Nat) (w : World) (hl : RdP w A l) (hg : Good l) (hi : i < l.length) {m : Nat} :
    Calls Try.prog 135 #[.slice A l.length cap, .int .i64 i] (w.drewN m) fun e w' => e = .returned (.int .i64 (endOf l i)) ∧ ∃ m', w' = w.drewN m' :=
  (end_any A cap l (w.drewN m) (hl.drewN m) hg _ i (Nat.le_refl _) hi).mono fun _ _ ⟨he, hw⟩ => ⟨he, m, hw.symm⟩

set_option maxHeartbeats 400000 in
theorem to_any (A : Option Addr) (cap : Nat) (l : List Insn) (i d P I : Nat) (w : World) (hl : RdP w A l) (hg : Good l) (hi : i + 1 + d < l.length)
    (hP : w.cell? ⟨P, 0, none⟩ = some (.slice A l.length cap)) (hI : w.cell? ⟨I, 0, none⟩ = some (.int .i64 i)) :
    Calls Try.prog 138 #[.int .i64 d, .pointer (some ⟨P, 0, none⟩), .pointer (some ⟨I, 0, none⟩)] w fun e w' => e = .returned (.int .i64 ((endOf l (i + 1 + d) - i - 1 : Nat) : Int)) ∧ ∃ m, w' = w.drewN m := by
  have hlen := hg.len
  have h1 := endOf_lt hg hi
  have h2 := endOf_ge hg hi
  have HR := Lib.hid (fun m => end_quiet A cap l (i + 1 + d) w hl hg hi (m := m))
  clear hl hg
  generalize endOf l (i + 1 + d) = n at *
  obtain ⟨m, rfl⟩ : ∃ m, n = i + 1 + m := ⟨n - i - 1, by omega⟩
  have e2 : i + 1 + m - i - 1 = m := by omega
  rw [e2]
  have e3 : ((i + 1 + d : Nat) : Int) = (i : Int) + 1 + d := by omega
  have e4 : ((i + 1 + m : Nat) : Int) = (i : Int) + 1 + m := by omega
  rw [e3, e4] at HR
  have HE := Lib.hid e2
  clear e2 e3 e4
  go_enter Try.func138, Try.ntmps138
  go_wp2
  go_quiet ((go_at_call 135; exact HR.out _))
  go_wp2
  go_ret
  refine ⟨?_, _, rfl⟩
  show Ending.returned (Value.int _ _) = _
  congr 2
  first | rfl | omega
end Go.Proofs.Ytfjbanfibmpalaa

/- Contracts: prune.with, .Once, .Prune, .Pruned, .Same. -/
import Derived.Test.YtfjbanfibmpalaaK32
set_option linter.unusedVariables false
set_option linter.unusedSimpArgs false
namespace Go.Proofs.Ytfjbanfibmpalaa
open Go.RowKit Go.Shelf
attribute [local go_sem ↓] Go.wp_at_zero Go.wp_at_succ

theorem good_mk {A : Option Addr} {l : List Insn} {w : World} (h : RdP w A l) (hc : (check l).2 = 0) : Good l := ⟨h.ok, hc⟩

set_option maxHeartbeats 400000 in
theorem with_bad (A : Option Addr) (cap : Nat) (l : List Insn) (g : FuncId) (w : World) (hl : RdP w A l) (hc : (check l).2 ≠ 0) :
    Calls Try.prog 54 #[.slice A l.length cap, .func (.func g) #[] #[]] w fun e w' => e = .returned (.tuple #[.slice none 0 0, .int .i64 (check l).2]) ∧ Below w.heap.size w w' := by
  have HC := Lib.hid (check_any A cap l w hl)
  have e1 : ((check l).2 != 0) = true := by simpa using hc
  clear hl hc
  generalize (check l).2 = k at *
  generalize (check l).1 = i at *
  go_enter Try.func54, Try.ntmps54
  go_wp2_with (go_at_call 27; refine HC.out.mono ?_; rintro e w1 ⟨rfl, hb1⟩)
  go_ret2
  exact ⟨rfl, hb1⟩

set_option maxHeartbeats 400000 in
theorem with_once (A : Option Addr) (cap : Nat) (l : List Insn) (w : World) (hl : RdP w A l) (hg : Good l) :
    Calls Try.prog 54 #[.slice A l.length cap, .func (.func 55) #[] #[]] w fun e w' => ∃ R c, e = .returned (.tuple #[.slice R (onceL l).length c, .int .i64 0]) ∧ EI.Own 36 w' w.heap.size R c (onceL l) ∧ Below w.heap.size w w' := by
  have HC := Lib.hid (check_any A cap l w hl)
  have HG := Lib.hid hg
  have HL := Lib.hid hl
  have HK := Lib.hid hg.checked
  have hlen := hg.len
  clear hl hg
  go_enter Try.func54, Try.ntmps54
  go_wp2_with (first
    | (go_at_call 27; refine HC.out.mono ?_; rw [HK.out]; rintro e w1 ⟨rfl, hb1⟩; have HB1 := Lib.hid hb1; clear hb1)
    | (go_at_call 28; refine (clone_any A cap l w1 (HL.out.below HB1.out (Nat.le_refl _)).enc (by omega)).mono ?_; rintro e w2 ⟨R2, c2, rfl, ho, hb2⟩; have HO2 := Lib.hid ho; have HB2 := Lib.hid (HB1.out.trans (hb2.mono HB1.out.size)); clear ho hb2)
    | (go_at_call 55; refine (once_any R2 c2 l w2 (HG.out.rdp HO2.out) HG.out).mono ?_; rintro e w3 ⟨R3, c3, rfl, ho, hb3⟩; have HO3 := Lib.hid (ho.mono HB2.out.size); have HB3 := Lib.hid (HB2.out.trans (hb3.mono HB2.out.size)); clear ho hb3))
  go_ret2
  exact ⟨R3, c3, rfl, HO3.out, HB3.out⟩

set_option maxHeartbeats 400000 in
theorem with_rounds (A : Option Addr) (cap : Nat) (l : List Insn) (w : World) (hl : RdP w A l) (hg : Good l) :
    Calls Try.prog 54 #[.slice A l.length cap, .func (.func 56) #[] #[]] w fun e w' => ∃ R c, e = .returned (.tuple #[.slice R (pruneL l).length c, .int .i64 0]) ∧ EI.Own 36 w' w.heap.size R c (pruneL l) ∧ Below w.heap.size w w' := by
  have HC := Lib.hid (check_any A cap l w hl)
  have HG := Lib.hid hg
  have HL := Lib.hid hl
  have HK := Lib.hid hg.checked
  have hlen := hg.len
  clear hl hg
  go_enter Try.func54, Try.ntmps54
  go_wp2_with (first
    | (go_at_call 27; refine HC.out.mono ?_; rw [HK.out]; rintro e w1 ⟨rfl, hb1⟩; have HB1 := Lib.hid hb1; clear hb1)
    | (go_at_call 28; refine (clone_any A cap l w1 (HL.out.below HB1.out (Nat.le_refl _)).enc (by omega)).mono ?_; rintro e w2 ⟨R2, c2, rfl, ho, hb2⟩; have HO2 := Lib.hid ho; have HB2 := Lib.hid (HB1.out.trans (hb2.mono HB1.out.size)); clear ho hb2)
    | (go_at_call 56; refine (rounds_any R2 c2 l w2 (HG.out.rdp HO2.out) HG.out).mono ?_; rintro e w3 ⟨R3, c3, rfl, ho, hb3⟩; have HO3 := Lib.hid (ho.mono HB2.out.size); have HB3 := Lib.hid (HB2.out.trans (hb3.mono HB2.out.size)); clear ho hb3))
  go_ret2
  exact ⟨R3, c3, rfl, HO3.out, HB3.out⟩

set_option maxHeartbeats 400000 in
theorem ponce_good (A : Option Addr) (cap : Nat) (l : List Insn) (w : World) (hl : RdP w A l) (hg : Good l) :
    Calls Try.prog 19 #[.slice A l.length cap] w fun e w' => ∃ R c, e = .returned (.tuple #[.slice R (onceL l).length c, .int .i64 0]) ∧ EI.Own 36 w' w.heap.size R c (onceL l) ∧ Below w.heap.size w w' := by
  have HC := Lib.hid (with_once A cap l w hl hg)
  clear hl hg
  go_enter Try.func19, Try.ntmps19
  go_wp2_with (go_at_call 54; refine HC.out.mono ?_; rintro e w1 ⟨R, c, rfl, ho, hb1⟩)
  go_ret2
  exact ⟨R, c, rfl, ho, hb1⟩

set_option maxHeartbeats 400000 in
theorem ponce_bad (A : Option Addr) (cap : Nat) (l : List Insn) (w : World) (hl : RdP w A l) (hc : (check l).2 ≠ 0) :
    Calls Try.prog 19 #[.slice A l.length cap] w fun e w' => e = .returned (.tuple #[.slice none 0 0, .int .i64 (check l).2]) ∧ Below w.heap.size w w' := by
  have HC := Lib.hid (with_bad A cap l 55 w hl hc)
  clear hl hc
  generalize (check l).2 = k at *
  go_enter Try.func19, Try.ntmps19
  go_wp2_with (go_at_call 54; refine HC.out.mono ?_; rintro e w1 ⟨rfl, hb1⟩)
  go_ret2
  exact ⟨rfl, hb1⟩

set_option maxHeartbeats 400000 in
theorem pprune_good (A : Option Addr) (cap : Nat) (l : List Insn) (w : World) (hl : RdP w A l) (hg : Good l) :
    Calls Try.prog 20 #[.slice A l.length cap] w fun e w' => ∃ R c, e = .returned (.tuple #[.slice R (pruneL l).length c, .int .i64 0]) ∧ EI.Own 36 w' w.heap.size R c (pruneL l) ∧ Below w.heap.size w w' := by
  have HC := Lib.hid (with_rounds A cap l w hl hg)
  clear hl hg
  go_enter Try.func20, Try.ntmps20
  go_wp2_with (go_at_call 54; refine HC.out.mono ?_; rintro e w1 ⟨R, c, rfl, ho, hb1⟩)
  go_ret2
  exact ⟨R, c, rfl, ho, hb1⟩

set_option maxHeartbeats 400000 in
theorem pprune_bad (A : Option Addr) (cap : Nat) (l : List Insn) (w : World) (hl : RdP w A l) (hc : (check l).2 ≠ 0) :
    Calls Try.prog 20 #[.slice A l.length cap] w fun e w' => e = .returned (.tuple #[.slice none 0 0, .int .i64 (check l).2]) ∧ Below w.heap.size w w' := by
  have HC := Lib.hid (with_bad A cap l 56 w hl hc)
  clear hl hc
  generalize (check l).2 = k at *
  go_enter Try.func20, Try.ntmps20
  go_wp2_with (go_at_call 54; refine HC.out.mono ?_; rintro e w1 ⟨rfl, hb1⟩)
  go_ret2
  exact ⟨rfl, hb1⟩

set_option maxHeartbeats 400000 in
theorem pruned_good (A : Option Addr) (cap : Nat) (l : List Insn) (w : World) (hl : RdP w A l) (hg : Good l) :
    Calls Try.prog 23 #[.slice A l.length cap] w fun e w' => e = .returned (.bool (decide (l = onceL l))) ∧ Below w.heap.size w w' := by
  have HC := Lib.hid (ponce_good A cap l w hl hg)
  have HL := Lib.hid hl
  have HG1 := Lib.hid (once_good hg)
  generalize hd : decide (l = onceL l) = d
  have HD := Lib.hid hd
  clear hl hg hd
  cases d
  all_goals
    go_enter Try.func23, Try.ntmps23
    go_wp2_with (first
      | (go_at_call 19; refine HC.out.mono ?_; rintro e w1 ⟨R, c, rfl, ho, hb1⟩; have HO1 := Lib.hid ho; have HB1 := Lib.hid hb1; clear ho hb1)
      | (go_at_call 42; refine (equal_any A R cap c l (onceL l) w1 (HL.out.below HB1.out (Nat.le_refl _)) (HG1.out.rdp HO1.out)).mono ?_; rw [HD.out]; rintro e w2 ⟨rfl, hb2⟩; have HB2 := Lib.hid (HB1.out.trans (hb2.mono HB1.out.size)); clear hb2))
    go_ret
    exact ⟨rfl, HB2.out⟩

set_option maxHeartbeats 400000 in
theorem pruned_bad (A : Option Addr) (cap : Nat) (l : List Insn) (w : World) (hl : RdP w A l) (hc : (check l).2 ≠ 0) :
    Calls Try.prog 23 #[.slice A l.length cap] w fun e w' => e = .returned (.bool false) ∧ Below w.heap.size w w' := by
  have HC := Lib.hid (ponce_bad A cap l w hl hc)
  have e1 : ((check l).2 == 0) = false := by simpa using hc
  clear hl hc
  generalize (check l).2 = k at *
  go_enter Try.func23, Try.ntmps23
  go_wp2_with (go_at_call 19; refine HC.out.mono ?_; rintro e w1 ⟨rfl, hb1⟩)
  go_ret
  exact ⟨rfl, hb1⟩

set_option maxHeartbeats 400000 in
theorem same_bad1 (A B : Option Addr) (ca cb : Nat) (a b : List Insn) (w : World) (ha : RdP w A a) (hc : (check a).2 ≠ 0) :
    Calls Try.prog 26 #[.slice A a.length ca, .slice B b.length cb] w fun e w' => e = .returned (.tuple #[.bool false, .int .i64 (check a).2]) ∧ Below w.heap.size w w' := by
  have HC := Lib.hid (pprune_bad A ca a w ha hc)
  have e1 : ((check a).2 != 0) = true := by simpa using hc
  clear ha hc
  generalize (check a).2 = k at *
  go_enter Try.func26, Try.ntmps26
  go_wp2_with (go_at_call 20; refine HC.out.mono ?_; rintro e w1 ⟨rfl, hb1⟩)
  go_ret2
  exact ⟨rfl, hb1⟩

set_option maxHeartbeats 400000 in
theorem same_bad2 (A B : Option Addr) (ca cb : Nat) (a b : List Insn) (w : World) (ha : RdP w A a) (hb : RdP w B b) (hg : Good a) (hc : (check b).2 ≠ 0) :
    Calls Try.prog 26 #[.slice A a.length ca, .slice B b.length cb] w fun e w' => e = .returned (.tuple #[.bool false, .int .i64 (check b).2]) ∧ Below w.heap.size w w' := by
  have HC := Lib.hid (pprune_good A ca a w ha hg)
  have HC2 := Lib.hid (fun W (h : RdP W B b) => pprune_bad B cb b W h hc)
  have HB := Lib.hid hb
  have e1 : ((check b).2 != 0) = true := by simpa using hc
  clear ha hb hc hg
  generalize (check b).2 = k at *
  have tok : True := trivial
  go_enter Try.func26, Try.ntmps26
  go_wp2_with (first
    | (go_at_call 20; have _t := tok; refine HC.out.mono ?_; rintro e w1 ⟨R, c, rfl, ho, hb1⟩; have HB1 := Lib.hid hb1; clear ho hb1 tok)
    | (go_at_call 20; refine (HC2.out w1 (HB.out.below HB1.out (Nat.le_refl _))).mono ?_; rintro e w2 ⟨rfl, hb2⟩; have HB2 := Lib.hid (HB1.out.trans (hb2.mono HB1.out.size)); clear hb2))
  go_ret2
  exact ⟨rfl, HB2.out⟩

set_option maxHeartbeats 400000 in
theorem same_good (A B : Option Addr) (ca cb : Nat) (a b : List Insn) (w : World) (ha : RdP w A a) (hb : RdP w B b) (hg : Good a) (hh : Good b) :
    Calls Try.prog 26 #[.slice A a.length ca, .slice B b.length cb] w fun e w' => e = .returned (.tuple #[.bool (decide (pruneL a = pruneL b)), .int .i64 0]) ∧ Below w.heap.size w w' := by
  have HC := Lib.hid (pprune_good A ca a w ha hg)
  have HC2 := Lib.hid (fun W (h : RdP W B b) => pprune_good B cb b W h hh)
  have HB := Lib.hid hb
  have HA1 := Lib.hid (prune_facts hg).1
  have HA2 := Lib.hid (prune_facts hh).1
  clear ha hb hg hh
  have tok : True := trivial
  go_enter Try.func26, Try.ntmps26
  go_wp2_with (first
    | (go_at_call 20; have _t := tok; refine HC.out.mono ?_; rintro e w1 ⟨R, c, rfl, ho, hb1⟩; have HO1 := Lib.hid ho; have HB1 := Lib.hid hb1; clear ho hb1 tok)
    | (go_at_call 20; refine (HC2.out w1 (HB.out.below HB1.out (Nat.le_refl _))).mono ?_; rintro e w2 ⟨R2, c2, rfl, ho, hb2⟩; have HO2 := Lib.hid ho; have HO12 := Lib.hid (HO1.out.below hb2 (Nat.le_refl _)); have HB2 := Lib.hid (HB1.out.trans (hb2.mono HB1.out.size)); clear ho hb2)
    | (go_at_call 42; refine (equal_any R R2 c c2 (pruneL a) (pruneL b) w2 (HA1.out.rdp HO12.out) (HA2.out.rdp HO2.out)).mono ?_; rintro e w3 ⟨rfl, hb3⟩; have HB3 := Lib.hid (HB2.out.trans (hb3.mono HB2.out.size)); clear hb3))
  go_ret2
  exact ⟨rfl, HB3.out⟩
end Go.Proofs.Ytfjbanfibmpalaa

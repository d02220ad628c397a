/- PE -/
import Derived.Test.YtfjbanfibmpalaaK31
import Derived.Deep.LoopGhost

/- Contracts: prune.once, .rounds, .with, .Once, .Prune, .Pruned, .Same. -/
set_option linter.unusedVariables false
set_option linter.unusedSimpArgs false
namespace Go.Proofs.Ytfjbanfibmpalaa
open Go.RowKit Go.Shelf
attribute [local go_sem ↓] Go.wp_at_zero Go.wp_at_succ

/-- A row of one's own of a good program reads as it. -/
theorem Good.rdp {l : List Insn} (hg : Good l) {w : World} {base : Nat} {R : Option Addr} {c : Nat} (h : EI.Own 36 w base R c l) : RdP w R l :=
  RdP.of_enc h.rd (by have := hg.len; omega) hg.ok

theorem give_own {l : List Insn} (hg : Good l) {w w' : World} {R : Option Addr} {c : Nat} (h : EI.Own 36 w' w.heap.size R c (giveL l)) : RdP w' R (giveL l) := (give_good hg).rdp h

set_option maxRecDepth 100000 in
set_option maxHeartbeats 1000000 in
theorem once_any (A : Option Addr) (cap : Nat) (l : List Insn) (w : World) (hl : RdP w A l) (hg : Good l) :
    Calls Try.prog 55 #[.slice A l.length cap] w fun e w' => ∃ R c, e = .returned (.slice R (onceL l).length c) ∧ EI.Own 36 w' w.heap.size R c (onceL l) ∧ Below w.heap.size w w' := by
  have g1 := give_good hg
  have g2 := lead_good g1
  have g3 := level_good g2
  have n1 := giveL_len l
  have n2 := leadL_len (giveL l)
  have n3 := levelL_len (leadL (giveL l))
  have HG := Lib.hid hg
  have HL := Lib.hid hl
  have HG1 := Lib.hid g1
  have HG2 := Lib.hid g2
  have HG3 := Lib.hid g3
  have C1 := Lib.hid (give_any A cap l w hl hg)
  have C2 := Lib.hid (fun R c W (h : RdP W R (giveL l)) => lead_any R c (giveL l) W h g1)
  have C3 := Lib.hid (fun R c W (h : RdP W R (leadL (giveL l))) => level_any R c (leadL (giveL l)) W h g2)
  have C4 := Lib.hid (fun R c W (h : RdP W R (levelL (leadL (giveL l)))) => leave_any R c (levelL (leadL (giveL l))) W h g3)
  rw [n1] at C2
  rw [n2, n1] at C3
  rw [n3, n2, n1] at C4
  have HO := Lib.hid (show onceL l = leaveL (levelL (leadL (giveL l))) from rfl)
  clear hg hl g1 g2 g3 n1 n2 n3
  have f0 : ∀ w, (Instr.index 148 (.agg #[.func (.func 92) #[] #[], .func (.func 93) #[] #[], .func (.func 94) #[] #[], .func (.func 95) #[] #[]]) (.int .i64 0)).run Try.prog w = .ok (.func (.func 92) #[] #[]) w := fun _ => by kernel_rfl
  have f1 : ∀ w, (Instr.index 148 (.agg #[.func (.func 92) #[] #[], .func (.func 93) #[] #[], .func (.func 94) #[] #[], .func (.func 95) #[] #[]]) (.int .i64 1)).run Try.prog w = .ok (.func (.func 93) #[] #[]) w := fun _ => by kernel_rfl
  have f2 : ∀ w, (Instr.index 148 (.agg #[.func (.func 92) #[] #[], .func (.func 93) #[] #[], .func (.func 94) #[] #[], .func (.func 95) #[] #[]]) (.int .i64 2)).run Try.prog w = .ok (.func (.func 94) #[] #[]) w := fun _ => by kernel_rfl
  have f3 : ∀ w, (Instr.index 148 (.agg #[.func (.func 92) #[] #[], .func (.func 93) #[] #[], .func (.func 94) #[] #[], .func (.func 95) #[] #[]]) (.int .i64 3)).run Try.prog w = .ok (.func (.func 95) #[] #[]) w := fun _ => by kernel_rfl
  go_enter Try.func55, Try.ntmps55
  go_wp2
  refine wp_loop_rounds 5 ?_
  rw [rounds_succ]
  go_wp2_with (go_at_call 92; refine C1.out.mono ?_; rintro e w1 ⟨R1, c1, rfl, ho, hb1⟩; have HO1 := Lib.hid ho; have HB1 := Lib.hid hb1; clear ho hb1)
  rw [rounds_succ]
  go_wp2_with (go_at_call 93; refine (C2.out R1 c1 w1 (HG1.out.rdp HO1.out)).mono ?_; rintro e w2 ⟨R2, c2, rfl, ho, hb2⟩; have HO2 := Lib.hid ho; have HB2 := Lib.hid (HB1.out.trans (hb2.mono HB1.out.size)); clear ho hb2)
  rw [rounds_succ]
  go_wp2_with (go_at_call 94; refine (C3.out R2 c2 w2 (HG2.out.rdp HO2.out)).mono ?_; rintro e w3 ⟨R3, c3, rfl, ho, hb3⟩; have HO3 := Lib.hid ho; have HB3 := Lib.hid (HB2.out.trans (hb3.mono HB2.out.size)); clear ho hb3)
  rw [rounds_succ]
  go_wp2_with (go_at_call 95; refine (C4.out R3 c3 w3 (HG3.out.rdp HO3.out)).mono ?_; rintro e w4 ⟨R4, c4, rfl, ho, hb4⟩; have HO4 := Lib.hid (ho.mono HB3.out.size); have HB4 := Lib.hid (HB3.out.trans (hb4.mono HB3.out.size)); clear ho hb4)
  rw [rounds_succ]
  go_wp2
  go_ret
  rw [HO.out]
  exact ⟨R4, c4, rfl, HO4.out, HB4.out⟩

set_option maxRecDepth 100000 in
set_option maxHeartbeats 1000000 in
theorem rounds_any (A : Option Addr) (cap : Nat) (l : List Insn) (w : World) (hl : RdP w A l) (hg : Good l) :
    Calls Try.prog 56 #[.slice A l.length cap] w fun e w' => ∃ R c, e = .returned (.slice R (pruneL l).length c) ∧ EI.Own 36 w' w.heap.size R c (pruneL l) ∧ Below w.heap.size w w' := by
  have HG := Lib.hid hg
  have HL := Lib.hid hl
  clear hg hl
  go_enter Try.func56, Try.ntmps56
  go_wp2
  go_loopg [0] (meas l) (fun k p wr => ∃ (lk : List Insn) (R : Option Addr) (c : Nat), p = .slice R lk.length c ∧ RdP wr R lk ∧ Good lk ∧ meas lk ≤ k ∧ pruneL lk = pruneL l ∧ Below w.heap.size w wr)
  case atStart => exact ⟨l, A, cap, rfl, HL.out, HG.out, Nat.le_refl _, rfl, Below.refl _ _⟩
  case round =>
    obtain ⟨lk, R, c, rfl, hlk, hgk, hmk, hpk, hb⟩ := hrel
    have HGK := Lib.hid hgk
    have HLK := Lib.hid hlk
    have HMK := Lib.hid hmk
    have HPK := Lib.hid hpk
    have HB := Lib.hid hb
    have g1 := once_good hgk
    have HG1 := Lib.hid g1
    have HC := Lib.hid (once_any R c lk wr hlk hgk)
    clear hgk hlk hmk hpk hb g1
    by_cases hfix : onceL lk = lk
    · have e1 : decide (onceL lk = lk) = true := by simpa using hfix
      have HE := Lib.hid e1
      have HF := Lib.hid hfix
      clear e1 hfix
      go_wp2_with (first
        | (go_at_call 55; refine HC.out.mono ?_; rintro e w1 ⟨R1, c1, rfl, ho, hb1⟩; have HO1 := Lib.hid ho; have HB1 := Lib.hid hb1; clear ho hb1)
        | (go_at_call 96; refine (equalp_any R1 R c1 c (onceL lk) lk w1 (HG1.out.rdp HO1.out) (HLK.out.below HB1.out (Nat.le_refl _))).mono ?_; rw [HE.out]; rintro e w2 ⟨rfl, hb2⟩; have HO2 := Lib.hid ((HO1.out.below hb2 (Nat.le_refl _)).mono HB.out.size); have HB2 := Lib.hid (HB.out.trans ((HB1.out.trans (hb2.mono HB1.out.size)).mono HB.out.size)); clear hb2))
      go_ret
      have hp : pruneL l = onceL lk := by rw [← HPK.out, prune_fixed HF.out, HF.out]
      rw [hp]
      exact ⟨R1, c1, rfl, HO2.out, HB2.out⟩
    · have e1 : decide (onceL lk = lk) = false := by simpa using hfix
      have HE := Lib.hid e1
      have HF := Lib.hid hfix
      clear e1 hfix
      go_wp2_with (first
        | (go_at_call 55; refine HC.out.mono ?_; rintro e w1 ⟨R1, c1, rfl, ho, hb1⟩; have HO1 := Lib.hid ho; have HB1 := Lib.hid hb1; clear ho hb1)
        | (go_at_call 96; refine (equalp_any R1 R c1 c (onceL lk) lk w1 (HG1.out.rdp HO1.out) (HLK.out.below HB1.out (Nat.le_refl _))).mono ?_; rw [HE.out]; rintro e w2 ⟨rfl, hb2⟩; have HO2 := Lib.hid (HO1.out.below hb2 (Nat.le_refl _)); have HB2 := Lib.hid (HB.out.trans ((HB1.out.trans (hb2.mono HB1.out.size)).mono HB.out.size)); clear hb2))
      have hm := meas_lt HGK.out HF.out
      go_roundg (meas (onceL lk))
      case measure => have := HMK.out; omega
      case rel => exact ⟨onceL lk, R1, c1, rfl, HG1.out.rdp HO2.out, HG1.out, Nat.le_refl _, by rw [prune_once HGK.out, HPK.out], HB2.out⟩
end Go.Proofs.Ytfjbanfibmpalaa

/- Contracts: prune.with, .Once, .Prune, .Pruned, .Same. -/
set_option linter.unusedVariables false
set_option linter.unusedSimpArgs false
namespace Go.Proofs.Ytfjbanfibmpalaa
open Go.RowKit Go.Shelf
attribute [local go_sem ↓] Go.wp_at_zero Go.wp_at_succ

theorem good_mk {A : Option Addr} {l : List Insn} {w : World} (h : RdP w A l) (hc : (check l).2 = 0) : Good l := ⟨h.ok, hc⟩

set_option maxHeartbeats 400000 in
theorem with_bad (A : Option Addr) (cap : Nat) (l : List Insn) (g : FuncId) (w : World) (hl : RdP w A l) (hc : (check l).2 ≠ 0) :
    Calls Try.prog 54 #[.slice A l.length cap, .func (.func g) #[] #[]] w fun e w' => e = .returned (.tuple #[.slice none 0 0, .int .i64 (check l).2]) ∧ Below w.heap.size w w' := by
  have HC := Lib.hid (check_any A cap l w hl)
  have e1 : ((check l).2 != 0) = true := by simpa using hc
  clear hl hc
  generalize (check l).2 = k at *
  generalize (check l).1 = i at *
  go_enter Try.func54, Try.ntmps54
  go_wp2_with (go_at_call 27; refine HC.out.mono ?_; rintro e w1 ⟨rfl, hb1⟩)
  go_ret2
  exact ⟨rfl, hb1⟩

set_option maxHeartbeats 400000 in
theorem with_once (A : Option Addr) (cap : Nat) (l : List Insn) (w : World) (hl : RdP w A l) (hg : Good l) :
    Calls Try.prog 54 #[.slice A l.length cap, .func (.func 55) #[] #[]] w fun e w' => ∃ R c, e = .returned (.tuple #[.slice R (onceL l).length c, .int .i64 0]) ∧ EI.Own 36 w' w.heap.size R c (onceL l) ∧ Below w.heap.size w w' := by
  have HC := Lib.hid (check_any A cap l w hl)
  have HG := Lib.hid hg
  have HL := Lib.hid hl
  have HK := Lib.hid hg.checked
  have hlen := hg.len
  clear hl hg
  go_enter Try.func54, Try.ntmps54
  go_wp2_with (first
    | (go_at_call 27; refine HC.out.mono ?_; rw [HK.out]; rintro e w1 ⟨rfl, hb1⟩; have HB1 := Lib.hid hb1; clear hb1)
    | (go_at_call 28; refine (clone_any A cap l w1 (HL.out.below HB1.out (Nat.le_refl _)).enc (by omega)).mono ?_; rintro e w2 ⟨R2, c2, rfl, ho, hb2⟩; have HO2 := Lib.hid ho; have HB2 := Lib.hid (HB1.out.trans (hb2.mono HB1.out.size)); clear ho hb2)
    | (go_at_call 55; refine (once_any R2 c2 l w2 (HG.out.rdp HO2.out) HG.out).mono ?_; rintro e w3 ⟨R3, c3, rfl, ho, hb3⟩; have HO3 := Lib.hid (ho.mono HB2.out.size); have HB3 := Lib.hid (HB2.out.trans (hb3.mono HB2.out.size)); clear ho hb3))
  go_ret2
  exact ⟨R3, c3, rfl, HO3.out, HB3.out⟩

set_option maxHeartbeats 400000 in
theorem with_rounds (A : Option Addr) (cap : Nat) (l : List Insn) (w : World) (hl : RdP w A l) (hg : Good l) :
    Calls Try.prog 54 #[.slice A l.length cap, .func (.func 56) #[] #[]] w fun e w' => ∃ R c, e = .returned (.tuple #[.slice R (pruneL l).length c, .int .i64 0]) ∧ EI.Own 36 w' w.heap.size R c (pruneL l) ∧ Below w.heap.size w w' := by
  have HC := Lib.hid (check_any A cap l w hl)
  have HG := Lib.hid hg
  have HL := Lib.hid hl
  have HK := Lib.hid hg.checked
  have hlen := hg.len
  clear hl hg
  go_enter Try.func54, Try.ntmps54
  go_wp2_with (first
    | (go_at_call 27; refine HC.out.mono ?_; rw [HK.out]; rintro e w1 ⟨rfl, hb1⟩; have HB1 := Lib.hid hb1; clear hb1)
    | (go_at_call 28; refine (clone_any A cap l w1 (HL.out.below HB1.out (Nat.le_refl _)).enc (by omega)).mono ?_; rintro e w2 ⟨R2, c2, rfl, ho, hb2⟩; have HO2 := Lib.hid ho; have HB2 := Lib.hid (HB1.out.trans (hb2.mono HB1.out.size)); clear ho hb2)
    | (go_at_call 56; refine (rounds_any R2 c2 l w2 (HG.out.rdp HO2.out) HG.out).mono ?_; rintro e w3 ⟨R3, c3, rfl, ho, hb3⟩; have HO3 := Lib.hid (ho.mono HB2.out.size); have HB3 := Lib.hid (HB2.out.trans (hb3.mono HB2.out.size)); clear ho hb3))
  go_ret2
  exact ⟨R3, c3, rfl, HO3.out, HB3.out⟩

set_option maxHeartbeats 400000 in
theorem ponce_good (A : Option Addr) (cap : Nat) (l : List Insn) (w : World) (hl : RdP w A l) (hg : Good l) :
    Calls Try.prog 19 #[.slice A l.length cap] w fun e w' => ∃ R c, e = .returned (.tuple #[.slice R (onceL l).length c, .int .i64 0]) ∧ EI.Own 36 w' w.heap.size R c (onceL l) ∧ Below w.heap.size w w' := by
  have HC := Lib.hid (with_once A cap l w hl hg)
  clear hl hg
  go_enter Try.func19, Try.ntmps19
  go_wp2_with (go_at_call 54; refine HC.out.mono ?_; rintro e w1 ⟨R, c, rfl, ho, hb1⟩)
  go_ret2
  exact ⟨R, c, rfl, ho, hb1⟩

set_option maxHeartbeats 400000 in
theorem ponce_bad (A : Option Addr) (cap : Nat) (l : List Insn) (w : World) (hl : RdP w A l) (hc : (check l).2 ≠ 0) :
    Calls Try.prog 19 #[.slice A l.length cap] w fun e w' => e = .returned (.tuple #[.slice none 0 0, .int .i64 (check l).2]) ∧ Below w.heap.size w w' := by
  have HC := Lib.hid (with_bad A cap l 55 w hl hc)
  clear hl hc
  generalize (check l).2 = k at *
  go_enter Try.func19, Try.ntmps19
  go_wp2_with (go_at_call 54; refine HC.out.mono ?_; rintro e w1 ⟨rfl, hb1⟩)
  go_ret2
  exact ⟨rfl, hb1⟩

set_option maxHeartbeats 400000 in
theorem pprune_good (A : Option Addr) (cap : Nat) (l : List Insn) (w : World) (hl : RdP w A l) (hg : Good l) :
    Calls Try.prog 20 #[.slice A l.length cap] w fun e w' => ∃ R c, e = .returned (.tuple #[.slice R (pruneL l).length c, .int .i64 0]) ∧ EI.Own 36 w' w.heap.size R c (pruneL l) ∧ Below w.heap.size w w' := by
  have HC := Lib.hid (with_rounds A cap l w hl hg)
  clear hl hg
  go_enter Try.func20, Try.ntmps20
  go_wp2_with (go_at_call 54; refine HC.out.mono ?_; rintro e w1 ⟨R, c, rfl, ho, hb1⟩)
  go_ret2
  exact ⟨R, c, rfl, ho, hb1⟩

set_option maxHeartbeats 400000 in
theorem pprune_bad (A : Option Addr) (cap : Nat) (l : List Insn) (w : World) (hl : RdP w A l) (hc : (check l).2 ≠ 0) :
    Calls Try.prog 20 #[.slice A l.length cap] w fun e w' => e = .returned (.tuple #[.slice none 0 0, .int .i64 (check l).2]) ∧ Below w.heap.size w w' := by
  have HC := Lib.hid (with_bad A cap l 56 w hl hc)
  clear hl hc
  generalize (check l).2 = k at *
  go_enter Try.func20, Try.ntmps20
  go_wp2_with (go_at_call 54; refine HC.out.mono ?_; rintro e w1 ⟨rfl, hb1⟩)
  go_ret2
  exact ⟨rfl, hb1⟩

set_option maxHeartbeats 400000 in
theorem pruned_good (A : Option Addr) (cap : Nat) (l : List Insn) (w : World) (hl : RdP w A l) (hg : Good l) :
    Calls Try.prog 23 #[.slice A l.length cap] w fun e w' => e = .returned (.bool (decide (l = onceL l))) ∧ Below w.heap.size w w' := by
  have HC := Lib.hid (ponce_good A cap l w hl hg)
  have HL := Lib.hid hl
  have HG1 := Lib.hid (once_good hg)
  generalize hd : decide (l = onceL l) = d
  have HD := Lib.hid hd
  clear hl hg hd
  cases d
  all_goals
    go_enter Try.func23, Try.ntmps23
    go_wp2_with (first
      | (go_at_call 19; refine HC.out.mono ?_; rintro e w1 ⟨R, c, rfl, ho, hb1⟩; have HO1 := Lib.hid ho; have HB1 := Lib.hid hb1; clear ho hb1)
      | (go_at_call 42; refine (equal_any A R cap c l (onceL l) w1 (HL.out.below HB1.out (Nat.le_refl _)) (HG1.out.rdp HO1.out)).mono ?_; rw [HD.out]; rintro e w2 ⟨rfl, hb2⟩; have HB2 := Lib.hid (HB1.out.trans (hb2.mono HB1.out.size)); clear hb2))
    go_ret
    exact ⟨rfl, HB2.out⟩

set_option maxHeartbeats 400000 in
theorem pruned_bad (A : Option Addr) (cap : Nat) (l : List Insn) (w : World) (hl : RdP w A l) (hc : (check l).2 ≠ 0) :
    Calls Try.prog 23 #[.slice A l.length cap] w fun e w' => e = .returned (.bool false) ∧ Below w.heap.size w w' := by
  have HC := Lib.hid (ponce_bad A cap l w hl hc)
  have e1 : ((check l).2 == 0) = false := by simpa using hc
  clear hl hc
  generalize (check l).2 = k at *
  go_enter Try.func23, Try.ntmps23
  go_wp2_with (go_at_call 19; refine HC.out.mono ?_; rintro e w1 ⟨rfl, hb1⟩)
  go_ret
  exact ⟨rfl, hb1⟩

set_option maxHeartbeats 400000 in
theorem same_bad1 (A B : Option Addr) (ca cb : Nat) (a b : List Insn) (w : World) (ha : RdP w A a) (hc : (check a).2 ≠ 0) :
    Calls Try.prog 26 #[.slice A a.length ca, .slice B b.length cb] w fun e w' => e = .returned (.tuple #[.bool false, .int .i64 (check a).2]) ∧ Below w.heap.size w w' := by
  have HC := Lib.hid (pprune_bad A ca a w ha hc)
  have e1 : ((check a).2 != 0) = true := by simpa using hc
  clear ha hc
  generalize (check a).2 = k at *
  go_enter Try.func26, Try.ntmps26
  go_wp2_with (go_at_call 20; refine HC.out.mono ?_; rintro e w1 ⟨rfl, hb1⟩)
  go_ret2
  exact ⟨rfl, hb1⟩

set_option maxHeartbeats 400000 in
theorem same_bad2 (A B : Option Addr) (ca cb : Nat) (a b : List Insn) (w : World) (ha : RdP w A a) (hb : RdP w B b) (hg : Good a) (hc : (check b).2 ≠ 0) :
    Calls Try.prog 26 #[.slice A a.length ca, .slice B b.length cb] w fun e w' => e = .returned (.tuple #[.bool false, .int .i64 (check b).2]) ∧ Below w.heap.size w w' := by
  have HC := Lib.hid (pprune_good A ca a w ha hg)
  have HC2 := Lib.hid (fun W (h : RdP W B b) => pprune_bad B cb b W h hc)
  have HB := Lib.hid hb
  have e1 : ((check b).2 != 0) = true := by simpa using hc
  clear ha hb hc hg
  generalize (check b).2 = k at *
  have tok : True := trivial
  go_enter Try.func26, Try.ntmps26
  go_wp2_with (first
    | (go_at_call 20; have _t := tok; refine HC.out.mono ?_; rintro e w1 ⟨R, c, rfl, ho, hb1⟩; have HB1 := Lib.hid hb1; clear ho hb1 tok)
    | (go_at_call 20; refine (HC2.out w1 (HB.out.below HB1.out (Nat.le_refl _))).mono ?_; rintro e w2 ⟨rfl, hb2⟩; have HB2 := Lib.hid (HB1.out.trans (hb2.mono HB1.out.size)); clear hb2))
  go_ret2
  exact ⟨rfl, HB2.out⟩

set_option maxHeartbeats 400000 in
theorem same_good (A B : Option Addr) (ca cb : Nat) (a b : List Insn) (w : World) (ha : RdP w A a) (hb : RdP w B b) (hg : Good a) (hh : Good b) :
    Calls Try.prog 26 #[.slice A a.length ca, .slice B b.length cb] w fun e w' => e = .returned (.tuple #[.bool (decide (pruneL a = pruneL b)), .int .i64 0]) ∧ Below w.heap.size w w' := by
  have HC := Lib.hid (pprune_good A ca a w ha hg)
  have HC2 := Lib.hid (fun W (h : RdP W B b) => pprune_good B cb b W h hh)
  have HB := Lib.hid hb
  have HA1 := Lib.hid (prune_facts hg).1
  have HA2 := Lib.hid (prune_facts hh).1
  clear ha hb hg hh
  have tok : True := trivial
  go_enter Try.func26, Try.ntmps26
  go_wp2_with (first
    | (go_at_call 20; have _t := tok; refine HC.out.mono ?_; rintro e w1 ⟨R, c, rfl, ho, hb1⟩; have HO1 := Lib.hid ho; have HB1 := Lib.hid hb1; clear ho hb1 tok)
    | (go_at_call 20; refine (HC2.out w1 (HB.out.below HB1.out (Nat.le_refl _))).mono ?_; rintro e w2 ⟨R2, c2, rfl, ho, hb2⟩; have HO2 := Lib.hid ho; have HO12 := Lib.hid (HO1.out.below hb2 (Nat.le_refl _)); have HB2 := Lib.hid (HB1.out.trans (hb2.mono HB1.out.size)); clear ho hb2)
    | (go_at_call 42; refine (equal_any R R2 c c2 (pruneL a) (pruneL b) w2 (HA1.out.rdp HO12.out) (HA2.out.rdp HO2.out)).mono ?_; rintro e w3 ⟨rfl, hb3⟩; have HB3 := Lib.hid (HB2.out.trans (hb3.mono HB2.out.size)); clear hb3))
  go_ret2
  exact ⟨rfl, HB3.out⟩
end Go.Proofs.Ytfjbanfibmpalaa

/- Contracts: wicketgateref02.Bare; wicketgateref22.ahead. -/
set_option linter.unusedVariables false
set_option linter.unusedSimpArgs false
namespace Go.Proofs.Ytfjbanfibmpalaa
open Go.RowKit Go.Shelf
attribute [local go_sem ↓] Go.wp_at_zero Go.wp_at_succ

set_option maxHeartbeats 400000 in
theorem rbare_m1 (x : Insn) (hc : x.code < 65536) (hf : form x.code = -1) (w : World) :
    Calls Try.prog 63 #[(Value.agg #[.int .u16 x.code, .int .u8 x.jt, .int .u8 x.jf, .int .u32 x.k])] w fun e w' => e = .returned (.agg #[.int .u16 x.code, .int .u8 x.jt, .int .u8 x.jf, .int .u32 x.k]) ∧ Below w.heap.size w w' := by
  have HF := Lib.hid hf
  clear hf
  go_enter Try.func63, Try.ntmps63
  go_wp2_with (go_at_call 97; refine (rform_any x.code hc _).mono ?_; rw [HF.out]; rintro e w' ⟨rfl, hb⟩; (obtain ⟨hb_c, hb_f⟩ := bcell hb; have hb_z := (hb).size; have hb_0 : Below w.heap.size w _ := Below.trans (by (repeat (first | with_reducible exact Below.refl _ _ | with_reducible assumption | ((with_reducible refine Below.setCell ?_ ?hp _); case hp => (first | omega | (simp only [World.size_alloc, World.size_setCell, World.size_drew]; omega) | (simp; done) | (simp; omega))) | ((with_reducible refine Below.alloc ?_ ?hp _); case hp => (first | omega | (simp only [World.size_alloc, World.size_setCell, World.size_drew]; omega) | (simp; done) | (simp; omega))) | with_reducible refine Below.drew ?_ | with_reducible refine below_drewN ?_ _))) ((hb).mono (by (first | omega | (simp only [World.size_alloc, World.size_setCell, World.size_drew]; omega) | (simp; done) | (simp; omega)))); (try simp only [World.size_alloc, World.size_setCell, World.size_drew] at hb_z hb_c hb_f); clear hb); (have hb_k0 := hb_c (w.heap.size) 0 (by omega); simp [go_sem] at hb_k0; have hb_k1 := hb_c (w.heap.size) 1 (by omega); simp [go_sem] at hb_k1; have hb_k2 := hb_c (w.heap.size) 2 (by omega); simp [go_sem] at hb_k2; have hb_k3 := hb_c (w.heap.size) 3 (by omega); simp [go_sem] at hb_k3); (have hb_r0 := hb_c (w.heap.size+1) 0 (by omega); simp [go_sem] at hb_r0; have hb_r1 := hb_c (w.heap.size+1) 1 (by omega); simp [go_sem] at hb_r1; have hb_r2 := hb_c (w.heap.size+1) 2 (by omega); simp [go_sem] at hb_r2; have hb_r3 := hb_c (w.heap.size+1) 3 (by omega); simp [go_sem] at hb_r3))
  refine bodyPost_ret (by simp [results, Try.results63, go_sem, hb_k0, hb_k1, hb_k2, hb_k3, hb_r0, hb_r1, hb_r2, hb_r3]) rfl ⟨rfl, ?_⟩
  (repeat (first | with_reducible exact Below.refl _ _ | with_reducible assumption | ((with_reducible refine Below.setCell ?_ ?hp _); case hp => (first | omega | (simp only [World.size_alloc, World.size_setCell, World.size_drew]; omega) | (simp; done) | (simp; omega))) | ((with_reducible refine Below.alloc ?_ ?hp _); case hp => (first | omega | (simp only [World.size_alloc, World.size_setCell, World.size_drew]; omega) | (simp; done) | (simp; omega))) | with_reducible refine Below.drew ?_ | with_reducible refine below_drewN ?_ _))

set_option maxHeartbeats 400000 in
theorem rbare_0 (x : Insn) (hc : x.code < 65536) (hf : form x.code = 0) (w : World) :
    Calls Try.prog 63 #[(Value.agg #[.int .u16 x.code, .int .u8 x.jt, .int .u8 x.jf, .int .u32 x.k])] w fun e w' => e = .returned (.agg #[.int .u16 x.code, .int .u8 0, .int .u8 0, .int .u32 0]) ∧ Below w.heap.size w w' := by
  have HF := Lib.hid hf
  clear hf
  go_enter Try.func63, Try.ntmps63
  go_wp2_with (go_at_call 97; refine (rform_any x.code hc _).mono ?_; rw [HF.out]; rintro e w' ⟨rfl, hb⟩; (obtain ⟨hb_c, hb_f⟩ := bcell hb; have hb_z := (hb).size; have hb_0 : Below w.heap.size w _ := Below.trans (by (repeat (first | with_reducible exact Below.refl _ _ | with_reducible assumption | ((with_reducible refine Below.setCell ?_ ?hp _); case hp => (first | omega | (simp only [World.size_alloc, World.size_setCell, World.size_drew]; omega) | (simp; done) | (simp; omega))) | ((with_reducible refine Below.alloc ?_ ?hp _); case hp => (first | omega | (simp only [World.size_alloc, World.size_setCell, World.size_drew]; omega) | (simp; done) | (simp; omega))) | with_reducible refine Below.drew ?_ | with_reducible refine below_drewN ?_ _))) ((hb).mono (by (first | omega | (simp only [World.size_alloc, World.size_setCell, World.size_drew]; omega) | (simp; done) | (simp; omega)))); (try simp only [World.size_alloc, World.size_setCell, World.size_drew] at hb_z hb_c hb_f); clear hb); (have hb_k0 := hb_c (w.heap.size) 0 (by omega); simp [go_sem] at hb_k0; have hb_k1 := hb_c (w.heap.size) 1 (by omega); simp [go_sem] at hb_k1; have hb_k2 := hb_c (w.heap.size) 2 (by omega); simp [go_sem] at hb_k2; have hb_k3 := hb_c (w.heap.size) 3 (by omega); simp [go_sem] at hb_k3); (have hb_r0 := hb_c (w.heap.size+1) 0 (by omega); simp [go_sem] at hb_r0; have hb_r1 := hb_c (w.heap.size+1) 1 (by omega); simp [go_sem] at hb_r1; have hb_r2 := hb_c (w.heap.size+1) 2 (by omega); simp [go_sem] at hb_r2; have hb_r3 := hb_c (w.heap.size+1) 3 (by omega); simp [go_sem] at hb_r3))
  refine bodyPost_ret (by simp [results, Try.results63, go_sem, hb_k0, hb_k1, hb_k2, hb_k3, hb_r0, hb_r1, hb_r2, hb_r3]) rfl ⟨rfl, ?_⟩
  (repeat (first | with_reducible exact Below.refl _ _ | with_reducible assumption | ((with_reducible refine Below.setCell ?_ ?hp _); case hp => (first | omega | (simp only [World.size_alloc, World.size_setCell, World.size_drew]; omega) | (simp; done) | (simp; omega))) | ((with_reducible refine Below.alloc ?_ ?hp _); case hp => (first | omega | (simp only [World.size_alloc, World.size_setCell, World.size_drew]; omega) | (simp; done) | (simp; omega))) | with_reducible refine Below.drew ?_ | with_reducible refine below_drewN ?_ _))

set_option maxHeartbeats 400000 in
theorem rbare_1 (x : Insn) (hc : x.code < 65536) (hf : form x.code = 1) (w : World) :
    Calls Try.prog 63 #[(Value.agg #[.int .u16 x.code, .int .u8 x.jt, .int .u8 x.jf, .int .u32 x.k])] w fun e w' => e = .returned (.agg #[.int .u16 x.code, .int .u8 0, .int .u8 0, .int .u32 x.k]) ∧ Below w.heap.size w w' := by
  have HF := Lib.hid hf
  clear hf
  go_enter Try.func63, Try.ntmps63
  go_wp2_with (go_at_call 97; refine (rform_any x.code hc _).mono ?_; rw [HF.out]; rintro e w' ⟨rfl, hb⟩; (obtain ⟨hb_c, hb_f⟩ := bcell hb; have hb_z := (hb).size; have hb_0 : Below w.heap.size w _ := Below.trans (by (repeat (first | with_reducible exact Below.refl _ _ | with_reducible assumption | ((with_reducible refine Below.setCell ?_ ?hp _); case hp => (first | omega | (simp only [World.size_alloc, World.size_setCell, World.size_drew]; omega) | (simp; done) | (simp; omega))) | ((with_reducible refine Below.alloc ?_ ?hp _); case hp => (first | omega | (simp only [World.size_alloc, World.size_setCell, World.size_drew]; omega) | (simp; done) | (simp; omega))) | with_reducible refine Below.drew ?_ | with_reducible refine below_drewN ?_ _))) ((hb).mono (by (first | omega | (simp only [World.size_alloc, World.size_setCell, World.size_drew]; omega) | (simp; done) | (simp; omega)))); (try simp only [World.size_alloc, World.size_setCell, World.size_drew] at hb_z hb_c hb_f); clear hb); (have hb_k0 := hb_c (w.heap.size) 0 (by omega); simp [go_sem] at hb_k0; have hb_k1 := hb_c (w.heap.size) 1 (by omega); simp [go_sem] at hb_k1; have hb_k2 := hb_c (w.heap.size) 2 (by omega); simp [go_sem] at hb_k2; have hb_k3 := hb_c (w.heap.size) 3 (by omega); simp [go_sem] at hb_k3); (have hb_r0 := hb_c (w.heap.size+1) 0 (by omega); simp [go_sem] at hb_r0; have hb_r1 := hb_c (w.heap.size+1) 1 (by omega); simp [go_sem] at hb_r1; have hb_r2 := hb_c (w.heap.size+1) 2 (by omega); simp [go_sem] at hb_r2; have hb_r3 := hb_c (w.heap.size+1) 3 (by omega); simp [go_sem] at hb_r3))
  refine bodyPost_ret (by simp [results, Try.results63, go_sem, hb_k0, hb_k1, hb_k2, hb_k3, hb_r0, hb_r1, hb_r2, hb_r3]) rfl ⟨rfl, ?_⟩
  (repeat (first | with_reducible exact Below.refl _ _ | with_reducible assumption | ((with_reducible refine Below.setCell ?_ ?hp _); case hp => (first | omega | (simp only [World.size_alloc, World.size_setCell, World.size_drew]; omega) | (simp; done) | (simp; omega))) | ((with_reducible refine Below.alloc ?_ ?hp _); case hp => (first | omega | (simp only [World.size_alloc, World.size_setCell, World.size_drew]; omega) | (simp; done) | (simp; omega))) | with_reducible refine Below.drew ?_ | with_reducible refine below_drewN ?_ _))

set_option maxHeartbeats 400000 in
theorem rbare_2 (x : Insn) (hc : x.code < 65536) (hf : form x.code = 2) (w : World) :
    Calls Try.prog 63 #[(Value.agg #[.int .u16 x.code, .int .u8 x.jt, .int .u8 x.jf, .int .u32 x.k])] w fun e w' => e = .returned (.agg #[.int .u16 x.code, .int .u8 0, .int .u8 0, .int .u32 x.k]) ∧ Below w.heap.size w w' := by
  have HF := Lib.hid hf
  clear hf
  go_enter Try.func63, Try.ntmps63
  go_wp2_with (go_at_call 97; refine (rform_any x.code hc _).mono ?_; rw [HF.out]; rintro e w' ⟨rfl, hb⟩; (obtain ⟨hb_c, hb_f⟩ := bcell hb; have hb_z := (hb).size; have hb_0 : Below w.heap.size w _ := Below.trans (by (repeat (first | with_reducible exact Below.refl _ _ | with_reducible assumption | ((with_reducible refine Below.setCell ?_ ?hp _); case hp => (first | omega | (simp only [World.size_alloc, World.size_setCell, World.size_drew]; omega) | (simp; done) | (simp; omega))) | ((with_reducible refine Below.alloc ?_ ?hp _); case hp => (first | omega | (simp only [World.size_alloc, World.size_setCell, World.size_drew]; omega) | (simp; done) | (simp; omega))) | with_reducible refine Below.drew ?_ | with_reducible refine below_drewN ?_ _))) ((hb).mono (by (first | omega | (simp only [World.size_alloc, World.size_setCell, World.size_drew]; omega) | (simp; done) | (simp; omega)))); (try simp only [World.size_alloc, World.size_setCell, World.size_drew] at hb_z hb_c hb_f); clear hb); (have hb_k0 := hb_c (w.heap.size) 0 (by omega); simp [go_sem] at hb_k0; have hb_k1 := hb_c (w.heap.size) 1 (by omega); simp [go_sem] at hb_k1; have hb_k2 := hb_c (w.heap.size) 2 (by omega); simp [go_sem] at hb_k2; have hb_k3 := hb_c (w.heap.size) 3 (by omega); simp [go_sem] at hb_k3); (have hb_r0 := hb_c (w.heap.size+1) 0 (by omega); simp [go_sem] at hb_r0; have hb_r1 := hb_c (w.heap.size+1) 1 (by omega); simp [go_sem] at hb_r1; have hb_r2 := hb_c (w.heap.size+1) 2 (by omega); simp [go_sem] at hb_r2; have hb_r3 := hb_c (w.heap.size+1) 3 (by omega); simp [go_sem] at hb_r3))
  refine bodyPost_ret (by simp [results, Try.results63, go_sem, hb_k0, hb_k1, hb_k2, hb_k3, hb_r0, hb_r1, hb_r2, hb_r3]) rfl ⟨rfl, ?_⟩
  (repeat (first | with_reducible exact Below.refl _ _ | with_reducible assumption | ((with_reducible refine Below.setCell ?_ ?hp _); case hp => (first | omega | (simp only [World.size_alloc, World.size_setCell, World.size_drew]; omega) | (simp; done) | (simp; omega))) | ((with_reducible refine Below.alloc ?_ ?hp _); case hp => (first | omega | (simp only [World.size_alloc, World.size_setCell, World.size_drew]; omega) | (simp; done) | (simp; omega))) | with_reducible refine Below.drew ?_ | with_reducible refine below_drewN ?_ _))

set_option maxHeartbeats 400000 in
theorem rbare_3 (x : Insn) (hc : x.code < 65536) (hf : form x.code = 3) (w : World) :
    Calls Try.prog 63 #[(Value.agg #[.int .u16 x.code, .int .u8 x.jt, .int .u8 x.jf, .int .u32 x.k])] w fun e w' => e = .returned (.agg #[.int .u16 x.code, .int .u8 0, .int .u8 0, .int .u32 x.k]) ∧ Below w.heap.size w w' := by
  have HF := Lib.hid hf
  clear hf
  go_enter Try.func63, Try.ntmps63
  go_wp2_with (go_at_call 97; refine (rform_any x.code hc _).mono ?_; rw [HF.out]; rintro e w' ⟨rfl, hb⟩; (obtain ⟨hb_c, hb_f⟩ := bcell hb; have hb_z := (hb).size; have hb_0 : Below w.heap.size w _ := Below.trans (by (repeat (first | with_reducible exact Below.refl _ _ | with_reducible assumption | ((with_reducible refine Below.setCell ?_ ?hp _); case hp => (first | omega | (simp only [World.size_alloc, World.size_setCell, World.size_drew]; omega) | (simp; done) | (simp; omega))) | ((with_reducible refine Below.alloc ?_ ?hp _); case hp => (first | omega | (simp only [World.size_alloc, World.size_setCell, World.size_drew]; omega) | (simp; done) | (simp; omega))) | with_reducible refine Below.drew ?_ | with_reducible refine below_drewN ?_ _))) ((hb).mono (by (first | omega | (simp only [World.size_alloc, World.size_setCell, World.size_drew]; omega) | (simp; done) | (simp; omega)))); (try simp only [World.size_alloc, World.size_setCell, World.size_drew] at hb_z hb_c hb_f); clear hb); (have hb_k0 := hb_c (w.heap.size) 0 (by omega); simp [go_sem] at hb_k0; have hb_k1 := hb_c (w.heap.size) 1 (by omega); simp [go_sem] at hb_k1; have hb_k2 := hb_c (w.heap.size) 2 (by omega); simp [go_sem] at hb_k2; have hb_k3 := hb_c (w.heap.size) 3 (by omega); simp [go_sem] at hb_k3); (have hb_r0 := hb_c (w.heap.size+1) 0 (by omega); simp [go_sem] at hb_r0; have hb_r1 := hb_c (w.heap.size+1) 1 (by omega); simp [go_sem] at hb_r1; have hb_r2 := hb_c (w.heap.size+1) 2 (by omega); simp [go_sem] at hb_r2; have hb_r3 := hb_c (w.heap.size+1) 3 (by omega); simp [go_sem] at hb_r3))
  refine bodyPost_ret (by simp [results, Try.results63, go_sem, hb_k0, hb_k1, hb_k2, hb_k3, hb_r0, hb_r1, hb_r2, hb_r3]) rfl ⟨rfl, ?_⟩
  (repeat (first | with_reducible exact Below.refl _ _ | with_reducible assumption | ((with_reducible refine Below.setCell ?_ ?hp _); case hp => (first | omega | (simp only [World.size_alloc, World.size_setCell, World.size_drew]; omega) | (simp; done) | (simp; omega))) | ((with_reducible refine Below.alloc ?_ ?hp _); case hp => (first | omega | (simp only [World.size_alloc, World.size_setCell, World.size_drew]; omega) | (simp; done) | (simp; omega))) | with_reducible refine Below.drew ?_ | with_reducible refine below_drewN ?_ _))

set_option maxHeartbeats 400000 in
theorem rbare_4 (x : Insn) (hc : x.code < 65536) (hf : form x.code = 4) (w : World) :
    Calls Try.prog 63 #[(Value.agg #[.int .u16 x.code, .int .u8 x.jt, .int .u8 x.jf, .int .u32 x.k])] w fun e w' => e = .returned (.agg #[.int .u16 x.code, .int .u8 0, .int .u8 0, .int .u32 x.k]) ∧ Below w.heap.size w w' := by
  have HF := Lib.hid hf
  clear hf
  go_enter Try.func63, Try.ntmps63
  go_wp2_with (go_at_call 97; refine (rform_any x.code hc _).mono ?_; rw [HF.out]; rintro e w' ⟨rfl, hb⟩; (obtain ⟨hb_c, hb_f⟩ := bcell hb; have hb_z := (hb).size; have hb_0 : Below w.heap.size w _ := Below.trans (by (repeat (first | with_reducible exact Below.refl _ _ | with_reducible assumption | ((with_reducible refine Below.setCell ?_ ?hp _); case hp => (first | omega | (simp only [World.size_alloc, World.size_setCell, World.size_drew]; omega) | (simp; done) | (simp; omega))) | ((with_reducible refine Below.alloc ?_ ?hp _); case hp => (first | omega | (simp only [World.size_alloc, World.size_setCell, World.size_drew]; omega) | (simp; done) | (simp; omega))) | with_reducible refine Below.drew ?_ | with_reducible refine below_drewN ?_ _))) ((hb).mono (by (first | omega | (simp only [World.size_alloc, World.size_setCell, World.size_drew]; omega) | (simp; done) | (simp; omega)))); (try simp only [World.size_alloc, World.size_setCell, World.size_drew] at hb_z hb_c hb_f); clear hb); (have hb_k0 := hb_c (w.heap.size) 0 (by omega); simp [go_sem] at hb_k0; have hb_k1 := hb_c (w.heap.size) 1 (by omega); simp [go_sem] at hb_k1; have hb_k2 := hb_c (w.heap.size) 2 (by omega); simp [go_sem] at hb_k2; have hb_k3 := hb_c (w.heap.size) 3 (by omega); simp [go_sem] at hb_k3); (have hb_r0 := hb_c (w.heap.size+1) 0 (by omega); simp [go_sem] at hb_r0; have hb_r1 := hb_c (w.heap.size+1) 1 (by omega); simp [go_sem] at hb_r1; have hb_r2 := hb_c (w.heap.size+1) 2 (by omega); simp [go_sem] at hb_r2; have hb_r3 := hb_c (w.heap.size+1) 3 (by omega); simp [go_sem] at hb_r3))
  refine bodyPost_ret (by simp [results, Try.results63, go_sem, hb_k0, hb_k1, hb_k2, hb_k3, hb_r0, hb_r1, hb_r2, hb_r3]) rfl ⟨rfl, ?_⟩
  (repeat (first | with_reducible exact Below.refl _ _ | with_reducible assumption | ((with_reducible refine Below.setCell ?_ ?hp _); case hp => (first | omega | (simp only [World.size_alloc, World.size_setCell, World.size_drew]; omega) | (simp; done) | (simp; omega))) | ((with_reducible refine Below.alloc ?_ ?hp _); case hp => (first | omega | (simp only [World.size_alloc, World.size_setCell, World.size_drew]; omega) | (simp; done) | (simp; omega))) | with_reducible refine Below.drew ?_ | with_reducible refine below_drewN ?_ _))

set_option maxHeartbeats 400000 in
theorem rbare_5 (x : Insn) (hc : x.code < 65536) (hf : form x.code = 5) (w : World) :
    Calls Try.prog 63 #[(Value.agg #[.int .u16 x.code, .int .u8 x.jt, .int .u8 x.jf, .int .u32 x.k])] w fun e w' => e = .returned (.agg #[.int .u16 x.code, .int .u8 x.jt, .int .u8 x.jf, .int .u32 x.k]) ∧ Below w.heap.size w w' := by
  have HF := Lib.hid hf
  clear hf
  go_enter Try.func63, Try.ntmps63
  go_wp2_with (go_at_call 97; refine (rform_any x.code hc _).mono ?_; rw [HF.out]; rintro e w' ⟨rfl, hb⟩; (obtain ⟨hb_c, hb_f⟩ := bcell hb; have hb_z := (hb).size; have hb_0 : Below w.heap.size w _ := Below.trans (by (repeat (first | with_reducible exact Below.refl _ _ | with_reducible assumption | ((with_reducible refine Below.setCell ?_ ?hp _); case hp => (first | omega | (simp only [World.size_alloc, World.size_setCell, World.size_drew]; omega) | (simp; done) | (simp; omega))) | ((with_reducible refine Below.alloc ?_ ?hp _); case hp => (first | omega | (simp only [World.size_alloc, World.size_setCell, World.size_drew]; omega) | (simp; done) | (simp; omega))) | with_reducible refine Below.drew ?_ | with_reducible refine below_drewN ?_ _))) ((hb).mono (by (first | omega | (simp only [World.size_alloc, World.size_setCell, World.size_drew]; omega) | (simp; done) | (simp; omega)))); (try simp only [World.size_alloc, World.size_setCell, World.size_drew] at hb_z hb_c hb_f); clear hb); (have hb_k0 := hb_c (w.heap.size) 0 (by omega); simp [go_sem] at hb_k0; have hb_k1 := hb_c (w.heap.size) 1 (by omega); simp [go_sem] at hb_k1; have hb_k2 := hb_c (w.heap.size) 2 (by omega); simp [go_sem] at hb_k2; have hb_k3 := hb_c (w.heap.size) 3 (by omega); simp [go_sem] at hb_k3); (have hb_r0 := hb_c (w.heap.size+1) 0 (by omega); simp [go_sem] at hb_r0; have hb_r1 := hb_c (w.heap.size+1) 1 (by omega); simp [go_sem] at hb_r1; have hb_r2 := hb_c (w.heap.size+1) 2 (by omega); simp [go_sem] at hb_r2; have hb_r3 := hb_c (w.heap.size+1) 3 (by omega); simp [go_sem] at hb_r3))
  refine bodyPost_ret (by simp [results, Try.results63, go_sem, hb_k0, hb_k1, hb_k2, hb_k3, hb_r0, hb_r1, hb_r2, hb_r3]) rfl ⟨rfl, ?_⟩
  (repeat (first | with_reducible exact Below.refl _ _ | with_reducible assumption | ((with_reducible refine Below.setCell ?_ ?hp _); case hp => (first | omega | (simp only [World.size_alloc, World.size_setCell, World.size_drew]; omega) | (simp; done) | (simp; omega))) | ((with_reducible refine Below.alloc ?_ ?hp _); case hp => (first | omega | (simp only [World.size_alloc, World.size_setCell, World.size_drew]; omega) | (simp; done) | (simp; omega))) | with_reducible refine Below.drew ?_ | with_reducible refine below_drewN ?_ _))

set_option maxHeartbeats 400000 in
theorem rbare_6 (x : Insn) (hc : x.code < 65536) (hf : form x.code = 6) (w : World) :
    Calls Try.prog 63 #[(Value.agg #[.int .u16 x.code, .int .u8 x.jt, .int .u8 x.jf, .int .u32 x.k])] w fun e w' => e = .returned (.agg #[.int .u16 x.code, .int .u8 x.jt, .int .u8 x.jf, .int .u32 0]) ∧ Below w.heap.size w w' := by
  have HF := Lib.hid hf
  clear hf
  go_enter Try.func63, Try.ntmps63
  go_wp2_with (go_at_call 97; refine (rform_any x.code hc _).mono ?_; rw [HF.out]; rintro e w' ⟨rfl, hb⟩; (obtain ⟨hb_c, hb_f⟩ := bcell hb; have hb_z := (hb).size; have hb_0 : Below w.heap.size w _ := Below.trans (by (repeat (first | with_reducible exact Below.refl _ _ | with_reducible assumption | ((with_reducible refine Below.setCell ?_ ?hp _); case hp => (first | omega | (simp only [World.size_alloc, World.size_setCell, World.size_drew]; omega) | (simp; done) | (simp; omega))) | ((with_reducible refine Below.alloc ?_ ?hp _); case hp => (first | omega | (simp only [World.size_alloc, World.size_setCell, World.size_drew]; omega) | (simp; done) | (simp; omega))) | with_reducible refine Below.drew ?_ | with_reducible refine below_drewN ?_ _))) ((hb).mono (by (first | omega | (simp only [World.size_alloc, World.size_setCell, World.size_drew]; omega) | (simp; done) | (simp; omega)))); (try simp only [World.size_alloc, World.size_setCell, World.size_drew] at hb_z hb_c hb_f); clear hb); (have hb_k0 := hb_c (w.heap.size) 0 (by omega); simp [go_sem] at hb_k0; have hb_k1 := hb_c (w.heap.size) 1 (by omega); simp [go_sem] at hb_k1; have hb_k2 := hb_c (w.heap.size) 2 (by omega); simp [go_sem] at hb_k2; have hb_k3 := hb_c (w.heap.size) 3 (by omega); simp [go_sem] at hb_k3); (have hb_r0 := hb_c (w.heap.size+1) 0 (by omega); simp [go_sem] at hb_r0; have hb_r1 := hb_c (w.heap.size+1) 1 (by omega); simp [go_sem] at hb_r1; have hb_r2 := hb_c (w.heap.size+1) 2 (by omega); simp [go_sem] at hb_r2; have hb_r3 := hb_c (w.heap.size+1) 3 (by omega); simp [go_sem] at hb_r3))
  refine bodyPost_ret (by simp [results, Try.results63, go_sem, hb_k0, hb_k1, hb_k2, hb_k3, hb_r0, hb_r1, hb_r2, hb_r3]) rfl ⟨rfl, ?_⟩
  (repeat (first | with_reducible exact Below.refl _ _ | with_reducible assumption | ((with_reducible refine Below.setCell ?_ ?hp _); case hp => (first | omega | (simp only [World.size_alloc, World.size_setCell, World.size_drew]; omega) | (simp; done) | (simp; omega))) | ((with_reducible refine Below.alloc ?_ ?hp _); case hp => (first | omega | (simp only [World.size_alloc, World.size_setCell, World.size_drew]; omega) | (simp; done) | (simp; omega))) | with_reducible refine Below.drew ?_ | with_reducible refine below_drewN ?_ _))

theorem rbare_any (x : Insn) (hx : x.Ok) (w : World) :
    Calls Try.prog 63 #[(Value.agg #[.int .u16 x.code, .int .u8 x.jt, .int .u8 x.jf, .int .u32 x.k])] w fun e w' => e = .returned (Value.agg #[.int .u16 (bare x).code, .int .u8 (bare x).jt, .int .u8 (bare x).jf, .int .u32 (bare x).k]) ∧ Below w.heap.size w w' := by
  have hc := hx.code
  rcases form_vals x.code with hf | hf | hf | hf | hf | hf | hf | hf
  · have e : bare x = ⟨x.code, x.jt, x.jf, x.k⟩ := by unfold bare; rw [hf]; rfl
    rw [e]; exact rbare_m1 x hc hf w
  · have e : bare x = ⟨x.code, 0, 0, 0⟩ := by unfold bare; rw [hf]; rfl
    rw [e]; exact rbare_0 x hc hf w
  · have e : bare x = ⟨x.code, 0, 0, x.k⟩ := by unfold bare; rw [hf]; rfl
    rw [e]; exact rbare_1 x hc hf w
  · have e : bare x = ⟨x.code, 0, 0, x.k⟩ := by unfold bare; rw [hf]; rfl
    rw [e]; exact rbare_2 x hc hf w
  · have e : bare x = ⟨x.code, 0, 0, x.k⟩ := by unfold bare; rw [hf]; rfl
    rw [e]; exact rbare_3 x hc hf w
  · have e : bare x = ⟨x.code, 0, 0, x.k⟩ := by unfold bare; rw [hf]; rfl
    rw [e]; exact rbare_4 x hc hf w
  · have e : bare x = ⟨x.code, x.jt, x.jf, x.k⟩ := by unfold bare; rw [hf]; rfl
    rw [e]; exact rbare_5 x hc hf w
  · have e : bare x = ⟨x.code, x.jt, x.jf, 0⟩ := by unfold bare; rw [hf]; rfl
    rw [e]; exact rbare_6 x hc hf w

set_option maxHeartbeats 400000 in
theorem rahead_any (sg c n i : Nat) (f : Nat → Bool) (w : World) (hn : n ≤ 1000) (hi : i ≤ n) (hs : ∀ j, j < n → w.cell? ⟨sg, j, none⟩ = some (.bool (f j))) :
    Calls Try.prog 99 #[.slice (some ⟨sg, 0, none⟩) n c, .int .i64 i] w fun e w' => e = .returned (.int .i64 (ahead f i : Int)) ∧ w = w' := by
  have HS := Lib.hid hs
  clear hs
  go_enter Try.func99, Try.ntmps99
  go_wp2
  go_loop [5, 8] (fun a k => ∃ q : Nat, q ≤ i ∧ k = .int .i64 q ∧ a = .int .i64 (ahead f q : Int)) (fun _ k => i - (intOf k).toNat)
  case atStart => exact ⟨0, by omega, rfl, rfl⟩
  case round =>
    obtain ⟨q, hq, rfl, rfl⟩ := hrel
    have hal := ahead_le f q
    by_cases hlt : q < i
    · have hc := HS.out q (by omega)
      have HA := Lib.hid (aheadS f q)
      have i1 : (0 : Int) ≤ (q : Int) := by omega
      have i2 : (q : Int) < (n : Int) := by omega
      generalize ahead f q = p at *
      cases hf : f q
      all_goals
        rw [hf] at hc HA
        clear hf
        go_wp2
        go_round
        case rel => exact ⟨q + 1, by omega, by go_num, by rw [HA.out]; first | rfl | go_num⟩
        case measure => simp [intOf]; omega
    · obtain rfl : q = i := by omega
      go_wp2
      go_ret
      exact ⟨rfl, rfl⟩
end Go.Proofs.Ytfjbanfibmpalaa

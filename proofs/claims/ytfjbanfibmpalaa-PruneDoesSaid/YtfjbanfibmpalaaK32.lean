/- Contracts: prune.once, .rounds, .with, .Once, .Prune, .Pruned, .Same. -/
import Derived.Test.YtfjbanfibmpalaaK31
import Derived.Deep.LoopGhost
set_option linter.unusedVariables false
set_option linter.unusedSimpArgs false
namespace Go.Proofs.Ytfjbanfibmpalaa
open Go.RowKit Go.Shelf
attribute [local go_sem ↓] Go.wp_at_zero Go.wp_at_succ

/-- A row of one's own of a good program reads as it. -/
theorem Good.rdp {l : List Insn} (hg : Good l) {w : World} {base : Nat} {R : Option Addr} {c : Nat} (h : EI.Own 36 w base R c l) : RdP w R l :=
  RdP.of_enc h.rd (by have := hg.len; omega) hg.ok

theorem give_own {l : List Insn} (hg : Good l) {w w' : World} {R : Option Addr} {c : Nat} (h : EI.Own 36 w' w.heap.size R c (giveL l)) : RdP w' R (giveL l) := (give_good hg).rdp h

set_option maxRecDepth 100000 in
set_option maxHeartbeats 1000000 in
theorem once_any (A : Option Addr) (cap : Nat) (l : List Insn) (w : World) (hl : RdP w A l) (hg : Good l) :
    Calls Try.prog 55 #[.slice A l.length cap] w fun e w' => ∃ R c, e = .returned (.slice R (onceL l).length c) ∧ EI.Own 36 w' w.heap.size R c (onceL l) ∧ Below w.heap.size w w' := by
  have g1 := give_good hg
  have g2 := lead_good g1
  have g3 := level_good g2
  have n1 := giveL_len l
  have n2 := leadL_len (giveL l)
  have n3 := levelL_len (leadL (giveL l))
  have HG := Lib.hid hg
  have HL := Lib.hid hl
  have HG1 := Lib.hid g1
  have HG2 := Lib.hid g2
  have HG3 := Lib.hid g3
  have C1 := Lib.hid (give_any A cap l w hl hg)
  have C2 := Lib.hid (fun R c W (h : RdP W R (giveL l)) => lead_any R c (giveL l) W h g1)
  have C3 := Lib.hid (fun R c W (h : RdP W R (leadL (giveL l))) => level_any R c (leadL (giveL l)) W h g2)
  have C4 := Lib.hid (fun R c W (h : RdP W R (levelL (leadL (giveL l)))) => leave_any R c (levelL (leadL (giveL l))) W h g3)
  rw [n1] at C2
  rw [n2, n1] at C3
  rw [n3, n2, n1] at C4
  have HO := Lib.hid (show onceL l = leaveL (levelL (leadL (giveL l))) from rfl)
  clear hg hl g1 g2 g3 n1 n2 n3
  have f0 : ∀ w, (Instr.index 148 (.agg #[.func (.func 92) #[] #[], .func (.func 93) #[] #[], .func (.func 94) #[] #[], .func (.func 95) #[] #[]]) (.int .i64 0)).run Try.prog w = .ok (.func (.func 92) #[] #[]) w := fun _ => by kernel_rfl
  have f1 : ∀ w, (Instr.index 148 (.agg #[.func (.func 92) #[] #[], .func (.func 93) #[] #[], .func (.func 94) #[] #[], .func (.func 95) #[] #[]]) (.int .i64 1)).run Try.prog w = .ok (.func (.func 93) #[] #[]) w := fun _ => by kernel_rfl
  have f2 : ∀ w, (Instr.index 148 (.agg #[.func (.func 92) #[] #[], .func (.func 93) #[] #[], .func (.func 94) #[] #[], .func (.func 95) #[] #[]]) (.int .i64 2)).run Try.prog w = .ok (.func (.func 94) #[] #[]) w := fun _ => by kernel_rfl
  have f3 : ∀ w, (Instr.index 148 (.agg #[.func (.func 92) #[] #[], .func (.func 93) #[] #[], .func (.func 94) #[] #[], .func (.func 95) #[] #[]]) (.int .i64 3)).run Try.prog w = .ok (.func (.func 95) #[] #[]) w := fun _ => by kernel_rfl
  go_enter Try.func55, Try.ntmps55
  go_wp2
  refine wp_loop_rounds 5 ?_
  rw [rounds_succ]
  go_wp2_with (go_at_call 92; refine C1.out.mono ?_; rintro e w1 ⟨R1, c1, rfl, ho, hb1⟩; have HO1 := Lib.hid ho; have HB1 := Lib.hid hb1; clear ho hb1)
  rw [rounds_succ]
  go_wp2_with (go_at_call 93; refine (C2.out R1 c1 w1 (HG1.out.rdp HO1.out)).mono ?_; rintro e w2 ⟨R2, c2, rfl, ho, hb2⟩; have HO2 := Lib.hid ho; have HB2 := Lib.hid (HB1.out.trans (hb2.mono HB1.out.size)); clear ho hb2)
  rw [rounds_succ]
  go_wp2_with (go_at_call 94; refine (C3.out R2 c2 w2 (HG2.out.rdp HO2.out)).mono ?_; rintro e w3 ⟨R3, c3, rfl, ho, hb3⟩; have HO3 := Lib.hid ho; have HB3 := Lib.hid (HB2.out.trans (hb3.mono HB2.out.size)); clear ho hb3)
  rw [rounds_succ]
  go_wp2_with (go_at_call 95; refine (C4.out R3 c3 w3 (HG3.out.rdp HO3.out)).mono ?_; rintro e w4 ⟨R4, c4, rfl, ho, hb4⟩; have HO4 := Lib.hid (ho.mono HB3.out.size); have HB4 := Lib.hid (HB3.out.trans (hb4.mono HB3.out.size)); clear ho hb4)
  rw [rounds_succ]
  go_wp2
  go_ret
  rw [HO.out]
  exact ⟨R4, c4, rfl, HO4.out, HB4.out⟩

set_option maxRecDepth 100000 in
set_option maxHeartbeats 1000000 in
theorem rounds_any (A : Option Addr) (cap : Nat) (l : List Insn) (w : World) (hl : RdP w A l) (hg : Good l) :
    Calls Try.prog 56 #[.slice A l.length cap] w fun e w' => ∃ R c, e = .returned (.slice R (pruneL l).length c) ∧ EI.Own 36 w' w.heap.size R c (pruneL l) ∧ Below w.heap.size w w' := by
  have HG := Lib.hid hg
  have HL := Lib.hid hl
  clear hg hl
  go_enter Try.func56, Try.ntmps56
  go_wp2
  go_loopg [0] (meas l) (fun k p wr => ∃ (lk : List Insn) (R : Option Addr) (c : Nat), p = .slice R lk.length c ∧ RdP wr R lk ∧ Good lk ∧ meas lk ≤ k ∧ pruneL lk = pruneL l ∧ Below w.heap.size w wr)
  case atStart => exact ⟨l, A, cap, rfl, HL.out, HG.out, Nat.le_refl _, rfl, Below.refl _ _⟩
  case round =>
    obtain ⟨lk, R, c, rfl, hlk, hgk, hmk, hpk, hb⟩ := hrel
    have HGK := Lib.hid hgk
    have HLK := Lib.hid hlk
    have HMK := Lib.hid hmk
    have HPK := Lib.hid hpk
    have HB := Lib.hid hb
    have g1 := once_good hgk
    have HG1 := Lib.hid g1
    have HC := Lib.hid (once_any R c lk wr hlk hgk)
    clear hgk hlk hmk hpk hb g1
    by_cases hfix : onceL lk = lk
    · have e1 : decide (onceL lk = lk) = true := by simpa using hfix
      have HE := Lib.hid e1
      have HF := Lib.hid hfix
      clear e1 hfix
      go_wp2_with (first
        | (go_at_call 55; refine HC.out.mono ?_; rintro e w1 ⟨R1, c1, rfl, ho, hb1⟩; have HO1 := Lib.hid ho; have HB1 := Lib.hid hb1; clear ho hb1)
        | (go_at_call 96; refine (equalp_any R1 R c1 c (onceL lk) lk w1 (HG1.out.rdp HO1.out) (HLK.out.below HB1.out (Nat.le_refl _))).mono ?_; rw [HE.out]; rintro e w2 ⟨rfl, hb2⟩; have HO2 := Lib.hid ((HO1.out.below hb2 (Nat.le_refl _)).mono HB.out.size); have HB2 := Lib.hid (HB.out.trans ((HB1.out.trans (hb2.mono HB1.out.size)).mono HB.out.size)); clear hb2))
      go_ret
      have hp : pruneL l = onceL lk := by rw [← HPK.out, prune_fixed HF.out, HF.out]
      rw [hp]
      exact ⟨R1, c1, rfl, HO2.out, HB2.out⟩
    · have e1 : decide (onceL lk = lk) = false := by simpa using hfix
      have HE := Lib.hid e1
      have HF := Lib.hid hfix
      clear e1 hfix
      go_wp2_with (first
        | (go_at_call 55; refine HC.out.mono ?_; rintro e w1 ⟨R1, c1, rfl, ho, hb1⟩; have HO1 := Lib.hid ho; have HB1 := Lib.hid hb1; clear ho hb1)
        | (go_at_call 96; refine (equalp_any R1 R c1 c (onceL lk) lk w1 (HG1.out.rdp HO1.out) (HLK.out.below HB1.out (Nat.le_refl _))).mono ?_; rw [HE.out]; rintro e w2 ⟨rfl, hb2⟩; have HO2 := Lib.hid (HO1.out.below hb2 (Nat.le_refl _)); have HB2 := Lib.hid (HB.out.trans ((HB1.out.trans (hb2.mono HB1.out.size)).mono HB.out.size)); clear hb2))
      have hm := meas_lt HGK.out HF.out
      go_roundg (meas (onceL lk))
      case measure => have := HMK.out; omega
      case rel => exact ⟨onceL lk, R1, c1, rfl, HG1.out.rdp HO2.out, HG1.out, Nat.le_refl _, by rw [prune_once HGK.out, HPK.out], HB2.out⟩
end Go.Proofs.Ytfjbanfibmpalaa

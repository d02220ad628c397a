/- The walk of the law PruneSame. -/
import Derived.Test.YtfjbanfibmpalaaK41
import Derived.Test.YtfjbanfibmpalaaRC
set_option linter.unusedVariables false
set_option linter.unusedSimpArgs false
namespace Go.Proofs.Ytfjbanfibmpalaa
open Go.RowKit Go.Shelf
attribute [local go_sem ↓] Go.wp_at_zero Go.wp_at_succ

theorem take_rdp {w w' : World} {base : Nat} {A R : Option Addr} {c : Nat} {l : List Insn} (h : RdP w A l) (ho : EI.Own 36 w' base R c (l.take 65)) : RdP w' R (l.take 65) :=
  RdP.of_enc ho.rd (by rw [List.length_take]; omega) (fun x hx => h.ok x (List.mem_of_mem_take hx))
theorem few_in (A : Option Addr) (c : Nat) (l : List Insn) (w : World) (h : In w A c l) :
    Calls Try.prog 18 #[.slice A l.length c] w fun e w' => ∃ A' c', e = .returned (.slice A' (l.take 65).length c') ∧ EI.Own 36 w' w.heap.size A' c' (l.take 65) ∧ Below w.heap.size w w' :=
  few_any A c l w h.rd.enc h.rd.small h.cap h.cap2

set_option maxRecDepth 100000 in
set_option maxHeartbeats 1000000 in
theorem psame_bad1 (A B : Option Addr) (ca cb : Nat) (a b : List Insn) (w : World) (ha : In w A ca a) (hb : In w B cb b) (hc : (check (a.take 65)).2 ≠ 0) :
    Calls Try.prog 4 #[.slice A a.length ca, .slice B b.length cb] w fun e w' => e = .returned (.bool true) ∧ Below w.heap.size w w' := by
  have HA := Lib.hid ha
  have HB := Lib.hid hb
  have HFA := Lib.hid (fun W (h : In W A ca a) => few_in A ca a W h)
  have HFB := Lib.hid (fun W (h : In W B cb b) => few_in B cb b W h)
  have HTA := Lib.hid (fun w' base R c (h : EI.Own 36 w' base R c (a.take 65)) => take_rdp ha.rd h)
  have HTB := Lib.hid (fun w' base R c (h : EI.Own 36 w' base R c (b.take 65)) => take_rdp hb.rd h)
  generalize a.take 65 = x at *
  generalize b.take 65 = y at *
  have e1 : ((check x).2 == 0) = false := by simpa using hc
  have e2 : ((check x).2 != 0) = true := by simpa using hc
  have HC := Lib.hid hc
  clear hc ha hb
  have tok : True := trivial
  go_enter Try.func4, Try.ntmps4
  go_wp2_with (first
    | (go_at_call 17; refine (wakes22_any w).mono ?_; rintro e w1 ⟨rfl, hb⟩; have H1 := Lib.hid hb; clear hb)
    | (go_at_call 18; have _t := tok; refine (HFA.out w1 (HA.out.later H1.out)).mono ?_; rintro e w2 ⟨R, c, rfl, ho, hb⟩; have HX2 := Lib.hid (HTA.out _ _ _ _ ho); have H2 := Lib.hid (H1.out.trans (hb.mono H1.out.size)); clear ho hb tok)
    | (go_at_call 18; refine (HFB.out w2 (HB.out.later H2.out)).mono ?_; rintro e w3 ⟨S, d, rfl, ho, hb⟩; have HX3 := Lib.hid (HX2.out.below hb (Nat.le_refl _)); have HY3 := Lib.hid (HTB.out _ _ _ _ ho); have H3 := Lib.hid (H2.out.trans (hb.mono H2.out.size)); have tok2 : True := trivial; clear ho hb)
    | (go_at_call 26; refine (same_bad1 R S c d x y w3 HX3.out HC.out).mono ?_; rintro e w4 ⟨rfl, hb⟩; have HX4 := Lib.hid (HX3.out.below hb (Nat.le_refl _)); have H4 := Lib.hid (H3.out.trans (hb.mono H3.out.size)); clear hb)
    | (go_at_call 21; refine (rcheck_any R c x w4 HX4.out).mono ?_; rintro e w5 ⟨rfl, hb⟩; have H5 := Lib.hid (H4.out.trans (hb.mono H4.out.size)); clear hb))
  go_ret
  exact ⟨by simp, H5.out⟩

set_option maxRecDepth 100000 in
set_option maxHeartbeats 1000000 in
theorem psame_bad2 (A B : Option Addr) (ca cb : Nat) (a b : List Insn) (w : World) (ha : In w A ca a) (hb : In w B cb b) (hg : Good (a.take 65)) (hc : (check (b.take 65)).2 ≠ 0) :
    Calls Try.prog 4 #[.slice A a.length ca, .slice B b.length cb] w fun e w' => e = .returned (.bool true) ∧ Below w.heap.size w w' := by
  have HA := Lib.hid ha
  have HB := Lib.hid hb
  have HFA := Lib.hid (fun W (h : In W A ca a) => few_in A ca a W h)
  have HFB := Lib.hid (fun W (h : In W B cb b) => few_in B cb b W h)
  have HTA := Lib.hid (fun w' base R c (h : EI.Own 36 w' base R c (a.take 65)) => take_rdp ha.rd h)
  have HTB := Lib.hid (fun w' base R c (h : EI.Own 36 w' base R c (b.take 65)) => take_rdp hb.rd h)
  generalize a.take 65 = x at *
  generalize b.take 65 = y at *
  have e1 : ((check y).2 == 0) = false := by simpa using hc
  have e2 : ((check y).2 != 0) = true := by simpa using hc
  have HC := Lib.hid hc
  have HG := Lib.hid hg
  have HGC := Lib.hid hg.checked
  clear hc ha hb hg
  have tok : True := trivial
  go_enter Try.func4, Try.ntmps4
  go_wp2_with (first
    | (go_at_call 17; refine (wakes22_any w).mono ?_; rintro e w1 ⟨rfl, hb⟩; have H1 := Lib.hid hb; clear hb)
    | (go_at_call 18; have _t := tok; refine (HFA.out w1 (HA.out.later H1.out)).mono ?_; rintro e w2 ⟨R, c, rfl, ho, hb⟩; have HX2 := Lib.hid (HTA.out _ _ _ _ ho); have H2 := Lib.hid (H1.out.trans (hb.mono H1.out.size)); clear ho hb tok)
    | (go_at_call 18; refine (HFB.out w2 (HB.out.later H2.out)).mono ?_; rintro e w3 ⟨S, d, rfl, ho, hb⟩; have HX3 := Lib.hid (HX2.out.below hb (Nat.le_refl _)); have HY3 := Lib.hid (HTB.out _ _ _ _ ho); have H3 := Lib.hid (H2.out.trans (hb.mono H2.out.size)); have tok2 : True := trivial; clear ho hb)
    | (go_at_call 26; refine (same_bad2 R S c d x y w3 HX3.out HY3.out HG.out HC.out).mono ?_; rintro e w4 ⟨rfl, hb⟩; have HX4 := Lib.hid (HX3.out.below hb (Nat.le_refl _)); have HY4 := Lib.hid (HY3.out.below hb (Nat.le_refl _)); have H4 := Lib.hid (H3.out.trans (hb.mono H3.out.size)); clear hb)
    | (go_at_call 21; have _t := tok2; refine (rcheck_any R c x w4 HX4.out).mono ?_; rw [HGC.out]; rintro e w5 ⟨rfl, hb⟩; have HY5 := Lib.hid (HY4.out.below hb (Nat.le_refl _)); have H5 := Lib.hid (H4.out.trans (hb.mono H4.out.size)); clear hb tok2)
    | (go_at_call 21; refine (rcheck_any S d y w5 HY5.out).mono ?_; rintro e w6 ⟨rfl, hb⟩; have H6 := Lib.hid (H5.out.trans (hb.mono H5.out.size)); clear hb))
  go_ret
  exact ⟨by simp, H6.out⟩

set_option maxRecDepth 100000 in
set_option maxHeartbeats 1000000 in
theorem psame_good (A B : Option Addr) (ca cb : Nat) (a b : List Insn) (w : World) (ha : In w A ca a) (hb : In w B cb b) (hg : Good (a.take 65)) (hh : Good (b.take 65)) :
    Calls Try.prog 4 #[.slice A a.length ca, .slice B b.length cb] w fun e w' => e = .returned (.bool true) ∧ Below w.heap.size w w' := by
  have HA := Lib.hid ha
  have HB := Lib.hid hb
  have HFA := Lib.hid (fun W (h : In W A ca a) => few_in A ca a W h)
  have HFB := Lib.hid (fun W (h : In W B cb b) => few_in B cb b W h)
  have HTA := Lib.hid (fun w' base R c (h : EI.Own 36 w' base R c (a.take 65)) => take_rdp ha.rd h)
  have HTB := Lib.hid (fun w' base R c (h : EI.Own 36 w' base R c (b.take 65)) => take_rdp hb.rd h)
  generalize a.take 65 = x at *
  generalize b.take 65 = y at *
  have HG := Lib.hid hg
  have HGC := Lib.hid hg.checked
  have HH := Lib.hid hh
  have HHC := Lib.hid hh.checked
  have HPX := Lib.hid (prune_facts hg).1
  have HPY := Lib.hid (prune_facts hh).1
  generalize hd : decide (pruneL x = pruneL y) = dd
  have HD := Lib.hid hd
  clear ha hb hg hh hd
  cases dd
  all_goals
    have tok : True := trivial
    go_enter Try.func4, Try.ntmps4
    go_wp2_with (first
      | (go_at_call 17; refine (wakes22_any w).mono ?_; rintro e w1 ⟨rfl, hb⟩; have H1 := Lib.hid hb; clear hb)
      | (go_at_call 18; have _t := tok; refine (HFA.out w1 (HA.out.later H1.out)).mono ?_; rintro e w2 ⟨R, c, rfl, ho, hb⟩; have HX2 := Lib.hid (HTA.out _ _ _ _ ho); have H2 := Lib.hid (H1.out.trans (hb.mono H1.out.size)); clear ho hb tok)
      | (go_at_call 18; refine (HFB.out w2 (HB.out.later H2.out)).mono ?_; rintro e w3 ⟨S, d, rfl, ho, hb⟩; have HX3 := Lib.hid (HX2.out.below hb (Nat.le_refl _)); have HY3 := Lib.hid (HTB.out _ _ _ _ ho); have H3 := Lib.hid (H2.out.trans (hb.mono H2.out.size)); have tok2 : True := trivial; clear ho hb)
      | (go_at_call 26; refine (same_good R S c d x y w3 HX3.out HY3.out HG.out HH.out).mono ?_; rw [HD.out]; rintro e w4 ⟨rfl, hb⟩; have HX4 := Lib.hid (HX3.out.below hb (Nat.le_refl _)); have HY4 := Lib.hid (HY3.out.below hb (Nat.le_refl _)); have H4 := Lib.hid (H3.out.trans (hb.mono H3.out.size)); clear hb)
      | (go_at_call 21; have _t := tok2; refine (rcheck_any R c x w4 HX4.out).mono ?_; rw [HGC.out]; rintro e w5 ⟨rfl, hb⟩; have HX5 := Lib.hid (HX4.out.below hb (Nat.le_refl _)); have HY5 := Lib.hid (HY4.out.below hb (Nat.le_refl _)); have H5 := Lib.hid (H4.out.trans (hb.mono H4.out.size)); clear hb tok2)
      | (go_at_call 21; refine (rcheck_any S d y w5 HY5.out).mono ?_; rw [HHC.out]; rintro e w6 ⟨rfl, hb⟩; have HX6 := Lib.hid (HX5.out.below hb (Nat.le_refl _)); have HY6 := Lib.hid (HY5.out.below hb (Nat.le_refl _)); have H6 := Lib.hid (H5.out.trans (hb.mono H5.out.size)); have tok3 : True := trivial; clear hb)
      | (go_at_call 25; have _t := tok3; refine (rprune_any R c x w6 HX6.out HG.out).mono ?_; rintro e w7 ⟨R7, c7, rfl, ho, hb⟩; have HPX7 := Lib.hid (HPX.out.rdp ho); have HY7 := Lib.hid (HY6.out.below hb (Nat.le_refl _)); have H7 := Lib.hid (H6.out.trans (hb.mono H6.out.size)); clear ho hb tok3)
      | (go_at_call 25; refine (rprune_any S d y w7 HY7.out HH.out).mono ?_; rintro e w8 ⟨R8, c8, rfl, ho, hb⟩; have HPY8 := Lib.hid (HPY.out.rdp ho); have HPX8 := Lib.hid (HPX7.out.below hb (Nat.le_refl _)); have H8 := Lib.hid (H7.out.trans (hb.mono H7.out.size)); clear ho hb)
      | (go_at_call 22; refine (rsame_any R7 R8 c7 c8 (pruneL x) (pruneL y) w8 HPX8.out HPY8.out).mono ?_; rw [HD.out]; rintro e w9 ⟨rfl, hb⟩; have H9 := Lib.hid (H8.out.trans (hb.mono H8.out.size)); clear hb))
    go_ret
    exact ⟨by simp, H9.out⟩

theorem take_good {w : World} {A : Option Addr} {c : Nat} {l : List Insn} (h : In w A c l) (hc : (check (l.take 65)).2 = 0) : Good (l.take 65) := ⟨fun x hx => h.rd.ok x (List.mem_of_mem_take hx), hc⟩

theorem psame_any (A B : Option Addr) (ca cb : Nat) (a b : List Insn) (w : World) (ha : In w A ca a) (hb : In w B cb b) :
    Calls Try.prog 4 #[.slice A a.length ca, .slice B b.length cb] w fun e w' => e = .returned (.bool true) ∧ Below w.heap.size w w' := by
  by_cases h1 : (check (a.take 65)).2 = 0
  · by_cases h2 : (check (b.take 65)).2 = 0
    · exact psame_good A B ca cb a b w ha hb (take_good ha h1) (take_good hb h2)
    · exact psame_bad2 A B ca cb a b w ha hb (take_good ha h1) h2
  · exact psame_bad1 A B ca cb a b w ha hb h1
end Go.Proofs.Ytfjbanfibmpalaa

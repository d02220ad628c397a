/- Contracts: wicketgateref22.Once, wicketgateref22.Prune. -/
import Derived.Test.YtfjbanfibmpalaaK35
set_option linter.unusedVariables false
set_option linter.unusedSimpArgs false
namespace Go.Proofs.Ytfjbanfibmpalaa
open Go.RowKit Go.Shelf
attribute [local go_sem ↓] Go.wp_at_zero Go.wp_at_succ

theorem fourth_ok {l : List Insn} (h : Good l) : ∀ x ∈ fourthL l, x.Ok := by
  intro x hx
  unfold fourthL fourthTo at hx
  obtain ⟨i, hi, rfl⟩ := List.mem_map.1 hx
  exact moved_ok h (List.mem_range.1 (List.mem_filter.1 hi).1)
theorem map_bare (f : List Insn) : (List.range f.length).map (fun i => bare (ins f i)) = f.map bare := by
  refine List.ext_getElem (by simp) ?_
  intro i h1 h2
  have hi : i < f.length := by simpa using h1
  simp [ins, hi]

set_option maxRecDepth 100000 in
set_option maxHeartbeats 1000000 in
theorem ronce_any (A : Option Addr) (cap : Nat) (l : List Insn) (w : World) (hl : RdP w A l) (hg : Good l) :
    Calls Try.prog 24 #[.slice A l.length cap] w fun e w' => ∃ R c, e = .returned (.slice R (onceL l).length c) ∧ EI.Own 36 w' w.heap.size R c (onceL l) ∧ Below w.heap.size w w' := by
  have g1 := give_good hg
  have g2 := lead_good g1
  have g3 := level_good g2
  have n1 := giveL_len l
  have n2 := leadL_len (giveL l)
  have n3 := levelL_len (leadL (giveL l))
  have HG1 := Lib.hid g1
  have HG2 := Lib.hid g2
  have HG3 := Lib.hid g3
  have C1 := Lib.hid (first_any A cap l w hl hg)
  have C2 := Lib.hid (fun R c W (h : RdP W R (giveL l)) => second_any R c (giveL l) W h g1)
  have C3 := Lib.hid (fun R c W (h : RdP W R (leadL (giveL l))) => third_any R c (leadL (giveL l)) W h g2)
  have C4 := Lib.hid (fun R c W (h : RdP W R (levelL (leadL (giveL l)))) => fourth_any R c (levelL (leadL (giveL l))) W h g3)
  rw [n1] at C2
  rw [n2, n1] at C3
  rw [n3, n2, n1] at C4
  have HO := Lib.hid (show onceL l = (fourthL (levelL (leadL (giveL l)))).map bare by rw [fourth_leave]; rfl)
  have hok := fourth_ok g3
  have hfl : (fourthL (levelL (leadL (giveL l)))).length ≤ 64 := by
    have h1 := (leave_good g3).1.len
    rw [← fourth_leave, List.length_map] at h1
    exact h1.2
  clear hg hl g1 g2 g3 n1 n2 n3
  go_enter Try.func24, Try.ntmps24
  have HOK := Lib.hid hok
  clear hok
  generalize hfo : fourthL (levelL (leadL (giveL l))) = fo at *
  have HFO := Lib.hid hfo
  clear hfo
  go_wp2_with (first
    | (go_at_call 62; refine C1.out.mono ?_; rintro e w1 ⟨R1, c1, rfl, ho, hb1⟩; have HO1 := Lib.hid ho; have HB1 := Lib.hid hb1; clear ho hb1)
    | (go_at_call 61; refine (C2.out R1 c1 w1 (HG1.out.rdp HO1.out)).mono ?_; rintro e w2 ⟨R2, c2, rfl, ho, hb2⟩; have HO2 := Lib.hid ho; have HB2 := Lib.hid (HB1.out.trans (hb2.mono HB1.out.size)); clear ho hb2)
    | (go_at_call 60; refine (C3.out R2 c2 w2 (HG2.out.rdp HO2.out)).mono ?_; rintro e w3 ⟨R3, c3, rfl, ho, hb3⟩; have HO3 := Lib.hid ho; have HB3 := Lib.hid (HB2.out.trans (hb3.mono HB2.out.size)); clear ho hb3)
    | (go_at_call 59; refine (C4.out R3 c3 w3 (HG3.out.rdp HO3.out)).mono ?_; rintro e w4 ⟨R4, c4, rfl, ho, hb4⟩; have HO4 := Lib.hid (ho.mono HB3.out.size); have HB4 := Lib.hid (HB3.out.trans (hb4.mono HB3.out.size)); clear ho hb4))
  go_loopw [12] (fun i wr => ∃ k : Nat, k ≤ fo.length ∧ i = .int .i64 k ∧ EI.Own 36 wr w.heap.size R4 c4 (mix (fun i => bare (ins fo i)) fo k) ∧ Below w.heap.size w wr) (fun i _ => fo.length - (intOf i).toNat)
  case atStart => exact ⟨0, Nat.zero_le _, rfl, by rw [mix_zero]; exact HO4.out, HB4.out⟩
  case round =>
    obtain ⟨k, hk, rfl, ho, hb⟩ := hrel
    have hml := mix_len (fun i => bare (ins fo i)) fo k
    by_cases hlt : k < fo.length
    · obtain ⟨g, rfl, hg1, hg2⟩ := ho.form (by intro e; rw [e] at hml; simp at hml; omega)
      have hkm : k < (mix (fun i => bare (ins fo i)) fo k).length := by rw [hml]; exact hlt
      obtain ⟨z0, z1, z2, z3⟩ := own_iat ho k hkm
      obtain ⟨f0, f1, f2, f3⟩ := own_frozen4 ho k
      have HMG := Lib.hid (mix_get (fun i => bare (ins fo i)) fo k hkm)
      rw [HMG.out] at z0 z1 z2 z3
      have hx : (ins fo k).Ok := by rw [at_get fo k hlt]; exact HOK.out _ (List.getElem_mem hlt)
      have HX := Lib.hid hx
      have HOW := Lib.hid ho
      have HB := Lib.hid hb
      clear hx ho hb HO4 HB4 hml
      have i1 : (0 : Int) ≤ (k : Int) := by omega
      have i2 : (k : Int) < (fo.length : Int) := by omega
      generalize hy : ins fo k = y at *
      have HY := Lib.hid hy
      clear hy
      go_wp2_with (go_at_call 63; refine (rbare_any y HX.out wr).mono ?_; rintro e w5 ⟨rfl, hb5⟩; have HB5 := Lib.hid hb5; have HOW5 := Lib.hid (HOW.out.below hb5 (Nat.le_refl _)); obtain ⟨f0', f1', f2', f3'⟩ := own_frozen4 HOW5.out k; obtain ⟨z0', z1', z2', z3'⟩ := (own_iat HOW.out k hkm).keep (fun o => hb5.cell (p := ⟨g, o, none⟩) hg2); rw [HMG.out] at z0' z1' z2' z3'; clear hb5)
      go_roundw
      case rel =>
        refine ⟨k + 1, by omega, by go_num, ?_, by have h1 := HB.out.trans (HB5.out.mono HB.out.size); (repeat (first | with_reducible exact Below.refl _ _ | with_reducible assumption | ((with_reducible refine Below.setCell ?_ ?hp _); case hp => (first | omega | (simp only [World.size_alloc, World.size_setCell, World.size_drew]; omega) | (simp; done) | (simp; omega))) | ((with_reducible refine Below.alloc ?_ ?hp _); case hp => (first | omega | (simp only [World.size_alloc, World.size_setCell, World.size_drew]; omega) | (simp; done) | (simp; omega))) | with_reducible refine Below.drew ?_ | with_reducible refine below_drewN ?_ _))⟩
        rw [← mix_set, HY.out]
        exact own_put HOW5.out k hkm (bare y)
      case measure => simp [intOf]; omega
    · have hk' : k = fo.length := by omega
      subst hk'
      have HOW := Lib.hid ho
      have HB := Lib.hid hb
      clear ho hb HO4 HB4
      go_wp2
      go_ret
      have h := HOW.out
      rw [mix_all, map_bare, ← HO.out] at h
      have e : fo.length = (onceL l).length := by rw [HO.out, List.length_map]
      rw [e]
      exact ⟨R4, c4, rfl, h, HB.out⟩

set_option maxRecDepth 100000 in
set_option maxHeartbeats 1000000 in
theorem rprune_any (A : Option Addr) (cap : Nat) (l : List Insn) (w : World) (hl : RdP w A l) (hg : Good l) :
    Calls Try.prog 25 #[.slice A l.length cap] w fun e w' => ∃ R c, e = .returned (.slice R (pruneL l).length c) ∧ EI.Own 36 w' w.heap.size R c (pruneL l) ∧ Below w.heap.size w w' := by
  have HG := Lib.hid hg
  have HL := Lib.hid hl
  clear hg hl
  go_enter Try.func25, Try.ntmps25
  go_wp2
  go_loopg [0] (meas l) (fun k p wr => ∃ (lk : List Insn) (R : Option Addr) (c : Nat), p = .slice R lk.length c ∧ RdP wr R lk ∧ Good lk ∧ meas lk ≤ k ∧ pruneL lk = pruneL l ∧ Below w.heap.size w wr)
  case atStart => exact ⟨l, A, cap, rfl, HL.out, HG.out, Nat.le_refl _, rfl, Below.refl _ _⟩
  case round =>
    obtain ⟨lk, R, c, rfl, hlk, hgk, hmk, hpk, hb⟩ := hrel
    have HGK := Lib.hid hgk
    have HLK := Lib.hid hlk
    have HMK := Lib.hid hmk
    have HPK := Lib.hid hpk
    have HB := Lib.hid hb
    have g1 := once_good hgk
    have HG1 := Lib.hid g1
    have HC := Lib.hid (ronce_any R c lk wr hlk hgk)
    clear hgk hlk hmk hpk hb g1
    by_cases hfix : lk = onceL lk
    · have e1 : decide (lk = onceL lk) = true := decide_eq_true hfix
      have HE := Lib.hid e1
      have HF := Lib.hid hfix
      clear e1 hfix
      go_wp2_with (first
        | (go_at_call 24; refine HC.out.mono ?_; rintro e w1 ⟨R1, c1, rfl, ho, hb1⟩; have HO1 := Lib.hid ho; have HB1 := Lib.hid hb1; clear ho hb1)
        | (go_at_call 22; refine (rsame_any R R1 c c1 lk (onceL lk) w1 (HLK.out.below HB1.out (Nat.le_refl _)) (HG1.out.rdp HO1.out)).mono ?_; rw [HE.out]; rintro e w2 ⟨rfl, hb2⟩; have HO2 := Lib.hid ((HO1.out.below hb2 (Nat.le_refl _)).mono HB.out.size); have HB2 := Lib.hid (HB.out.trans ((HB1.out.trans (hb2.mono HB1.out.size)).mono HB.out.size)); clear hb2))
      go_ret
      have hp : pruneL l = onceL lk := by rw [← HPK.out, prune_fixed HF.out.symm]; exact HF.out
      rw [hp]
      exact ⟨R1, c1, rfl, HO2.out, HB2.out⟩
    · have e1 : decide (lk = onceL lk) = false := decide_eq_false hfix
      have HE := Lib.hid e1
      have HF := Lib.hid (show onceL lk ≠ lk from fun e => hfix e.symm)
      clear e1 hfix
      go_wp2_with (first
        | (go_at_call 24; refine HC.out.mono ?_; rintro e w1 ⟨R1, c1, rfl, ho, hb1⟩; have HO1 := Lib.hid ho; have HB1 := Lib.hid hb1; clear ho hb1)
        | (go_at_call 22; refine (rsame_any R R1 c c1 lk (onceL lk) w1 (HLK.out.below HB1.out (Nat.le_refl _)) (HG1.out.rdp HO1.out)).mono ?_; rw [HE.out]; rintro e w2 ⟨rfl, hb2⟩; have HO2 := Lib.hid (HO1.out.below hb2 (Nat.le_refl _)); have HB2 := Lib.hid (HB.out.trans ((HB1.out.trans (hb2.mono HB1.out.size)).mono HB.out.size)); clear hb2))
      have hm := meas_lt HGK.out HF.out
      go_roundg (meas (onceL lk))
      case measure => have := HMK.out; omega
      case rel => exact ⟨onceL lk, R1, c1, rfl, HG1.out.rdp HO2.out, HG1.out, Nat.le_refl _, by rw [prune_once HGK.out, HPK.out], HB2.out⟩
end Go.Proofs.Ytfjbanfibmpalaa

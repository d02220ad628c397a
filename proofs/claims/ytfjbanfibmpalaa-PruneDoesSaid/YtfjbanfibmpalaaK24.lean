/- Contracts: (prune.program).level, wicketgateref22.third. -/
import Derived.Test.YtfjbanfibmpalaaK23
set_option linter.unusedVariables false
set_option linter.unusedSimpArgs false
namespace Go.Proofs.Ytfjbanfibmpalaa
open Go.RowKit Go.Shelf

set_option maxRecDepth 100000 in
set_option maxHeartbeats 1000000 in
theorem level_any (A : Option Addr) (cap : Nat) (l : List Insn) (w : World) (hl : RdP w A l) (hg : Good l) :
    Calls Try.prog 94 #[.slice A l.length cap] w fun e w' => ∃ R c, e = .returned (.slice R l.length c) ∧ EI.Own 36 w' w.heap.size R c (levelL l) ∧ Below w.heap.size w w' := by
  have hlen := hg.len
  have HG := Lib.hid hg
  have HL := Lib.hid hl
  obtain ⟨b, o, rfl, hb, _⟩ := hl.cells (i := 0) (by omega)
  clear hg hl
  go_enter Try.func94, Try.ntmps94
  go_wp2_with (go_at_call 134; refine (clonep_any _ cap l w HL.out.enc (by omega)).mono ?_; rintro e w1 ⟨R, c, rfl, ho, hb1⟩; obtain ⟨g, rfl, hg1, hg2⟩ := ho.form (by intro e; rw [e] at hlen; simp at hlen); have HO := Lib.hid ho; have HB1 := Lib.hid hb1; clear ho hb1)
  go_loopw [10] (fun i wr => ∃ k : Nat, k ≤ l.length ∧ i = .int .i64 k ∧ EI.Own 36 wr w.heap.size (some ⟨g, 0, none⟩) c (mix (levelAt l) l k) ∧ Below w.heap.size w wr) (fun i _ => l.length - (intOf i).toNat)
  case atStart => exact ⟨0, by omega, rfl, by rw [mix_zero]; exact HO.out, HB1.out⟩
  case round =>
    obtain ⟨k, hk, rfl, ho, hB⟩ := hrel
    have hgw := ho.lt.2
    have HOW := Lib.hid ho
    have HB := Lib.hid hB
    have HLW := Lib.hid (HL.out.below hB (Nat.le_refl _))
    have hbw : b < wr.heap.size := by have := hB.size; omega
    have hww : w.heap.size ≤ wr.heap.size := hB.size
    clear ho hB HO HB1 hg2
    by_cases hlt : k < l.length
    · obtain ⟨b1, o1, hbo, _, hcy⟩ := HLW.out.cells hlt
      cases hbo
      obtain ⟨y0, y1, y2, y3⟩ := hcy
      have hkm : k < (mix (levelAt l) l k).length := by rw [mix_len]; exact hlt
      have HX := Lib.hid (HG.out.okAt hlt)
      have q1 := HX.out.jt
      have q2 := HX.out.jf
      by_cases ht : isTest (ins l k) = true
      · have HT := Lib.hid ht
        clear ht
        by_cases he : (ins l k).jt = (ins l k).jf
        · have ee : (((ins l k).jt : Int) == ((ins l k).jf : Int)) = true := by rw [beq_iff_eq]; omega
          have HM := Lib.hid (show levelAt l k = ⟨5, 0, 0, (ins l k).jt⟩ by unfold levelAt; rw [HT.out, he]; simp)
          clear he
          obtain ⟨z0, z1, z2, z3⟩ := own_iat HOW.out k hkm
          obtain ⟨f0, f1, f2, f3⟩ := own_frozen4 HOW.out k
          generalize hye : ins l k = y at *
          have HYE := Lib.hid hye
          clear hye
          go_wp2_with (go_at_call 139; refine (tests_at _ cap l k _ (HLW.out.below (B := wr.heap.size) (by (repeat (first | with_reducible exact Below.refl _ _ | with_reducible assumption | ((with_reducible refine Below.setCell ?_ ?hp _); case hp => (first | omega | (simp only [World.size_alloc, World.size_setCell, World.size_drew]; omega) | (simp; done) | (simp; omega))) | ((with_reducible refine Below.alloc ?_ ?hp _); case hp => (first | omega | (simp only [World.size_alloc, World.size_setCell, World.size_drew]; omega) | (simp; done) | (simp; omega))) | with_reducible refine Below.drew ?_ | with_reducible refine below_drewN ?_ _))) (Nat.le_refl _)) hlt).mono ?_; rw [HYE.out, HT.out]; rintro e' w2 ⟨rfl, hb2⟩; have hb3 : Below wr.heap.size wr w2 := Below.trans (by (repeat (first | with_reducible exact Below.refl _ _ | with_reducible assumption | ((with_reducible refine Below.setCell ?_ ?hp _); case hp => (first | omega | (simp only [World.size_alloc, World.size_setCell, World.size_drew]; omega) | (simp; done) | (simp; omega))) | ((with_reducible refine Below.alloc ?_ ?hp _); case hp => (first | omega | (simp only [World.size_alloc, World.size_setCell, World.size_drew]; omega) | (simp; done) | (simp; omega))) | with_reducible refine Below.drew ?_ | with_reducible refine below_drewN ?_ _))) (hb2.mono (by (first | omega | (simp only [World.size_alloc, World.size_setCell, World.size_drew]; omega) | (simp; done) | (simp; omega)))); have HOW2 := Lib.hid (HOW.out.below hb3 (Nat.le_refl _)); have HB2 := Lib.hid (HB.out.trans (hb3.mono HB.out.size)); clear hb3; (obtain ⟨hb2_c, hb2_f⟩ := bcell hb2; have hb2_z := (hb2).size; have hb2_0 : Below wr.heap.size wr _ := Below.trans (by (repeat (first | with_reducible exact Below.refl _ _ | with_reducible assumption | ((with_reducible refine Below.setCell ?_ ?hp _); case hp => (first | omega | (simp only [World.size_alloc, World.size_setCell, World.size_drew]; omega) | (simp; done) | (simp; omega))) | ((with_reducible refine Below.alloc ?_ ?hp _); case hp => (first | omega | (simp only [World.size_alloc, World.size_setCell, World.size_drew]; omega) | (simp; done) | (simp; omega))) | with_reducible refine Below.drew ?_ | with_reducible refine below_drewN ?_ _))) ((hb2).mono (by (first | omega | (simp only [World.size_alloc, World.size_setCell, World.size_drew]; omega) | (simp; done) | (simp; omega)))); (try simp only [World.size_alloc, World.size_setCell, World.size_drew] at hb2_z hb2_c hb2_f); clear hb2); (have hb2_q0 := hb2_c (wr.heap.size) 0 (by omega); simp [go_sem] at hb2_q0; have hb2_q1 := hb2_c (wr.heap.size) 1 (by omega); simp [go_sem] at hb2_q1; have hb2_q2 := hb2_c (wr.heap.size) 2 (by omega); simp [go_sem] at hb2_q2; have hb2_q3 := hb2_c (wr.heap.size) 3 (by omega); simp [go_sem] at hb2_q3))
          go_roundw
          case rel =>
            refine ⟨k + 1, by omega, by go_num, ?_, by have hB2 := HB2.out; (repeat (first | with_reducible exact Below.refl _ _ | with_reducible assumption | ((with_reducible refine Below.setCell ?_ ?hp _); case hp => (first | omega | (simp only [World.size_alloc, World.size_setCell, World.size_drew]; omega) | (simp; done) | (simp; omega))) | ((with_reducible refine Below.alloc ?_ ?hp _); case hp => (first | omega | (simp only [World.size_alloc, World.size_setCell, World.size_drew]; omega) | (simp; done) | (simp; omega))) | with_reducible refine Below.drew ?_ | with_reducible refine below_drewN ?_ _))⟩
            rw [← mix_set, HM.out]
            exact own_put HOW2.out k hkm ⟨5, 0, 0, y.jt⟩
          case measure => simp [intOf]; omega
        · have ee : (((ins l k).jt : Int) == ((ins l k).jf : Int)) = false := by rw [beq_eq_false_iff_ne]; omega
          have HM := Lib.hid (show levelAt l k = ins l k by unfold levelAt; rw [HT.out]; simp [he])
          clear he
          generalize hye : ins l k = y at *
          have HYE := Lib.hid hye
          clear hye
          go_wp2_with (go_at_call 139; refine (tests_at _ cap l k _ (HLW.out.below (B := wr.heap.size) (by (repeat (first | with_reducible exact Below.refl _ _ | with_reducible assumption | ((with_reducible refine Below.setCell ?_ ?hp _); case hp => (first | omega | (simp only [World.size_alloc, World.size_setCell, World.size_drew]; omega) | (simp; done) | (simp; omega))) | ((with_reducible refine Below.alloc ?_ ?hp _); case hp => (first | omega | (simp only [World.size_alloc, World.size_setCell, World.size_drew]; omega) | (simp; done) | (simp; omega))) | with_reducible refine Below.drew ?_ | with_reducible refine below_drewN ?_ _))) (Nat.le_refl _)) hlt).mono ?_; rw [HYE.out, HT.out]; rintro e' w2 ⟨rfl, hb2⟩; have hb3 : Below wr.heap.size wr w2 := Below.trans (by (repeat (first | with_reducible exact Below.refl _ _ | with_reducible assumption | ((with_reducible refine Below.setCell ?_ ?hp _); case hp => (first | omega | (simp only [World.size_alloc, World.size_setCell, World.size_drew]; omega) | (simp; done) | (simp; omega))) | ((with_reducible refine Below.alloc ?_ ?hp _); case hp => (first | omega | (simp only [World.size_alloc, World.size_setCell, World.size_drew]; omega) | (simp; done) | (simp; omega))) | with_reducible refine Below.drew ?_ | with_reducible refine below_drewN ?_ _))) (hb2.mono (by (first | omega | (simp only [World.size_alloc, World.size_setCell, World.size_drew]; omega) | (simp; done) | (simp; omega)))); have HOW2 := Lib.hid (HOW.out.below hb3 (Nat.le_refl _)); have HB2 := Lib.hid (HB.out.trans (hb3.mono HB.out.size)); clear hb3; (obtain ⟨hb2_c, hb2_f⟩ := bcell hb2; have hb2_z := (hb2).size; have hb2_0 : Below wr.heap.size wr _ := Below.trans (by (repeat (first | with_reducible exact Below.refl _ _ | with_reducible assumption | ((with_reducible refine Below.setCell ?_ ?hp _); case hp => (first | omega | (simp only [World.size_alloc, World.size_setCell, World.size_drew]; omega) | (simp; done) | (simp; omega))) | ((with_reducible refine Below.alloc ?_ ?hp _); case hp => (first | omega | (simp only [World.size_alloc, World.size_setCell, World.size_drew]; omega) | (simp; done) | (simp; omega))) | with_reducible refine Below.drew ?_ | with_reducible refine below_drewN ?_ _))) ((hb2).mono (by (first | omega | (simp only [World.size_alloc, World.size_setCell, World.size_drew]; omega) | (simp; done) | (simp; omega)))); (try simp only [World.size_alloc, World.size_setCell, World.size_drew] at hb2_z hb2_c hb2_f); clear hb2); (have hb2_q0 := hb2_c (wr.heap.size) 0 (by omega); simp [go_sem] at hb2_q0; have hb2_q1 := hb2_c (wr.heap.size) 1 (by omega); simp [go_sem] at hb2_q1; have hb2_q2 := hb2_c (wr.heap.size) 2 (by omega); simp [go_sem] at hb2_q2; have hb2_q3 := hb2_c (wr.heap.size) 3 (by omega); simp [go_sem] at hb2_q3))
          go_roundw
          case rel =>
            refine ⟨k + 1, by omega, by go_num, ?_, by have hB2 := HB2.out; (repeat (first | with_reducible exact Below.refl _ _ | with_reducible assumption | ((with_reducible refine Below.setCell ?_ ?hp _); case hp => (first | omega | (simp only [World.size_alloc, World.size_setCell, World.size_drew]; omega) | (simp; done) | (simp; omega))) | ((with_reducible refine Below.alloc ?_ ?hp _); case hp => (first | omega | (simp only [World.size_alloc, World.size_setCell, World.size_drew]; omega) | (simp; done) | (simp; omega))) | with_reducible refine Below.drew ?_ | with_reducible refine below_drewN ?_ _))⟩
            rw [← mix_same _ _ _ (by rw [HM.out, HYE.out])]
            exact HOW2.out
          case measure => simp [intOf]; omega
      · have HT := Lib.hid (show isTest (ins l k) = false by simpa using ht)
        clear ht
        have HM := Lib.hid (show levelAt l k = ins l k by unfold levelAt; rw [HT.out]; rfl)
        generalize hye : ins l k = y at *
        have HYE := Lib.hid hye
        clear hye
        go_wp2_with (go_at_call 139; refine (tests_at _ cap l k _ (HLW.out.below (B := wr.heap.size) (by (repeat (first | with_reducible exact Below.refl _ _ | with_reducible assumption | ((with_reducible refine Below.setCell ?_ ?hp _); case hp => (first | omega | (simp only [World.size_alloc, World.size_setCell, World.size_drew]; omega) | (simp; done) | (simp; omega))) | ((with_reducible refine Below.alloc ?_ ?hp _); case hp => (first | omega | (simp only [World.size_alloc, World.size_setCell, World.size_drew]; omega) | (simp; done) | (simp; omega))) | with_reducible refine Below.drew ?_ | with_reducible refine below_drewN ?_ _))) (Nat.le_refl _)) hlt).mono ?_; rw [HYE.out, HT.out]; rintro e' w2 ⟨rfl, hb2⟩; have hb3 : Below wr.heap.size wr w2 := Below.trans (by (repeat (first | with_reducible exact Below.refl _ _ | with_reducible assumption | ((with_reducible refine Below.setCell ?_ ?hp _); case hp => (first | omega | (simp only [World.size_alloc, World.size_setCell, World.size_drew]; omega) | (simp; done) | (simp; omega))) | ((with_reducible refine Below.alloc ?_ ?hp _); case hp => (first | omega | (simp only [World.size_alloc, World.size_setCell, World.size_drew]; omega) | (simp; done) | (simp; omega))) | with_reducible refine Below.drew ?_ | with_reducible refine below_drewN ?_ _))) (hb2.mono (by (first | omega | (simp only [World.size_alloc, World.size_setCell, World.size_drew]; omega) | (simp; done) | (simp; omega)))); have HOW2 := Lib.hid (HOW.out.below hb3 (Nat.le_refl _)); have HB2 := Lib.hid (HB.out.trans (hb3.mono HB.out.size)); clear hb3; (obtain ⟨hb2_c, hb2_f⟩ := bcell hb2; have hb2_z := (hb2).size; have hb2_0 : Below wr.heap.size wr _ := Below.trans (by (repeat (first | with_reducible exact Below.refl _ _ | with_reducible assumption | ((with_reducible refine Below.setCell ?_ ?hp _); case hp => (first | omega | (simp only [World.size_alloc, World.size_setCell, World.size_drew]; omega) | (simp; done) | (simp; omega))) | ((with_reducible refine Below.alloc ?_ ?hp _); case hp => (first | omega | (simp only [World.size_alloc, World.size_setCell, World.size_drew]; omega) | (simp; done) | (simp; omega))) | with_reducible refine Below.drew ?_ | with_reducible refine below_drewN ?_ _))) ((hb2).mono (by (first | omega | (simp only [World.size_alloc, World.size_setCell, World.size_drew]; omega) | (simp; done) | (simp; omega)))); (try simp only [World.size_alloc, World.size_setCell, World.size_drew] at hb2_z hb2_c hb2_f); clear hb2); (have hb2_q0 := hb2_c (wr.heap.size) 0 (by omega); simp [go_sem] at hb2_q0; have hb2_q1 := hb2_c (wr.heap.size) 1 (by omega); simp [go_sem] at hb2_q1; have hb2_q2 := hb2_c (wr.heap.size) 2 (by omega); simp [go_sem] at hb2_q2; have hb2_q3 := hb2_c (wr.heap.size) 3 (by omega); simp [go_sem] at hb2_q3))
        go_roundw
        case rel =>
          refine ⟨k + 1, by omega, by go_num, ?_, by have hB2 := HB2.out; (repeat (first | with_reducible exact Below.refl _ _ | with_reducible assumption | ((with_reducible refine Below.setCell ?_ ?hp _); case hp => (first | omega | (simp only [World.size_alloc, World.size_setCell, World.size_drew]; omega) | (simp; done) | (simp; omega))) | ((with_reducible refine Below.alloc ?_ ?hp _); case hp => (first | omega | (simp only [World.size_alloc, World.size_setCell, World.size_drew]; omega) | (simp; done) | (simp; omega))) | with_reducible refine Below.drew ?_ | with_reducible refine below_drewN ?_ _))⟩
          rw [← mix_same _ _ _ (by rw [HM.out, HYE.out])]
          exact HOW2.out
        case measure => simp [intOf]; omega
    · have hk' : k = l.length := by omega
      subst hk'
      go_wp2
      go_ret
      exact ⟨_, _, rfl, by have := HOW.out; rw [mix_all] at this; exact this, HB.out⟩

set_option maxRecDepth 100000 in
set_option maxHeartbeats 1000000 in
theorem third_any (A : Option Addr) (cap : Nat) (l : List Insn) (w : World) (hl : RdP w A l) (hg : Good l) :
    Calls Try.prog 60 #[.slice A l.length cap] w fun e w' => ∃ R c, e = .returned (.slice R l.length c) ∧ EI.Own 36 w' w.heap.size R c (levelL l) ∧ Below w.heap.size w w' := by
  have hlen := hg.len
  have HG := Lib.hid hg
  have HL := Lib.hid hl
  obtain ⟨b, o, rfl, hb, _⟩ := hl.cells (i := 0) (by omega)
  clear hg hl
  go_enter Try.func60, Try.ntmps60
  go_wp2_with (go_at_call 101; refine (copied_any _ cap l w HL.out.enc (by omega)).mono ?_; rintro e w1 ⟨R, c, rfl, ho, hb1⟩; obtain ⟨g, rfl, hg1, hg2⟩ := ho.form (by intro e; rw [e] at hlen; simp at hlen); have HO := Lib.hid ho; have HB1 := Lib.hid hb1; clear ho hb1)
  go_loopw [10] (fun i wr => ∃ k : Nat, k ≤ l.length ∧ i = .int .i64 k ∧ EI.Own 36 wr w.heap.size (some ⟨g, 0, none⟩) c (mix (levelAt l) l k) ∧ Below w.heap.size w wr) (fun i _ => l.length - (intOf i).toNat)
  case atStart => exact ⟨0, by omega, rfl, by rw [mix_zero]; exact HO.out, HB1.out⟩
  case round =>
    obtain ⟨k, hk, rfl, ho, hB⟩ := hrel
    have hgw := ho.lt.2
    have HOW := Lib.hid ho
    have HB := Lib.hid hB
    have HLW := Lib.hid (HL.out.below hB (Nat.le_refl _))
    have hbw : b < wr.heap.size := by have := hB.size; omega
    have hww : w.heap.size ≤ wr.heap.size := hB.size
    clear ho hB HO HB1 hg2
    by_cases hlt : k < l.length
    · obtain ⟨b1, o1, hbo, _, hcy⟩ := HLW.out.cells hlt
      cases hbo
      obtain ⟨y0, y1, y2, y3⟩ := hcy
      have hkm : k < (mix (levelAt l) l k).length := by rw [mix_len]; exact hlt
      have HX := Lib.hid (HG.out.okAt hlt)
      have q1 := HX.out.jt
      have q2 := HX.out.jf
      by_cases ht : isTest (ins l k) = true
      · have HT := Lib.hid ht
        clear ht
        by_cases he : (ins l k).jt = (ins l k).jf
        · have ee : (((ins l k).jt : Int) == ((ins l k).jf : Int)) = true := by rw [beq_iff_eq]; omega
          have HM := Lib.hid (show levelAt l k = ⟨5, 0, 0, (ins l k).jt⟩ by unfold levelAt; rw [HT.out, he]; simp)
          clear he
          obtain ⟨z0, z1, z2, z3⟩ := own_iat HOW.out k hkm
          obtain ⟨f0, f1, f2, f3⟩ := own_frozen4 HOW.out k
          generalize hye : ins l k = y at *
          have HYE := Lib.hid hye
          clear hye
          go_wp2_with (go_at_call 100; refine (rtests_any y HX.out _).mono ?_; rw [HT.out]; rintro e' w2 ⟨rfl, hb2⟩; have hb3 : Below wr.heap.size wr w2 := Below.trans (by (repeat (first | with_reducible exact Below.refl _ _ | with_reducible assumption | ((with_reducible refine Below.setCell ?_ ?hp _); case hp => (first | omega | (simp only [World.size_alloc, World.size_setCell, World.size_drew]; omega) | (simp; done) | (simp; omega))) | ((with_reducible refine Below.alloc ?_ ?hp _); case hp => (first | omega | (simp only [World.size_alloc, World.size_setCell, World.size_drew]; omega) | (simp; done) | (simp; omega))) | with_reducible refine Below.drew ?_ | with_reducible refine below_drewN ?_ _))) (hb2.mono (by (first | omega | (simp only [World.size_alloc, World.size_setCell, World.size_drew]; omega) | (simp; done) | (simp; omega)))); have HOW2 := Lib.hid (HOW.out.below hb3 (Nat.le_refl _)); have HB2 := Lib.hid (HB.out.trans (hb3.mono HB.out.size)); clear hb3; (obtain ⟨hb2_c, hb2_f⟩ := bcell hb2; have hb2_z := (hb2).size; have hb2_0 : Below wr.heap.size wr _ := Below.trans (by (repeat (first | with_reducible exact Below.refl _ _ | with_reducible assumption | ((with_reducible refine Below.setCell ?_ ?hp _); case hp => (first | omega | (simp only [World.size_alloc, World.size_setCell, World.size_drew]; omega) | (simp; done) | (simp; omega))) | ((with_reducible refine Below.alloc ?_ ?hp _); case hp => (first | omega | (simp only [World.size_alloc, World.size_setCell, World.size_drew]; omega) | (simp; done) | (simp; omega))) | with_reducible refine Below.drew ?_ | with_reducible refine below_drewN ?_ _))) ((hb2).mono (by (first | omega | (simp only [World.size_alloc, World.size_setCell, World.size_drew]; omega) | (simp; done) | (simp; omega)))); (try simp only [World.size_alloc, World.size_setCell, World.size_drew] at hb2_z hb2_c hb2_f); clear hb2); (have hb2_q0 := hb2_c (wr.heap.size) 0 (by omega); simp [go_sem] at hb2_q0; have hb2_q1 := hb2_c (wr.heap.size) 1 (by omega); simp [go_sem] at hb2_q1; have hb2_q2 := hb2_c (wr.heap.size) 2 (by omega); simp [go_sem] at hb2_q2; have hb2_q3 := hb2_c (wr.heap.size) 3 (by omega); simp [go_sem] at hb2_q3))
          go_roundw
          case rel =>
            refine ⟨k + 1, by omega, by go_num, ?_, by have hB2 := HB2.out; (repeat (first | with_reducible exact Below.refl _ _ | with_reducible assumption | ((with_reducible refine Below.setCell ?_ ?hp _); case hp => (first | omega | (simp only [World.size_alloc, World.size_setCell, World.size_drew]; omega) | (simp; done) | (simp; omega))) | ((with_reducible refine Below.alloc ?_ ?hp _); case hp => (first | omega | (simp only [World.size_alloc, World.size_setCell, World.size_drew]; omega) | (simp; done) | (simp; omega))) | with_reducible refine Below.drew ?_ | with_reducible refine below_drewN ?_ _))⟩
            rw [← mix_set, HM.out]
            exact own_put HOW2.out k hkm ⟨5, 0, 0, y.jt⟩
          case measure => simp [intOf]; omega
        · have ee : (((ins l k).jt : Int) == ((ins l k).jf : Int)) = false := by rw [beq_eq_false_iff_ne]; omega
          have HM := Lib.hid (show levelAt l k = ins l k by unfold levelAt; rw [HT.out]; simp [he])
          clear he
          generalize hye : ins l k = y at *
          have HYE := Lib.hid hye
          clear hye
          go_wp2_with (go_at_call 100; refine (rtests_any y HX.out _).mono ?_; rw [HT.out]; rintro e' w2 ⟨rfl, hb2⟩; have hb3 : Below wr.heap.size wr w2 := Below.trans (by (repeat (first | with_reducible exact Below.refl _ _ | with_reducible assumption | ((with_reducible refine Below.setCell ?_ ?hp _); case hp => (first | omega | (simp only [World.size_alloc, World.size_setCell, World.size_drew]; omega) | (simp; done) | (simp; omega))) | ((with_reducible refine Below.alloc ?_ ?hp _); case hp => (first | omega | (simp only [World.size_alloc, World.size_setCell, World.size_drew]; omega) | (simp; done) | (simp; omega))) | with_reducible refine Below.drew ?_ | with_reducible refine below_drewN ?_ _))) (hb2.mono (by (first | omega | (simp only [World.size_alloc, World.size_setCell, World.size_drew]; omega) | (simp; done) | (simp; omega)))); have HOW2 := Lib.hid (HOW.out.below hb3 (Nat.le_refl _)); have HB2 := Lib.hid (HB.out.trans (hb3.mono HB.out.size)); clear hb3; (obtain ⟨hb2_c, hb2_f⟩ := bcell hb2; have hb2_z := (hb2).size; have hb2_0 : Below wr.heap.size wr _ := Below.trans (by (repeat (first | with_reducible exact Below.refl _ _ | with_reducible assumption | ((with_reducible refine Below.setCell ?_ ?hp _); case hp => (first | omega | (simp only [World.size_alloc, World.size_setCell, World.size_drew]; omega) | (simp; done) | (simp; omega))) | ((with_reducible refine Below.alloc ?_ ?hp _); case hp => (first | omega | (simp only [World.size_alloc, World.size_setCell, World.size_drew]; omega) | (simp; done) | (simp; omega))) | with_reducible refine Below.drew ?_ | with_reducible refine below_drewN ?_ _))) ((hb2).mono (by (first | omega | (simp only [World.size_alloc, World.size_setCell, World.size_drew]; omega) | (simp; done) | (simp; omega)))); (try simp only [World.size_alloc, World.size_setCell, World.size_drew] at hb2_z hb2_c hb2_f); clear hb2); (have hb2_q0 := hb2_c (wr.heap.size) 0 (by omega); simp [go_sem] at hb2_q0; have hb2_q1 := hb2_c (wr.heap.size) 1 (by omega); simp [go_sem] at hb2_q1; have hb2_q2 := hb2_c (wr.heap.size) 2 (by omega); simp [go_sem] at hb2_q2; have hb2_q3 := hb2_c (wr.heap.size) 3 (by omega); simp [go_sem] at hb2_q3))
          go_roundw
          case rel =>
            refine ⟨k + 1, by omega, by go_num, ?_, by have hB2 := HB2.out; (repeat (first | with_reducible exact Below.refl _ _ | with_reducible assumption | ((with_reducible refine Below.setCell ?_ ?hp _); case hp => (first | omega | (simp only [World.size_alloc, World.size_setCell, World.size_drew]; omega) | (simp; done) | (simp; omega))) | ((with_reducible refine Below.alloc ?_ ?hp _); case hp => (first | omega | (simp only [World.size_alloc, World.size_setCell, World.size_drew]; omega) | (simp; done) | (simp; omega))) | with_reducible refine Below.drew ?_ | with_reducible refine below_drewN ?_ _))⟩
            rw [← mix_same _ _ _ (by rw [HM.out, HYE.out])]
            exact HOW2.out
          case measure => simp [intOf]; omega
      · have HT := Lib.hid (show isTest (ins l k) = false by simpa using ht)
        clear ht
        have HM := Lib.hid (show levelAt l k = ins l k by unfold levelAt; rw [HT.out]; rfl)
        generalize hye : ins l k = y at *
        have HYE := Lib.hid hye
        clear hye
        go_wp2_with (go_at_call 100; refine (rtests_any y HX.out _).mono ?_; rw [HT.out]; rintro e' w2 ⟨rfl, hb2⟩; have hb3 : Below wr.heap.size wr w2 := Below.trans (by (repeat (first | with_reducible exact Below.refl _ _ | with_reducible assumption | ((with_reducible refine Below.setCell ?_ ?hp _); case hp => (first | omega | (simp only [World.size_alloc, World.size_setCell, World.size_drew]; omega) | (simp; done) | (simp; omega))) | ((with_reducible refine Below.alloc ?_ ?hp _); case hp => (first | omega | (simp only [World.size_alloc, World.size_setCell, World.size_drew]; omega) | (simp; done) | (simp; omega))) | with_reducible refine Below.drew ?_ | with_reducible refine below_drewN ?_ _))) (hb2.mono (by (first | omega | (simp only [World.size_alloc, World.size_setCell, World.size_drew]; omega) | (simp; done) | (simp; omega)))); have HOW2 := Lib.hid (HOW.out.below hb3 (Nat.le_refl _)); have HB2 := Lib.hid (HB.out.trans (hb3.mono HB.out.size)); clear hb3; (obtain ⟨hb2_c, hb2_f⟩ := bcell hb2; have hb2_z := (hb2).size; have hb2_0 : Below wr.heap.size wr _ := Below.trans (by (repeat (first | with_reducible exact Below.refl _ _ | with_reducible assumption | ((with_reducible refine Below.setCell ?_ ?hp _); case hp => (first | omega | (simp only [World.size_alloc, World.size_setCell, World.size_drew]; omega) | (simp; done) | (simp; omega))) | ((with_reducible refine Below.alloc ?_ ?hp _); case hp => (first | omega | (simp only [World.size_alloc, World.size_setCell, World.size_drew]; omega) | (simp; done) | (simp; omega))) | with_reducible refine Below.drew ?_ | with_reducible refine below_drewN ?_ _))) ((hb2).mono (by (first | omega | (simp only [World.size_alloc, World.size_setCell, World.size_drew]; omega) | (simp; done) | (simp; omega)))); (try simp only [World.size_alloc, World.size_setCell, World.size_drew] at hb2_z hb2_c hb2_f); clear hb2); (have hb2_q0 := hb2_c (wr.heap.size) 0 (by omega); simp [go_sem] at hb2_q0; have hb2_q1 := hb2_c (wr.heap.size) 1 (by omega); simp [go_sem] at hb2_q1; have hb2_q2 := hb2_c (wr.heap.size) 2 (by omega); simp [go_sem] at hb2_q2; have hb2_q3 := hb2_c (wr.heap.size) 3 (by omega); simp [go_sem] at hb2_q3))
        go_roundw
        case rel =>
          refine ⟨k + 1, by omega, by go_num, ?_, by have hB2 := HB2.out; (repeat (first | with_reducible exact Below.refl _ _ | with_reducible assumption | ((with_reducible refine Below.setCell ?_ ?hp _); case hp => (first | omega | (simp only [World.size_alloc, World.size_setCell, World.size_drew]; omega) | (simp; done) | (simp; omega))) | ((with_reducible refine Below.alloc ?_ ?hp _); case hp => (first | omega | (simp only [World.size_alloc, World.size_setCell, World.size_drew]; omega) | (simp; done) | (simp; omega))) | with_reducible refine Below.drew ?_ | with_reducible refine below_drewN ?_ _))⟩
          rw [← mix_same _ _ _ (by rw [HM.out, HYE.out])]
          exact HOW2.out
        case measure => simp [intOf]; omega
    · have hk' : k = l.length := by omega
      subst hk'
      go_wp2
      go_ret
      exact ⟨_, _, rfl, by have := HOW.out; rw [mix_all] at this; exact this, HB.out⟩

end Go.Proofs.Ytfjbanfibmpalaa

/- Contracts: wicketgateref22.end, .first, .third; (prune.program).level. -/
import Derived.Test.YtfjbanfibmpalaaK22
set_option linter.unusedVariables false
set_option linter.unusedSimpArgs false
namespace Go.Proofs.Ytfjbanfibmpalaa
open Go.RowKit Go.Shelf

set_option maxHeartbeats 400000 in
theorem rend_any (A : Option Addr) (cap : Nat) (l : List Insn) (i : Nat) (w : World) (hl : RdP w A l) (hg : Good l) (hi : i < l.length) :
    Calls Try.prog 102 #[.slice A l.length cap, .int .i64 i] w fun e w' => e = .returned (.int .i64 (endOf l i)) ∧ w = w' := by
  have hlen := hg.len
  have HG := Lib.hid hg
  have HL := Lib.hid hl
  obtain ⟨b, o, rfl, hb, _⟩ := hl.cells hi
  clear hg hl
  go_enter Try.func102, Try.ntmps102
  go_wp2
  go_loopw [1] (fun j wr => ∃ k : Nat, k < l.length ∧ j = .int .i64 k ∧ endOf l k = endOf l i ∧ wr = w) (fun j _ => l.length - (intOf j).toNat)
  case atStart => exact ⟨i, hi, rfl, rfl, rfl⟩
  case round =>
    obtain ⟨k, hk, rfl, he, hwr⟩ := hrel
    subst hwr
    obtain ⟨b', o', hbo, _, hc⟩ := HL.out.cells hk
    cases hbo
    obtain ⟨h0, h1, h2, h3⟩ := hc
    have HE := Lib.hid he
    clear he
    by_cases hj : isJa (ins l k) = true
    · have hja := HG.out.ja hk hj
      have HEE := Lib.hid (endOf_ja HG.out hk hj)
      have e5 : (((ins l k).code : Int) == 5) = true := by
        have : (ins l k).code = 5 := by simpa [isJa] using hj
        rw [beq_iff_eq]; omega
      clear hj
      generalize hx : ins l k = x at *
      have HX := Lib.hid hx
      clear hx
      go_wp2
      go_roundw
      case rel => exact ⟨k + 1 + x.k, hja.1, by go_num, by rw [← HEE.out]; exact HE.out, trivial⟩
      case measure => simp [intOf]; omega
    · have HEE := Lib.hid (endOf_else hk (show isJa (ins l k) = false by simpa using hj))
      have e5 : (((ins l k).code : Int) == 5) = false := by
        have : ¬ (ins l k).code = 5 := by simpa [isJa] using hj
        rw [beq_eq_false_iff_ne]; omega
      clear hj
      generalize hx : ins l k = x at *
      have HX := Lib.hid hx
      clear hx
      go_wp2
      go_ret
      exact ⟨by rw [← HE.out, HEE.out]; rfl, rfl⟩

set_option maxRecDepth 100000 in
set_option maxHeartbeats 1000000 in
theorem first_any (A : Option Addr) (cap : Nat) (l : List Insn) (w : World) (hl : RdP w A l) (hg : Good l) :
    Calls Try.prog 62 #[.slice A l.length cap] w fun e w' => ∃ R c, e = .returned (.slice R l.length c) ∧ EI.Own 36 w' w.heap.size R c (giveL l) ∧ Below w.heap.size w w' := by
  have hlen := hg.len
  have HG := Lib.hid hg
  have HL := Lib.hid hl
  obtain ⟨b, o, rfl, hb, _⟩ := hl.cells (i := 0) (by omega)
  clear hg hl
  go_enter Try.func62, Try.ntmps62
  go_wp2_with (go_at_call 101; refine (copied_any _ cap l w HL.out.enc (by omega)).mono ?_; rintro e w1 ⟨R, c, rfl, ho, hb1⟩; obtain ⟨g, rfl, hg1, hg2⟩ := ho.form (by intro e; rw [e] at hlen; simp at hlen); have HO := Lib.hid ho; have HB1 := Lib.hid hb1; clear ho hb1)
  go_loopw [11] (fun i wr => ∃ k : Nat, k ≤ l.length ∧ i = .int .i64 k ∧ EI.Own 36 wr w.heap.size (some ⟨g, 0, none⟩) c (mix (giveAt l) l k) ∧ Below w.heap.size w wr) (fun i _ => l.length - (intOf i).toNat)
  case atStart => exact ⟨0, by omega, rfl, by rw [mix_zero]; exact HO.out, HB1.out⟩
  case round =>
    obtain ⟨k, hk, rfl, ho, hB⟩ := hrel
    have hgw := ho.lt.2
    have HOW := Lib.hid ho
    have HB := Lib.hid hB
    have HLW := Lib.hid (HL.out.below hB (Nat.le_refl _))
    have hbw : b < wr.heap.size := by have := hB.size; omega
    have hww : w.heap.size ≤ wr.heap.size := hB.size
    clear ho hB HO HB1 hg2
    by_cases hlt : k < l.length
    · have he := endOf_lt HG.out hlt
      obtain ⟨b1, o1, hbo, _, hcy⟩ := HLW.out.cells hlt
      cases hbo
      obtain ⟨y0, y1, y2, y3⟩ := hcy
      have hkm : k < (mix (giveAt l) l k).length := by rw [mix_len]; exact hlt
      by_cases hj : isJa (ins l k) = true
      · have HJ := Lib.hid hj
        have e5 : (((ins l k).code : Int) == 5) = true := by
          have : (ins l k).code = 5 := by simpa [isJa] using hj
          rw [beq_iff_eq]; omega
        clear hj
        obtain ⟨b', o', hbo, _, hcx⟩ := HLW.out.cells he
        cases hbo
        obtain ⟨x0, x1, x2, x3⟩ := hcx
        have HEND := Lib.hid (fun W (h : RdP W (some ⟨b, o, none⟩) l) => rend_any _ cap l k W h HG.out hlt)
        by_cases hr : isRet (ins l (endOf l k)).code = true
        · have HR := Lib.hid hr
          clear hr
          have HM := Lib.hid (show giveAt l k = ins l (endOf l k) by unfold giveAt; rw [HJ.out, HR.out]; rfl)
          obtain ⟨z0, z1, z2, z3⟩ := own_iat HOW.out k hkm
          obtain ⟨f0, f1, f2, f3⟩ := own_frozen4 HOW.out k
          generalize endOf l k = e at *
          generalize hxe : ins l e = x at *
          generalize hye : ins l k = y at *
          have HXE := Lib.hid hxe
          have HYE := Lib.hid hye
          clear hxe hye
          go_wp2_with (first
            | (go_at_call 102; refine (HEND.out _ (HLW.out.below (B := wr.heap.size) (by (repeat (first | with_reducible exact Below.refl _ _ | with_reducible assumption | ((with_reducible refine Below.setCell ?_ ?hp _); case hp => (first | omega | (simp only [World.size_alloc, World.size_setCell, World.size_drew]; omega) | (simp; done) | (simp; omega))) | ((with_reducible refine Below.alloc ?_ ?hp _); case hp => (first | omega | (simp only [World.size_alloc, World.size_setCell, World.size_drew]; omega) | (simp; done) | (simp; omega))) | with_reducible refine Below.drew ?_ | with_reducible refine below_drewN ?_ _))) (Nat.le_refl _))).mono ?_; rintro e' w' ⟨rfl, rfl⟩)
            | (go_at_call 104; refine (r22returns_any x.code x.jt x.jf x.k _).mono ?_; rw [HR.out]; rintro e' w2 ⟨rfl, hb2⟩; have hb3 : Below wr.heap.size wr w2 := Below.trans (by (repeat (first | with_reducible exact Below.refl _ _ | with_reducible assumption | ((with_reducible refine Below.setCell ?_ ?hp _); case hp => (first | omega | (simp only [World.size_alloc, World.size_setCell, World.size_drew]; omega) | (simp; done) | (simp; omega))) | ((with_reducible refine Below.alloc ?_ ?hp _); case hp => (first | omega | (simp only [World.size_alloc, World.size_setCell, World.size_drew]; omega) | (simp; done) | (simp; omega))) | with_reducible refine Below.drew ?_ | with_reducible refine below_drewN ?_ _))) (hb2.mono (by (first | omega | (simp only [World.size_alloc, World.size_setCell, World.size_drew]; omega) | (simp; done) | (simp; omega)))); have HOW2 := Lib.hid (HOW.out.below hb3 (Nat.le_refl _)); have HB2 := Lib.hid (HB.out.trans (hb3.mono HB.out.size)); clear hb2; (obtain ⟨hb3_c, hb3_f⟩ := bcell hb3; have hb3_z := (hb3).size; have hb3_0 : Below wr.heap.size wr _ := Below.trans (by (repeat (first | with_reducible exact Below.refl _ _ | with_reducible assumption | ((with_reducible refine Below.setCell ?_ ?hp _); case hp => (first | omega | (simp only [World.size_alloc, World.size_setCell, World.size_drew]; omega) | (simp; done) | (simp; omega))) | ((with_reducible refine Below.alloc ?_ ?hp _); case hp => (first | omega | (simp only [World.size_alloc, World.size_setCell, World.size_drew]; omega) | (simp; done) | (simp; omega))) | with_reducible refine Below.drew ?_ | with_reducible refine below_drewN ?_ _))) ((hb3).mono (by (first | omega | (simp only [World.size_alloc, World.size_setCell, World.size_drew]; omega) | (simp; done) | (simp; omega)))); (try simp only [World.size_alloc, World.size_setCell, World.size_drew] at hb3_z hb3_c hb3_f); clear hb3)))
          go_roundw
          case rel =>
            refine ⟨k + 1, by omega, by go_num, ?_, by have hB2 := HB2.out; (repeat (first | with_reducible exact Below.refl _ _ | with_reducible assumption | ((with_reducible refine Below.setCell ?_ ?hp _); case hp => (first | omega | (simp only [World.size_alloc, World.size_setCell, World.size_drew]; omega) | (simp; done) | (simp; omega))) | ((with_reducible refine Below.alloc ?_ ?hp _); case hp => (first | omega | (simp only [World.size_alloc, World.size_setCell, World.size_drew]; omega) | (simp; done) | (simp; omega))) | with_reducible refine Below.drew ?_ | with_reducible refine below_drewN ?_ _))⟩
            rw [← mix_set, HM.out]
            exact own_put HOW2.out k hkm x
          case measure => simp [intOf]; omega
        · have HR := Lib.hid (show isRet (ins l (endOf l k)).code = false by simpa using hr)
          clear hr
          have HM := Lib.hid (show giveAt l k = ins l k by unfold giveAt; rw [HJ.out, HR.out]; rfl)
          generalize endOf l k = e at *
          generalize hxe : ins l e = x at *
          generalize hye : ins l k = y at *
          have HXE := Lib.hid hxe
          have HYE := Lib.hid hye
          clear hxe hye
          go_wp2_with (first
            | (go_at_call 102; refine (HEND.out _ (HLW.out.below (B := wr.heap.size) (by (repeat (first | with_reducible exact Below.refl _ _ | with_reducible assumption | ((with_reducible refine Below.setCell ?_ ?hp _); case hp => (first | omega | (simp only [World.size_alloc, World.size_setCell, World.size_drew]; omega) | (simp; done) | (simp; omega))) | ((with_reducible refine Below.alloc ?_ ?hp _); case hp => (first | omega | (simp only [World.size_alloc, World.size_setCell, World.size_drew]; omega) | (simp; done) | (simp; omega))) | with_reducible refine Below.drew ?_ | with_reducible refine below_drewN ?_ _))) (Nat.le_refl _))).mono ?_; rintro e' w' ⟨rfl, rfl⟩)
            | (go_at_call 104; refine (r22returns_any x.code x.jt x.jf x.k _).mono ?_; rw [HR.out]; rintro e' w2 ⟨rfl, hb2⟩; have hb3 : Below wr.heap.size wr w2 := Below.trans (by (repeat (first | with_reducible exact Below.refl _ _ | with_reducible assumption | ((with_reducible refine Below.setCell ?_ ?hp _); case hp => (first | omega | (simp only [World.size_alloc, World.size_setCell, World.size_drew]; omega) | (simp; done) | (simp; omega))) | ((with_reducible refine Below.alloc ?_ ?hp _); case hp => (first | omega | (simp only [World.size_alloc, World.size_setCell, World.size_drew]; omega) | (simp; done) | (simp; omega))) | with_reducible refine Below.drew ?_ | with_reducible refine below_drewN ?_ _))) (hb2.mono (by (first | omega | (simp only [World.size_alloc, World.size_setCell, World.size_drew]; omega) | (simp; done) | (simp; omega)))); have HOW2 := Lib.hid (HOW.out.below hb3 (Nat.le_refl _)); have HB2 := Lib.hid (HB.out.trans (hb3.mono HB.out.size)); clear hb2 hb3))
          go_roundw
          case rel =>
            refine ⟨k + 1, by omega, by go_num, ?_, HB2.out⟩
            rw [← mix_same _ _ _ (by rw [HM.out, HYE.out])]
            exact HOW2.out
          case measure => simp [intOf]; omega
      · have HJ := Lib.hid (show isJa (ins l k) = false by simpa using hj)
        have e5 : (((ins l k).code : Int) == 5) = false := by
          have : ¬ (ins l k).code = 5 := by simpa [isJa] using hj
          rw [beq_eq_false_iff_ne]; omega
        clear hj
        have HM := Lib.hid (show giveAt l k = ins l k by unfold giveAt; rw [HJ.out]; rfl)
        have HEND := Lib.hid (fun W (h : RdP W (some ⟨b, o, none⟩) l) => rend_any _ cap l k W h HG.out hlt)
        generalize endOf l k = e at *
        generalize hye : ins l k = y at *
        have HYE := Lib.hid hye
        clear hye
        go_wp2_with (go_at_call 102; refine (HEND.out _ (HLW.out.below (B := wr.heap.size) (by (repeat (first | with_reducible exact Below.refl _ _ | with_reducible assumption | ((with_reducible refine Below.setCell ?_ ?hp _); case hp => (first | omega | (simp only [World.size_alloc, World.size_setCell, World.size_drew]; omega) | (simp; done) | (simp; omega))) | ((with_reducible refine Below.alloc ?_ ?hp _); case hp => (first | omega | (simp only [World.size_alloc, World.size_setCell, World.size_drew]; omega) | (simp; done) | (simp; omega))) | with_reducible refine Below.drew ?_ | with_reducible refine below_drewN ?_ _))) (Nat.le_refl _))).mono ?_; rintro e' w' ⟨rfl, rfl⟩)
        go_roundw
        case rel =>
          refine ⟨k + 1, by omega, by go_num, ?_, by have hB := HB.out; (repeat (first | with_reducible exact Below.refl _ _ | with_reducible assumption | ((with_reducible refine Below.setCell ?_ ?hp _); case hp => (first | omega | (simp only [World.size_alloc, World.size_setCell, World.size_drew]; omega) | (simp; done) | (simp; omega))) | ((with_reducible refine Below.alloc ?_ ?hp _); case hp => (first | omega | (simp only [World.size_alloc, World.size_setCell, World.size_drew]; omega) | (simp; done) | (simp; omega))) | with_reducible refine Below.drew ?_ | with_reducible refine below_drewN ?_ _))⟩
          rw [← mix_same _ _ _ (by rw [HM.out, HYE.out])]
          exact HOW.out.below (B := wr.heap.size) (by (repeat (first | with_reducible exact Below.refl _ _ | with_reducible assumption | ((with_reducible refine Below.setCell ?_ ?hp _); case hp => (first | omega | (simp only [World.size_alloc, World.size_setCell, World.size_drew]; omega) | (simp; done) | (simp; omega))) | ((with_reducible refine Below.alloc ?_ ?hp _); case hp => (first | omega | (simp only [World.size_alloc, World.size_setCell, World.size_drew]; omega) | (simp; done) | (simp; omega))) | with_reducible refine Below.drew ?_ | with_reducible refine below_drewN ?_ _))) (Nat.le_refl _)
        case measure => simp [intOf]; omega
    · have hk' : k = l.length := by omega
      subst hk'
      go_wp2
      go_ret
      exact ⟨_, _, rfl, by have := HOW.out; rw [mix_all] at this; exact this, HB.out⟩
end Go.Proofs.Ytfjbanfibmpalaa

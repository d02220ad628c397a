/- Contract: wicketgateref22.second. -/
import Derived.Test.YtfjbanfibmpalaaK25
import Derived.Deep.RegionHeld3
import Derived.Deep.DrawnRows
set_option linter.unusedVariables false
set_option linter.unusedSimpArgs false
namespace Go.Proofs.Ytfjbanfibmpalaa
open Go.RowKit Go.Shelf
attribute [local go_sem ↓] Go.wp_at_zero Go.wp_at_succ

set_option maxRecDepth 100000 in
set_option maxHeartbeats 2000000 in
theorem second_any (A : Option Addr) (cap : Nat) (l : List Insn) (w : World) (hl : RdP w A l) (hg : Good l) :
    Calls Try.prog 61 #[.slice A l.length cap] w fun e w' => ∃ R c, e = .returned (.slice R l.length c) ∧ EI.Own 36 w' w.heap.size R c (leadL l) ∧ Below w.heap.size w w' := by
  have hlen := hg.len
  have HG := Lib.hid hg
  have HL := Lib.hid hl
  obtain ⟨b, o, rfl, hb, _⟩ := hl.cells (i := 0) (by omega)
  clear hg hl
  go_enter Try.func61, Try.ntmps61
  go_wp2_with (go_at_call 101; refine (copied_any _ cap l w HL.out.enc (by omega)).mono ?_; rintro e w1 ⟨R, c, rfl, ho, hb1⟩; obtain ⟨g, rfl, hg1, hg2⟩ := ho.form (by intro e; rw [e] at hlen; simp at hlen); have HO := Lib.hid ho; have HB1 := Lib.hid hb1; clear ho hb1)
  go_loopw [10] (fun i wr => ∃ k : Nat, k ≤ l.length ∧ i = .int .i64 k ∧ EI.Own 36 wr w.heap.size (some ⟨g, 0, none⟩) c (mix (leadAt l) l k) ∧ Below w.heap.size w wr) (fun i _ => l.length - (intOf i).toNat)
  case atStart => exact ⟨0, by omega, rfl, by rw [mix_zero]; exact HO.out, HB1.out⟩
  case round =>
    obtain ⟨k, hk, rfl, ho, hB⟩ := hrel
    have hgw := ho.lt.2
    have HOW := Lib.hid ho
    have HB := Lib.hid hB
    have HLW := Lib.hid (HL.out.below hB (Nat.le_refl _))
    have hbw : b < wr.heap.size := by have := hB.size; omega
    have hww : w.heap.size ≤ wr.heap.size := hB.size
    clear ho hB HO HB1 hg2
    by_cases hlt : k < l.length
    · have he := endOf_lt HG.out hlt
      obtain ⟨b1, o1, hbo, _, hcy⟩ := HLW.out.cells hlt
      cases hbo
      obtain ⟨y0, y1, y2, y3⟩ := hcy
      have hkm : k < (mix (leadAt l) l k).length := by rw [mix_len]; exact hlt
      have HX := Lib.hid (HG.out.okAt hlt)
      obtain ⟨z0, z1, z2, z3⟩ := own_iat HOW.out k hkm
      obtain ⟨f0, f1, f2, f3⟩ := own_frozen4 HOW.out k
      have HMG := Lib.hid (mix_get (leadAt l) l k hkm)
      rw [HMG.out] at z0 z1 z2 z3
      by_cases hj : isJa (ins l k) = true
      · have HJ := Lib.hid hj
        have e5 : (((ins l k).code : Int) == 5) = true := by
          have : (ins l k).code = 5 := by simpa [isJa] using hj
          rw [beq_iff_eq]; omega
        have HT := Lib.hid (ja_not_test hj)
        have HM := Lib.hid (leadAt_ja hj)
        have HEND := Lib.hid (fun W (h : RdP W (some ⟨b, o, none⟩) l) => rend_any _ cap l k W h HG.out hlt)
        have hgt := endOf_ja_gt HG.out hlt hj
        clear hj
        generalize endOf l k = e at *
        obtain ⟨m, rfl⟩ : ∃ m, e = k + 1 + m := ⟨e - k - 1, by omega⟩
        have e2 : k + 1 + m - k - 1 = m := by omega
        rw [e2] at HM
        generalize hye : ins l k = y at *
        have HYE := Lib.hid hye
        clear hye
        go_wp2_with (first
          | (go_at_call 102; refine (HEND.out _ (HLW.out.below (B := wr.heap.size) (by (repeat (first | with_reducible exact Below.refl _ _ | with_reducible assumption | ((with_reducible refine Below.setCell ?_ ?hp _); case hp => (first | omega | (simp only [World.size_alloc, World.size_setCell, World.size_drew]; omega) | (simp; done) | (simp; omega))) | ((with_reducible refine Below.alloc ?_ ?hp _); case hp => (first | omega | (simp only [World.size_alloc, World.size_setCell, World.size_drew]; omega) | (simp; done) | (simp; omega))) | with_reducible refine Below.drew ?_ | with_reducible refine below_drewN ?_ _))) (Nat.le_refl _))).mono ?_; rintro e' w' ⟨rfl, rfl⟩)
          | (go_at_call 100; refine (rtests_any y HX.out _).mono ?_; rw [HT.out]; rintro e' w2 ⟨rfl, hb2⟩; have HB2 := Lib.hid hb2; clear hb2))
        go_roundw
        case rel =>
          refine ⟨k + 1, by omega, by go_num, ?_, ?_⟩
          · have hB2 := HB2.out
            rw [show ((k : Int) + 1 + m - k - 1) = (m : Int) by omega] at hB2
            have h0 := own_put3 HOW.out k hkm m
            have h := (h0.below (B := (wr.setCell ⟨g, k * 4 + 3, none⟩ (.int .u32 m)).heap.size) (w' := (wr.setCell ⟨g, k * 4 + 3, none⟩ (.int .u32 m)).alloc (.cells #[.int .u16 y.code, .int .u8 y.jt, .int .u8 y.jf, .int .u32 y.k] 36)) (by (repeat (first | with_reducible exact Below.refl _ _ | with_reducible assumption | ((with_reducible refine Below.setCell ?_ ?hp _); case hp => (first | omega | (simp only [World.size_alloc, World.size_setCell, World.size_drew]; omega) | (simp; done) | (simp; omega))) | ((with_reducible refine Below.alloc ?_ ?hp _); case hp => (first | omega | (simp only [World.size_alloc, World.size_setCell, World.size_drew]; omega) | (simp; done) | (simp; omega))) | with_reducible refine Below.drew ?_ | with_reducible refine below_drewN ?_ _))) (Nat.le_refl _)).below hB2 (Nat.le_refl _)
            rw [HMG.out, ← HM.out, mix_set] at h
            exact h
          · have hB := HB.out
            exact Below.trans (by (repeat (first | with_reducible exact Below.refl _ _ | with_reducible assumption | ((with_reducible refine Below.setCell ?_ ?hp _); case hp => (first | omega | (simp only [World.size_alloc, World.size_setCell, World.size_drew]; omega) | (simp; done) | (simp; omega))) | ((with_reducible refine Below.alloc ?_ ?hp _); case hp => (first | omega | (simp only [World.size_alloc, World.size_setCell, World.size_drew]; omega) | (simp; done) | (simp; omega))) | with_reducible refine Below.drew ?_ | with_reducible refine below_drewN ?_ _))) (HB2.out.mono (by (first | omega | (simp only [World.size_alloc, World.size_setCell, World.size_drew]; omega) | (simp; done) | (simp; omega))))
        case measure => simp [intOf]; omega
      · have HJ := Lib.hid (show isJa (ins l k) = false by simpa using hj)
        have e5 : (((ins l k).code : Int) == 5) = false := by
          have : ¬ (ins l k).code = 5 := by simpa [isJa] using hj
          rw [beq_eq_false_iff_ne]; omega
        clear hj
        by_cases ht : isTest (ins l k) = true
        · have HT := Lib.hid ht
          have hts := HG.out.test hlt ht
          have HM := Lib.hid (leadAt_test ht)
          have HL1 := Lib.hid (fun W (h : RdP W (some ⟨b, o, none⟩) l) => leads_any _ cap l k (ins l k).jt W h HG.out hts.1)
          have HL2 := Lib.hid (fun W (h : RdP W (some ⟨b, o, none⟩) l) => leads_any _ cap l k (ins l k).jf W h HG.out hts.2)
          clear ht
          generalize hye : ins l k = y at *
          have HYE := Lib.hid hye
          clear hye
          generalize hn1 : lead1 l k y.jt = n1 at *
          generalize hn2 : lead1 l k y.jf = n2 at *
          clear hn1 hn2
          go_wp2_with (go_at_call 100; refine (rtests_any y HX.out _).mono ?_; rw [HT.out]; rintro e' w2 ⟨rfl, hb2⟩; have HLW2 := Lib.hid (HLW.out.below (B := wr.heap.size) (w' := w2) (Below.trans (by (repeat (first | with_reducible exact Below.refl _ _ | with_reducible assumption | ((with_reducible refine Below.setCell ?_ ?hp _); case hp => (first | omega | (simp only [World.size_alloc, World.size_setCell, World.size_drew]; omega) | (simp; done) | (simp; omega))) | ((with_reducible refine Below.alloc ?_ ?hp _); case hp => (first | omega | (simp only [World.size_alloc, World.size_setCell, World.size_drew]; omega) | (simp; done) | (simp; omega))) | with_reducible refine Below.drew ?_ | with_reducible refine below_drewN ?_ _))) (hb2.mono (by (first | omega | (simp only [World.size_alloc, World.size_setCell, World.size_drew]; omega) | (simp; done) | (simp; omega))))) (Nat.le_refl _)); have HB2 := Lib.hid hb2; (obtain ⟨hb2_c, hb2_f⟩ := bcell hb2; have hb2_z := (hb2).size; have hb2_0 : Below wr.heap.size wr _ := Below.trans (by (repeat (first | with_reducible exact Below.refl _ _ | with_reducible assumption | ((with_reducible refine Below.setCell ?_ ?hp _); case hp => (first | omega | (simp only [World.size_alloc, World.size_setCell, World.size_drew]; omega) | (simp; done) | (simp; omega))) | ((with_reducible refine Below.alloc ?_ ?hp _); case hp => (first | omega | (simp only [World.size_alloc, World.size_setCell, World.size_drew]; omega) | (simp; done) | (simp; omega))) | with_reducible refine Below.drew ?_ | with_reducible refine below_drewN ?_ _))) ((hb2).mono (by (first | omega | (simp only [World.size_alloc, World.size_setCell, World.size_drew]; omega) | (simp; done) | (simp; omega)))); (try simp only [World.size_alloc, World.size_setCell, World.size_drew] at hb2_z hb2_c hb2_f); clear hb2); (have hb2_q0 := hb2_c (wr.heap.size) 0 (by omega); simp [go_sem] at hb2_q0; have hb2_q1 := hb2_c (wr.heap.size) 1 (by omega); simp [go_sem] at hb2_q1; have hb2_q2 := hb2_c (wr.heap.size) 2 (by omega); simp [go_sem] at hb2_q2; have hb2_q3 := hb2_c (wr.heap.size) 3 (by omega); simp [go_sem] at hb2_q3))
          have i1 : (0 : Int) ≤ (k : Int) := by omega
          have i2 : (k : Int) < (l.length : Int) := by omega
          have n1' : g ≠ wr.heap.size := by omega
          have n2' : wr.heap.size ≠ g := by omega
          go_region_held3 (fun w' => w'.cell? ⟨wr.heap.size, 1, none⟩ = some (.int .u8 y.jt) ∧ w'.cell? ⟨wr.heap.size, 2, none⟩ = some (.int .u8 y.jf)) (go_keep)
            (first
              | (go_at_call_of 103 (Value.int .u8 (y.jt : Int)); refine (HL1.out _ (HLW2.out.below (by (repeat (first | with_reducible exact Below.refl _ _ | with_reducible assumption | ((with_reducible refine Below.setCell ?_ ?hp _); case hp => (first | omega | (simp only [World.size_alloc, World.size_setCell, World.size_drew]; omega) | (simp; done) | (simp; omega))) | ((with_reducible refine Below.alloc ?_ ?hp _); case hp => (first | omega | (simp only [World.size_alloc, World.size_setCell, World.size_drew]; omega) | (simp; done) | (simp; omega))) | with_reducible refine Below.drew ?_ | with_reducible refine below_drewN ?_ _))) (Nat.le_refl _))).mono ?_; rintro e' w' ⟨rfl, rfl⟩)
              | (go_at_call_of 103 (Value.int .u8 (y.jf : Int)); refine (HL2.out _ (HLW2.out.below (by (repeat (first | with_reducible exact Below.refl _ _ | with_reducible assumption | ((with_reducible refine Below.setCell ?_ ?hp _); case hp => (first | omega | (simp only [World.size_alloc, World.size_setCell, World.size_drew]; omega) | (simp; done) | (simp; omega))) | ((with_reducible refine Below.alloc ?_ ?hp _); case hp => (first | omega | (simp only [World.size_alloc, World.size_setCell, World.size_drew]; omega) | (simp; done) | (simp; omega))) | with_reducible refine Below.drew ?_ | with_reducible refine below_drewN ?_ _))) (Nat.le_refl _))).mono ?_; rintro e' w' ⟨rfl, rfl⟩))
          have HOW2 := Lib.hid (HOW.out.below (B := wr.heap.size) (w' := w2) (Below.trans (by (repeat (first | with_reducible exact Below.refl _ _ | with_reducible assumption | ((with_reducible refine Below.setCell ?_ ?hp _); case hp => (first | omega | (simp only [World.size_alloc, World.size_setCell, World.size_drew]; omega) | (simp; done) | (simp; omega))) | ((with_reducible refine Below.alloc ?_ ?hp _); case hp => (first | omega | (simp only [World.size_alloc, World.size_setCell, World.size_drew]; omega) | (simp; done) | (simp; omega))) | with_reducible refine Below.drew ?_ | with_reducible refine below_drewN ?_ _))) (HB2.out.mono (by (first | omega | (simp only [World.size_alloc, World.size_setCell, World.size_drew]; omega) | (simp; done) | (simp; omega))))) (Nat.le_refl _))
          go_wp2
          go_roundw
          case rel =>
            refine ⟨k + 1, by omega, by go_num, ?_, ?_⟩
            · have h1 := own_put1 HOW2.out k hkm n1
              have h2 := own_put2 h1 k (by simpa using hkm) n2
              rw [List.set_set, List.getElem_set_self, HMG.out] at h2
              rw [← mix_set, HM.out]
              exact h2
            · have hB := HB.out.trans ((show Below wr.heap.size wr w2 from Below.trans (by (repeat (first | with_reducible exact Below.refl _ _ | with_reducible assumption | ((with_reducible refine Below.setCell ?_ ?hp _); case hp => (first | omega | (simp only [World.size_alloc, World.size_setCell, World.size_drew]; omega) | (simp; done) | (simp; omega))) | ((with_reducible refine Below.alloc ?_ ?hp _); case hp => (first | omega | (simp only [World.size_alloc, World.size_setCell, World.size_drew]; omega) | (simp; done) | (simp; omega))) | with_reducible refine Below.drew ?_ | with_reducible refine below_drewN ?_ _))) (HB2.out.mono (by (first | omega | (simp only [World.size_alloc, World.size_setCell, World.size_drew]; omega) | (simp; done) | (simp; omega))))).mono HB.out.size)
              (repeat (first | with_reducible exact Below.refl _ _ | with_reducible assumption | ((with_reducible refine Below.setCell ?_ ?hp _); case hp => (first | omega | (simp only [World.size_alloc, World.size_setCell, World.size_drew]; omega) | (simp; done) | (simp; omega))) | ((with_reducible refine Below.alloc ?_ ?hp _); case hp => (first | omega | (simp only [World.size_alloc, World.size_setCell, World.size_drew]; omega) | (simp; done) | (simp; omega))) | with_reducible refine Below.drew ?_ | with_reducible refine below_drewN ?_ _))
          case measure => simp [intOf]; omega
        · have HT := Lib.hid (show isTest (ins l k) = false by simpa using ht)
          clear ht
          have HM := Lib.hid (leadAt_else HJ.out HT.out)
          generalize hye : ins l k = y at *
          have HYE := Lib.hid hye
          clear hye
          go_wp2_with (go_at_call 100; refine (rtests_any y HX.out _).mono ?_; rw [HT.out]; rintro e' w2 ⟨rfl, hb2⟩; have hb3 : Below wr.heap.size wr w2 := Below.trans (by (repeat (first | with_reducible exact Below.refl _ _ | with_reducible assumption | ((with_reducible refine Below.setCell ?_ ?hp _); case hp => (first | omega | (simp only [World.size_alloc, World.size_setCell, World.size_drew]; omega) | (simp; done) | (simp; omega))) | ((with_reducible refine Below.alloc ?_ ?hp _); case hp => (first | omega | (simp only [World.size_alloc, World.size_setCell, World.size_drew]; omega) | (simp; done) | (simp; omega))) | with_reducible refine Below.drew ?_ | with_reducible refine below_drewN ?_ _))) (hb2.mono (by (first | omega | (simp only [World.size_alloc, World.size_setCell, World.size_drew]; omega) | (simp; done) | (simp; omega)))); have HB2 := Lib.hid hb3; clear hb2 hb3)
          go_roundw
          case rel =>
            refine ⟨k + 1, by omega, by go_num, ?_, HB.out.trans (HB2.out.mono HB.out.size)⟩
            rw [← mix_same _ _ _ (by rw [HM.out, HYE.out])]
            exact HOW.out.below HB2.out (Nat.le_refl _)
          case measure => simp [intOf]; omega
    · have hk' : k = l.length := by omega
      subst hk'
      go_wp2
      go_ret
      exact ⟨_, _, rfl, by have := HOW.out; rw [mix_all] at this; exact this, HB.out⟩
end Go.Proofs.Ytfjbanfibmpalaa

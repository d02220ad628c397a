/- PC -/
import Derived.Test.YtfjbanfibmpalaaPB
import Derived.Deep.RegionHeld3
import Derived.Deep.DrawnRows
import Derived.Deep.QuietTactic
import Derived.BigQuiet
import Derived.Test.YtfjbanfibmpalaaKF

/- Contract: wicketgateref22.second. -/
set_option linter.unusedVariables false
set_option linter.unusedSimpArgs false
namespace Go.Proofs.Ytfjbanfibmpalaa
open Go.RowKit Go.Shelf
attribute [local go_sem ↓] Go.wp_at_zero Go.wp_at_succ

set_option maxRecDepth 100000 in
set_option maxHeartbeats 2000000 in
theorem second_any (A : Option Addr) (cap : Nat) (l : List Insn) (w : World) (hl : RdP w A l) (hg : Good l) :
    Calls Try.prog 61 #[.slice A l.length cap] w fun e w' => ∃ R c, e = .returned (.slice R l.length c) ∧ EI.Own 36 w' w.heap.size R c (leadL l) ∧ Below w.heap.size w w' := by
  have hlen := hg.len
  have HG := Lib.hid hg
  have HL := Lib.hid hl
  obtain ⟨b, o, rfl, hb, _⟩ := hl.cells (i := 0) (by omega)
  clear hg hl
  go_enter Try.func61, Try.ntmps61
  go_wp2_with (go_at_call 101; refine (copied_any _ cap l w HL.out.enc (by omega)).mono ?_; rintro e w1 ⟨R, c, rfl, ho, hb1⟩; obtain ⟨g, rfl, hg1, hg2⟩ := ho.form (by intro e; rw [e] at hlen; simp at hlen); have HO := Lib.hid ho; have HB1 := Lib.hid hb1; clear ho hb1)
  go_loopw [10] (fun i wr => ∃ k : Nat, k ≤ l.length ∧ i = .int .i64 k ∧ EI.Own 36 wr w.heap.size (some ⟨g, 0, none⟩) c (mix (leadAt l) l k) ∧ Below w.heap.size w wr) (fun i _ => l.length - (intOf i).toNat)
  case atStart => exact ⟨0, by omega, rfl, by rw [mix_zero]; exact HO.out, HB1.out⟩
  case round =>
    obtain ⟨k, hk, rfl, ho, hB⟩ := hrel
    have hgw := ho.lt.2
    have HOW := Lib.hid ho
    have HB := Lib.hid hB
    have HLW := Lib.hid (HL.out.below hB (Nat.le_refl _))
    have hbw : b < wr.heap.size := by have := hB.size; omega
    have hww : w.heap.size ≤ wr.heap.size := hB.size
    clear ho hB HO HB1 hg2
    by_cases hlt : k < l.length
    · have he := endOf_lt HG.out hlt
      obtain ⟨b1, o1, hbo, _, hcy⟩ := HLW.out.cells hlt
      cases hbo
      obtain ⟨y0, y1, y2, y3⟩ := hcy
      have hkm : k < (mix (leadAt l) l k).length := by rw [mix_len]; exact hlt
      have HX := Lib.hid (HG.out.okAt hlt)
      obtain ⟨z0, z1, z2, z3⟩ := own_iat HOW.out k hkm
      obtain ⟨f0, f1, f2, f3⟩ := own_frozen4 HOW.out k
      have HMG := Lib.hid (mix_get (leadAt l) l k hkm)
      rw [HMG.out] at z0 z1 z2 z3
      by_cases hj : isJa (ins l k) = true
      · have HJ := Lib.hid hj
        have e5 : (((ins l k).code : Int) == 5) = true := by
          have : (ins l k).code = 5 := by simpa [isJa] using hj
          rw [beq_iff_eq]; omega
        have HT := Lib.hid (ja_not_test hj)
        have HM := Lib.hid (leadAt_ja hj)
        have HEND := Lib.hid (fun W (h : RdP W (some ⟨b, o, none⟩) l) => rend_any _ cap l k W h HG.out hlt)
        have hgt := endOf_ja_gt HG.out hlt hj
        clear hj
        generalize endOf l k = e at *
        obtain ⟨m, rfl⟩ : ∃ m, e = k + 1 + m := ⟨e - k - 1, by omega⟩
        have e2 : k + 1 + m - k - 1 = m := by omega
        rw [e2] at HM
        generalize hye : ins l k = y at *
        have HYE := Lib.hid hye
        clear hye
        go_wp2_with (first
          | (go_at_call 102; refine (HEND.out _ (HLW.out.below (B := wr.heap.size) (by (repeat (first | with_reducible exact Below.refl _ _ | with_reducible assumption | ((with_reducible refine Below.setCell ?_ ?hp _); case hp => (first | omega | (simp only [World.size_alloc, World.size_setCell, World.size_drew]; omega) | (simp; done) | (simp; omega))) | ((with_reducible refine Below.alloc ?_ ?hp _); case hp => (first | omega | (simp only [World.size_alloc, World.size_setCell, World.size_drew]; omega) | (simp; done) | (simp; omega))) | with_reducible refine Below.drew ?_ | with_reducible refine below_drewN ?_ _))) (Nat.le_refl _))).mono ?_; rintro e' w' ⟨rfl, rfl⟩)
          | (go_at_call 100; refine (rtests_any y HX.out _).mono ?_; rw [HT.out]; rintro e' w2 ⟨rfl, hb2⟩; have HB2 := Lib.hid hb2; clear hb2))
        go_roundw
        case rel =>
          refine ⟨k + 1, by omega, by go_num, ?_, ?_⟩
          · have hB2 := HB2.out
            rw [show ((k : Int) + 1 + m - k - 1) = (m : Int) by omega] at hB2
            have h0 := own_put3 HOW.out k hkm m
            have h := (h0.below (B := (wr.setCell ⟨g, k * 4 + 3, none⟩ (.int .u32 m)).heap.size) (w' := (wr.setCell ⟨g, k * 4 + 3, none⟩ (.int .u32 m)).alloc (.cells #[.int .u16 y.code, .int .u8 y.jt, .int .u8 y.jf, .int .u32 y.k] 36)) (by (repeat (first | with_reducible exact Below.refl _ _ | with_reducible assumption | ((with_reducible refine Below.setCell ?_ ?hp _); case hp => (first | omega | (simp only [World.size_alloc, World.size_setCell, World.size_drew]; omega) | (simp; done) | (simp; omega))) | ((with_reducible refine Below.alloc ?_ ?hp _); case hp => (first | omega | (simp only [World.size_alloc, World.size_setCell, World.size_drew]; omega) | (simp; done) | (simp; omega))) | with_reducible refine Below.drew ?_ | with_reducible refine below_drewN ?_ _))) (Nat.le_refl _)).below hB2 (Nat.le_refl _)
            rw [HMG.out, ← HM.out, mix_set] at h
            exact h
          · have hB := HB.out
            exact Below.trans (by (repeat (first | with_reducible exact Below.refl _ _ | with_reducible assumption | ((with_reducible refine Below.setCell ?_ ?hp _); case hp => (first | omega | (simp only [World.size_alloc, World.size_setCell, World.size_drew]; omega) | (simp; done) | (simp; omega))) | ((with_reducible refine Below.alloc ?_ ?hp _); case hp => (first | omega | (simp only [World.size_alloc, World.size_setCell, World.size_drew]; omega) | (simp; done) | (simp; omega))) | with_reducible refine Below.drew ?_ | with_reducible refine below_drewN ?_ _))) (HB2.out.mono (by (first | omega | (simp only [World.size_alloc, World.size_setCell, World.size_drew]; omega) | (simp; done) | (simp; omega))))
        case measure => simp [intOf]; omega
      · have HJ := Lib.hid (show isJa (ins l k) = false by simpa using hj)
        have e5 : (((ins l k).code : Int) == 5) = false := by
          have : ¬ (ins l k).code = 5 := by simpa [isJa] using hj
          rw [beq_eq_false_iff_ne]; omega
        clear hj
        by_cases ht : isTest (ins l k) = true
        · have HT := Lib.hid ht
          have hts := HG.out.test hlt ht
          have HM := Lib.hid (leadAt_test ht)
          have HL1 := Lib.hid (fun W (h : RdP W (some ⟨b, o, none⟩) l) => leads_any _ cap l k (ins l k).jt W h HG.out hts.1)
          have HL2 := Lib.hid (fun W (h : RdP W (some ⟨b, o, none⟩) l) => leads_any _ cap l k (ins l k).jf W h HG.out hts.2)
          clear ht
          generalize hye : ins l k = y at *
          have HYE := Lib.hid hye
          clear hye
          generalize hn1 : lead1 l k y.jt = n1 at *
          generalize hn2 : lead1 l k y.jf = n2 at *
          clear hn1 hn2
          go_wp2_with (go_at_call 100; refine (rtests_any y HX.out _).mono ?_; rw [HT.out]; rintro e' w2 ⟨rfl, hb2⟩; have HLW2 := Lib.hid (HLW.out.below (B := wr.heap.size) (w' := w2) (Below.trans (by (repeat (first | with_reducible exact Below.refl _ _ | with_reducible assumption | ((with_reducible refine Below.setCell ?_ ?hp _); case hp => (first | omega | (simp only [World.size_alloc, World.size_setCell, World.size_drew]; omega) | (simp; done) | (simp; omega))) | ((with_reducible refine Below.alloc ?_ ?hp _); case hp => (first | omega | (simp only [World.size_alloc, World.size_setCell, World.size_drew]; omega) | (simp; done) | (simp; omega))) | with_reducible refine Below.drew ?_ | with_reducible refine below_drewN ?_ _))) (hb2.mono (by (first | omega | (simp only [World.size_alloc, World.size_setCell, World.size_drew]; omega) | (simp; done) | (simp; omega))))) (Nat.le_refl _)); have HB2 := Lib.hid hb2; (obtain ⟨hb2_c, hb2_f⟩ := bcell hb2; have hb2_z := (hb2).size; have hb2_0 : Below wr.heap.size wr _ := Below.trans (by (repeat (first | with_reducible exact Below.refl _ _ | with_reducible assumption | ((with_reducible refine Below.setCell ?_ ?hp _); case hp => (first | omega | (simp only [World.size_alloc, World.size_setCell, World.size_drew]; omega) | (simp; done) | (simp; omega))) | ((with_reducible refine Below.alloc ?_ ?hp _); case hp => (first | omega | (simp only [World.size_alloc, World.size_setCell, World.size_drew]; omega) | (simp; done) | (simp; omega))) | with_reducible refine Below.drew ?_ | with_reducible refine below_drewN ?_ _))) ((hb2).mono (by (first | omega | (simp only [World.size_alloc, World.size_setCell, World.size_drew]; omega) | (simp; done) | (simp; omega)))); (try simp only [World.size_alloc, World.size_setCell, World.size_drew] at hb2_z hb2_c hb2_f); clear hb2); (have hb2_q0 := hb2_c (wr.heap.size) 0 (by omega); simp [go_sem] at hb2_q0; have hb2_q1 := hb2_c (wr.heap.size) 1 (by omega); simp [go_sem] at hb2_q1; have hb2_q2 := hb2_c (wr.heap.size) 2 (by omega); simp [go_sem] at hb2_q2; have hb2_q3 := hb2_c (wr.heap.size) 3 (by omega); simp [go_sem] at hb2_q3))
          have i1 : (0 : Int) ≤ (k : Int) := by omega
          have i2 : (k : Int) < (l.length : Int) := by omega
          have n1' : g ≠ wr.heap.size := by omega
          have n2' : wr.heap.size ≠ g := by omega
          go_region_held3 (fun w' => w'.cell? ⟨wr.heap.size, 1, none⟩ = some (.int .u8 y.jt) ∧ w'.cell? ⟨wr.heap.size, 2, none⟩ = some (.int .u8 y.jf)) (go_keep)
            (first
              | (go_at_call_of 103 (Value.int .u8 (y.jt : Int)); refine (HL1.out _ (HLW2.out.below (by (repeat (first | with_reducible exact Below.refl _ _ | with_reducible assumption | ((with_reducible refine Below.setCell ?_ ?hp _); case hp => (first | omega | (simp only [World.size_alloc, World.size_setCell, World.size_drew]; omega) | (simp; done) | (simp; omega))) | ((with_reducible refine Below.alloc ?_ ?hp _); case hp => (first | omega | (simp only [World.size_alloc, World.size_setCell, World.size_drew]; omega) | (simp; done) | (simp; omega))) | with_reducible refine Below.drew ?_ | with_reducible refine below_drewN ?_ _))) (Nat.le_refl _))).mono ?_; rintro e' w' ⟨rfl, rfl⟩)
              | (go_at_call_of 103 (Value.int .u8 (y.jf : Int)); refine (HL2.out _ (HLW2.out.below (by (repeat (first | with_reducible exact Below.refl _ _ | with_reducible assumption | ((with_reducible refine Below.setCell ?_ ?hp _); case hp => (first | omega | (simp only [World.size_alloc, World.size_setCell, World.size_drew]; omega) | (simp; done) | (simp; omega))) | ((with_reducible refine Below.alloc ?_ ?hp _); case hp => (first | omega | (simp only [World.size_alloc, World.size_setCell, World.size_drew]; omega) | (simp; done) | (simp; omega))) | with_reducible refine Below.drew ?_ | with_reducible refine below_drewN ?_ _))) (Nat.le_refl _))).mono ?_; rintro e' w' ⟨rfl, rfl⟩))
          have HOW2 := Lib.hid (HOW.out.below (B := wr.heap.size) (w' := w2) (Below.trans (by (repeat (first | with_reducible exact Below.refl _ _ | with_reducible assumption | ((with_reducible refine Below.setCell ?_ ?hp _); case hp => (first | omega | (simp only [World.size_alloc, World.size_setCell, World.size_drew]; omega) | (simp; done) | (simp; omega))) | ((with_reducible refine Below.alloc ?_ ?hp _); case hp => (first | omega | (simp only [World.size_alloc, World.size_setCell, World.size_drew]; omega) | (simp; done) | (simp; omega))) | with_reducible refine Below.drew ?_ | with_reducible refine below_drewN ?_ _))) (HB2.out.mono (by (first | omega | (simp only [World.size_alloc, World.size_setCell, World.size_drew]; omega) | (simp; done) | (simp; omega))))) (Nat.le_refl _))
          go_wp2
          go_roundw
          case rel =>
            refine ⟨k + 1, by omega, by go_num, ?_, ?_⟩
            · have h1 := own_put1 HOW2.out k hkm n1
              have h2 := own_put2 h1 k (by simpa using hkm) n2
              rw [List.set_set, List.getElem_set_self, HMG.out] at h2
              rw [← mix_set, HM.out]
              exact h2
            · have hB := HB.out.trans ((show Below wr.heap.size wr w2 from Below.trans (by (repeat (first | with_reducible exact Below.refl _ _ | with_reducible assumption | ((with_reducible refine Below.setCell ?_ ?hp _); case hp => (first | omega | (simp only [World.size_alloc, World.size_setCell, World.size_drew]; omega) | (simp; done) | (simp; omega))) | ((with_reducible refine Below.alloc ?_ ?hp _); case hp => (first | omega | (simp only [World.size_alloc, World.size_setCell, World.size_drew]; omega) | (simp; done) | (simp; omega))) | with_reducible refine Below.drew ?_ | with_reducible refine below_drewN ?_ _))) (HB2.out.mono (by (first | omega | (simp only [World.size_alloc, World.size_setCell, World.size_drew]; omega) | (simp; done) | (simp; omega))))).mono HB.out.size)
              (repeat (first | with_reducible exact Below.refl _ _ | with_reducible assumption | ((with_reducible refine Below.setCell ?_ ?hp _); case hp => (first | omega | (simp only [World.size_alloc, World.size_setCell, World.size_drew]; omega) | (simp; done) | (simp; omega))) | ((with_reducible refine Below.alloc ?_ ?hp _); case hp => (first | omega | (simp only [World.size_alloc, World.size_setCell, World.size_drew]; omega) | (simp; done) | (simp; omega))) | with_reducible refine Below.drew ?_ | with_reducible refine below_drewN ?_ _))
          case measure => simp [intOf]; omega
        · have HT := Lib.hid (show isTest (ins l k) = false by simpa using ht)
          clear ht
          have HM := Lib.hid (leadAt_else HJ.out HT.out)
          generalize hye : ins l k = y at *
          have HYE := Lib.hid hye
          clear hye
          go_wp2_with (go_at_call 100; refine (rtests_any y HX.out _).mono ?_; rw [HT.out]; rintro e' w2 ⟨rfl, hb2⟩; have hb3 : Below wr.heap.size wr w2 := Below.trans (by (repeat (first | with_reducible exact Below.refl _ _ | with_reducible assumption | ((with_reducible refine Below.setCell ?_ ?hp _); case hp => (first | omega | (simp only [World.size_alloc, World.size_setCell, World.size_drew]; omega) | (simp; done) | (simp; omega))) | ((with_reducible refine Below.alloc ?_ ?hp _); case hp => (first | omega | (simp only [World.size_alloc, World.size_setCell, World.size_drew]; omega) | (simp; done) | (simp; omega))) | with_reducible refine Below.drew ?_ | with_reducible refine below_drewN ?_ _))) (hb2.mono (by (first | omega | (simp only [World.size_alloc, World.size_setCell, World.size_drew]; omega) | (simp; done) | (simp; omega)))); have HB2 := Lib.hid hb3; clear hb2 hb3)
          go_roundw
          case rel =>
            refine ⟨k + 1, by omega, by go_num, ?_, HB.out.trans (HB2.out.mono HB.out.size)⟩
            rw [← mix_same _ _ _ (by rw [HM.out, HYE.out])]
            exact HOW.out.below HB2.out (Nat.le_refl _)
          case measure => simp [intOf]; omega
    · have hk' : k = l.length := by omega
      subst hk'
      go_wp2
      go_ret
      exact ⟨_, _, rfl, by have := HOW.out; rw [mix_all] at this; exact this, HB.out⟩
end Go.Proofs.Ytfjbanfibmpalaa

/- Contracts: (prune.program).lead$1; (prune.program).lead. -/
set_option linter.unusedVariables false
set_option linter.unusedSimpArgs false
namespace Go.Proofs.Ytfjbanfibmpalaa
open Go.RowKit Go.Shelf
attribute [local go_sem ↓] Go.wp_at_zero Go.wp_at_succ

theorem RdP.drewN {w : World} {A : Option Addr} {l : List Insn} (h : RdP w A l) (m : Nat) : RdP (w.drewN m) A l :=
  h.below (B := w.heap.size) (below_drewN (Below.refl _ _) m) (Nat.le_refl _)

theorem end_quiet (A : Option Addr) (cap : Nat) (l : List Insn) (i : Nat) (w : World) (hl : RdP w A l) (hg : Good l) (hi : i < l.length) {m : Nat} :
    Calls Try.prog 135 #[.slice A l.length cap, .int .i64 i] (w.drewN m) fun e w' => e = .returned (.int .i64 (endOf l i)) ∧ ∃ m', w' = w.drewN m' :=
  (end_any A cap l (w.drewN m) (hl.drewN m) hg _ i (Nat.le_refl _) hi).mono fun _ _ ⟨he, hw⟩ => ⟨he, m, hw.symm⟩

set_option maxHeartbeats 400000 in
theorem to_any (A : Option Addr) (cap : Nat) (l : List Insn) (i d P I : Nat) (w : World) (hl : RdP w A l) (hg : Good l) (hi : i + 1 + d < l.length)
    (hP : w.cell? ⟨P, 0, none⟩ = some (.slice A l.length cap)) (hI : w.cell? ⟨I, 0, none⟩ = some (.int .i64 i)) :
    Calls Try.prog 138 #[.int .i64 d, .pointer (some ⟨P, 0, none⟩), .pointer (some ⟨I, 0, none⟩)] w fun e w' => e = .returned (.int .i64 ((endOf l (i + 1 + d) - i - 1 : Nat) : Int)) ∧ ∃ m, w' = w.drewN m := by
  have hlen := hg.len
  have h1 := endOf_lt hg hi
  have h2 := endOf_ge hg hi
  have HR := Lib.hid (fun m => end_quiet A cap l (i + 1 + d) w hl hg hi (m := m))
  clear hl hg
  generalize endOf l (i + 1 + d) = n at *
  obtain ⟨m, rfl⟩ : ∃ m, n = i + 1 + m := ⟨n - i - 1, by omega⟩
  have e2 : i + 1 + m - i - 1 = m := by omega
  rw [e2]
  have e3 : ((i + 1 + d : Nat) : Int) = (i : Int) + 1 + d := by omega
  have e4 : ((i + 1 + m : Nat) : Int) = (i : Int) + 1 + m := by omega
  rw [e3, e4] at HR
  have HE := Lib.hid e2
  clear e2 e3 e4
  go_enter Try.func138, Try.ntmps138
  go_wp2
  go_quiet ((go_at_call 135; exact HR.out _))
  go_wp2
  go_ret
  refine ⟨?_, _, rfl⟩
  show Ending.returned (Value.int _ _) = _
  congr 2
  first | rfl | omega
end Go.Proofs.Ytfjbanfibmpalaa

/- Contract: (prune.program).lead. -/
set_option linter.unusedVariables false
set_option linter.unusedSimpArgs false
namespace Go.Proofs.Ytfjbanfibmpalaa
open Go.RowKit Go.Shelf
attribute [local go_sem ↓] Go.wp_at_zero Go.wp_at_succ

set_option maxRecDepth 100000 in
set_option maxHeartbeats 2000000 in
theorem lead_any (A : Option Addr) (cap : Nat) (l : List Insn) (w : World) (hl : RdP w A l) (hg : Good l) :
    Calls Try.prog 93 #[.slice A l.length cap] w fun e w' => ∃ R c, e = .returned (.slice R l.length c) ∧ EI.Own 36 w' w.heap.size R c (leadL l) ∧ Below w.heap.size w w' := by
  have hlen := hg.len
  have HG := Lib.hid hg
  have HL := Lib.hid hl
  obtain ⟨b, o, rfl, hb, _⟩ := hl.cells (i := 0) (by omega)
  obtain ⟨W0, hW0⟩ : ∃ W0, W0 = w.alloc (.cells #[.slice (some ⟨b, o, none⟩) l.length cap] 146) := ⟨_, rfl⟩
  have hs0 : W0.heap.size = w.heap.size + 1 := by rw [hW0]; simp
  have HP0 := Lib.hid (show W0.heap[w.heap.size]? = some (.cells #[.slice (some ⟨b, o, none⟩) l.length cap] 146 (0, 0)) by rw [hW0]; exact heap_alloc_new w _)
  have HB0 := Lib.hid (show Below w.heap.size w W0 by rw [hW0]; (repeat (first | with_reducible exact Below.refl _ _ | with_reducible assumption | ((with_reducible refine Below.setCell ?_ ?hp _); case hp => (first | omega | (simp only [World.size_alloc, World.size_setCell, World.size_drew]; omega) | (simp; done) | (simp; omega))) | ((with_reducible refine Below.alloc ?_ ?hp _); case hp => (first | omega | (simp only [World.size_alloc, World.size_setCell, World.size_drew]; omega) | (simp; done) | (simp; omega))) | with_reducible refine Below.drew ?_ | with_reducible refine below_drewN ?_ _)))
  have HL0 := Lib.hid (hl.below HB0.out (Nat.le_refl _))
  have HW0 := Lib.hid hW0
  clear hg hl hW0
  go_enter Try.func93, Try.ntmps93
  go_wp2_with (go_at_call 134; rw [← HW0.out]; refine (clonep_any _ cap l W0 HL0.out.enc (by omega)).mono ?_; rintro e w1 ⟨R, c, rfl, ho, hb1⟩; obtain ⟨g, rfl, hg1, hg2⟩ := ho.form (by intro e; rw [e] at hlen; simp at hlen); have HO := Lib.hid ho; have HB1 := Lib.hid hb1; have hp1 : w1.cell? ⟨w.heap.size, 0, none⟩ = some (.slice (some ⟨b, o, none⟩) l.length cap) := cell_of_row _ _ _ _ _ _ ((hb1.block w.heap.size (by omega)).trans HP0.out); clear ho hb1)
  generalize hPP : w.heap.size = P at *
  go_loopw [14] (fun i wr => ∃ k : Nat, k ≤ l.length ∧ i = .int .i64 k ∧ EI.Own 36 wr W0.heap.size (some ⟨g, 0, none⟩) c (mix (leadAt l) l k) ∧ Below W0.heap.size W0 wr) (fun i _ => l.length - (intOf i).toNat)
  case atStart => exact ⟨0, by omega, rfl, by rw [mix_zero]; exact HO.out, HB1.out⟩
  case round =>
    obtain ⟨k, hk, rfl, ho, hB⟩ := hrel
    have hgw := ho.lt.2
    have HOW := Lib.hid ho
    have HB := Lib.hid hB
    have HLW := Lib.hid (HL0.out.below (hB.mono (Nat.le_refl _)) (Nat.le_refl _))
    have hbw : b < wr.heap.size := by have := hB.size; omega
    have hPw : P < wr.heap.size := by have := hB.size; omega
    have hpc : wr.cell? ⟨P, 0, none⟩ = some (.slice (some ⟨b, o, none⟩) l.length cap) := cell_of_row _ _ _ _ _ _ ((hB.block P (by omega)).trans HP0.out)
    have hpf : wr.frozen? ⟨P, 0, none⟩ = false := by simp [World.frozen?, (hB.block P (by omega)).trans HP0.out]
    have hww : W0.heap.size ≤ wr.heap.size := hB.size
    clear ho hB HO HB1 hg2 hp1
    by_cases hlt : k < l.length
    · obtain ⟨b1, o1, hbo, _, hcy⟩ := HLW.out.cells hlt
      cases hbo
      obtain ⟨y0, y1, y2, y3⟩ := hcy
      have hkm : k < (mix (leadAt l) l k).length := by rw [mix_len]; exact hlt
      have HX := Lib.hid (HG.out.okAt hlt)
      obtain ⟨z0, z1, z2, z3⟩ := own_iat HOW.out k hkm
      obtain ⟨f0, f1, f2, f3⟩ := own_frozen4 HOW.out k
      have HMG := Lib.hid (mix_get (leadAt l) l k hkm)
      rw [HMG.out] at z0 z1 z2 z3
      have i1 : (0 : Int) ≤ (k : Int) := by omega
      have i2 : (k : Int) < (l.length : Int) := by omega
      have n1' : g ≠ wr.heap.size := by omega
      have n2' : wr.heap.size ≠ g := by omega
      have n3' : g ≠ wr.heap.size + 1 := by omega
      have n4' : wr.heap.size + 1 ≠ g := by omega
      by_cases hj : isJa (ins l k) = true
      · have HJ := Lib.hid hj
        have HM := Lib.hid (leadAt_ja hj)
        have hja := HG.out.ja hlt hj
        have HTO := Lib.hid (fun P I W (h : RdP W (some ⟨b, o, none⟩) l) => to_any _ cap l k (ins l k).k P I W h HG.out hja.1)
        have hgt := endOf_ja_gt HG.out hlt hj
        rw [← endOf_ja HG.out hlt hj] at HTO
        clear hj
        have hel := endOf_lt HG.out hlt
        generalize endOf l k = e at *
        obtain ⟨m, rfl⟩ : ∃ m, e = k + 1 + m := ⟨e - k - 1, by omega⟩
        have e2 : k + 1 + m - k - 1 = m := by omega
        rw [e2] at HM HTO
        generalize hye : ins l k = y at *
        have HYE := Lib.hid hye
        clear hye
        go_wp2_with (go_at_call 136; refine (jumps_any _ cap l k _ (HLW.out.below (B := wr.heap.size) (by (repeat (first | with_reducible exact Below.refl _ _ | with_reducible assumption | ((with_reducible refine Below.setCell ?_ ?hp _); case hp => (first | omega | (simp only [World.size_alloc, World.size_setCell, World.size_drew]; omega) | (simp; done) | (simp; omega))) | ((with_reducible refine Below.alloc ?_ ?hp _); case hp => (first | omega | (simp only [World.size_alloc, World.size_setCell, World.size_drew]; omega) | (simp; done) | (simp; omega))) | with_reducible refine Below.drew ?_ | with_reducible refine below_drewN ?_ _))) (Nat.le_refl _)) hlt).mono ?_; rw [HYE.out, HJ.out]; rintro e' w' ⟨rfl, rfl⟩)
        have c1 : ((wr.alloc (.cells #[.int .i64 k] 3)).alloc (.cells #[.int .u16 y.code, .int .u8 y.jt, .int .u8 y.jf, .int .u32 y.k] 36)).cell? ⟨wr.heap.size, 0, none⟩ = some (.int .i64 k) := by simp [go_sem]
        have c2 : ((wr.alloc (.cells #[.int .i64 k] 3)).alloc (.cells #[.int .u16 y.code, .int .u8 y.jt, .int .u8 y.jf, .int .u32 y.k] 36)).cell? ⟨wr.heap.size + 1, 3, none⟩ = some (.int .u32 y.k) := by simp [go_sem]
        have HB2 := Lib.hid (show Below wr.heap.size wr ((wr.alloc (.cells #[.int .i64 k] 3)).alloc (.cells #[.int .u16 y.code, .int .u8 y.jt, .int .u8 y.jf, .int .u32 y.k] 36)) by (repeat (first | with_reducible exact Below.refl _ _ | with_reducible assumption | ((with_reducible refine Below.setCell ?_ ?hp _); case hp => (first | omega | (simp only [World.size_alloc, World.size_setCell, World.size_drew]; omega) | (simp; done) | (simp; omega))) | ((with_reducible refine Below.alloc ?_ ?hp _); case hp => (first | omega | (simp only [World.size_alloc, World.size_setCell, World.size_drew]; omega) | (simp; done) | (simp; omega))) | with_reducible refine Below.drew ?_ | with_reducible refine below_drewN ?_ _)))
        generalize (wr.alloc (.cells #[.int .i64 k] 3)).alloc (.cells #[.int .u16 y.code, .int .u8 y.jt, .int .u8 y.jf, .int .u32 y.k] 36) = W2 at *
        have HLW2 := Lib.hid (HLW.out.below HB2.out (Nat.le_refl _))
        have d3 := ((bcell HB2.out).1 g (k * 4 + 3) hgw).trans z3
        have f3' := ((bcell HB2.out).2 g (k * 4 + 3) hgw).trans f3
        have p3 := ((bcell HB2.out).1 P 0 hPw).trans hpc
        have HC := Lib.hid (fun (n : Nat) => Calls.quiet_of (HTO.out P wr.heap.size (W2.drewN n) (HLW2.out.drewN n) p3 c1))
        have hgs : g < W2.heap.size := by have := HB2.out.size; omega
        clear HLW2 y0 y1 y2 y3 z0 z1 z2 z3 f0 f1 f2 f3 hpc hpf
        refine region_quiet_tail 8 (by kernel_rfl) (by kernel_rfl) ?_
        simp only [List.take_succ_cons, List.take_zero, List.drop_succ_cons, List.drop_zero]
        repeat (go_big_quiet_step ((go_at_call 138; exact HC.out _)))
        refine wpQuiet_nil ?_
        intro nq
        go_wp2
        go_roundw
        case rel =>
          refine ⟨k + 1, by omega, by go_num, ?_, by have hB := HB.out; have hB2 := HB2.out; exact Below.trans hB ((below_drewN hB2 nq).mono hww |>.setCell (by simp; omega) _)⟩
          have h0 := (HOW.out.below HB2.out (Nat.le_refl _)).below (below_drewN (Below.refl _ _) nq) (Nat.le_refl _)
          have h := own_put3 h0 k hkm m
          rw [HMG.out, ← HM.out, mix_set] at h
          exact h
        case measure => simp [intOf]; omega
      · have HJ := Lib.hid (show isJa (ins l k) = false by simpa using hj)
        clear hj
        by_cases ht : isTest (ins l k) = true
        · have HT := Lib.hid ht
          have hts := HG.out.test hlt ht
          have HM := Lib.hid (leadAt_test ht)
          have HTO1 := Lib.hid (fun P I W (h : RdP W (some ⟨b, o, none⟩) l) => to_any _ cap l k (ins l k).jt P I W h HG.out hts.1)
          have HTO2 := Lib.hid (fun P I W (h : RdP W (some ⟨b, o, none⟩) l) => to_any _ cap l k (ins l k).jf P I W h HG.out hts.2)
          have q1 := endOf_lt HG.out hts.1
          have q2 := endOf_lt HG.out hts.2
          clear ht
          rw [← lead1_eq HG.out k _ hts.1] at HTO1
          rw [← lead1_eq HG.out k _ hts.2] at HTO2
          have r1 := lead1_lt HG.out k _ hts.1
          have r2 := lead1_lt HG.out k _ hts.2
          have HX := Lib.hid (HG.out.okAt hlt)
          clear q1 q2
          generalize hye : ins l k = y at *
          have HYE := Lib.hid hye
          clear hye
          generalize hn1 : lead1 l k y.jt = n1 at *
          generalize hn2 : lead1 l k y.jf = n2 at *
          clear hn1 hn2
          go_wp2_with (first
            | (go_at_call 136; refine (jumps_any _ cap l k _ (HLW.out.below (B := wr.heap.size) (by (repeat (first | with_reducible exact Below.refl _ _ | with_reducible assumption | ((with_reducible refine Below.setCell ?_ ?hp _); case hp => (first | omega | (simp only [World.size_alloc, World.size_setCell, World.size_drew]; omega) | (simp; done) | (simp; omega))) | ((with_reducible refine Below.alloc ?_ ?hp _); case hp => (first | omega | (simp only [World.size_alloc, World.size_setCell, World.size_drew]; omega) | (simp; done) | (simp; omega))) | with_reducible refine Below.drew ?_ | with_reducible refine below_drewN ?_ _))) (Nat.le_refl _)) hlt).mono ?_; rw [HYE.out, HJ.out]; rintro e' w' ⟨rfl, rfl⟩)
            | (go_at_call 139; refine (tests_at _ cap l k _ (HLW.out.below (B := wr.heap.size) (by (repeat (first | with_reducible exact Below.refl _ _ | with_reducible assumption | ((with_reducible refine Below.setCell ?_ ?hp _); case hp => (first | omega | (simp only [World.size_alloc, World.size_setCell, World.size_drew]; omega) | (simp; done) | (simp; omega))) | ((with_reducible refine Below.alloc ?_ ?hp _); case hp => (first | omega | (simp only [World.size_alloc, World.size_setCell, World.size_drew]; omega) | (simp; done) | (simp; omega))) | with_reducible refine Below.drew ?_ | with_reducible refine below_drewN ?_ _))) (Nat.le_refl _)) hlt).mono ?_; rw [HYE.out, HT.out]; rintro e' w2 ⟨rfl, hb2⟩; have HB2 := Lib.hid (Below.trans (show Below wr.heap.size wr _ by (repeat (first | with_reducible exact Below.refl _ _ | with_reducible assumption | ((with_reducible refine Below.setCell ?_ ?hp _); case hp => (first | omega | (simp only [World.size_alloc, World.size_setCell, World.size_drew]; omega) | (simp; done) | (simp; omega))) | ((with_reducible refine Below.alloc ?_ ?hp _); case hp => (first | omega | (simp only [World.size_alloc, World.size_setCell, World.size_drew]; omega) | (simp; done) | (simp; omega))) | with_reducible refine Below.drew ?_ | with_reducible refine below_drewN ?_ _))) (hb2.mono (by (first | omega | (simp only [World.size_alloc, World.size_setCell, World.size_drew]; omega) | (simp; done) | (simp; omega))))); have c1 : w2.cell? ⟨wr.heap.size, 0, none⟩ = some (.int .i64 k) := ((bcell hb2).1 wr.heap.size 0 (by (first | omega | (simp only [World.size_alloc, World.size_setCell, World.size_drew]; omega) | (simp; done) | (simp; omega)))).trans (by simp [go_sem]); have hwz : wr.heap.size + 1 < w2.heap.size := (by have := hb2.size; simp at this; omega); clear hb2))
          have d1 := ((bcell HB2.out).1 g (k * 4 + 1) hgw).trans z1
          have d2 := ((bcell HB2.out).1 g (k * 4 + 2) hgw).trans z2
          have f1' := ((bcell HB2.out).2 g (k * 4 + 1) hgw).trans f1
          have f2' := ((bcell HB2.out).2 g (k * 4 + 2) hgw).trans f2
          have p3 := ((bcell HB2.out).1 P 0 hPw).trans hpc
          have HLW2 := Lib.hid (HLW.out.below HB2.out (Nat.le_refl _))
          have HOW2 := Lib.hid (HOW.out.below HB2.out (Nat.le_refl _))
          clear y0 y1 y2 y3 z0 z1 z2 z3 f0 f1 f2 f3 hpc hpf
          go_region_held3 (fun w' => w'.cell? ⟨wr.heap.size, 0, none⟩ = some (.int .i64 k)) (go_keep) (fail)
          have a0 : ((w2.alloc (.cells #[.pointer (some ⟨g, k * 4 + 1, none⟩), .pointer (some ⟨g, k * 4 + 2, none⟩)] 172)).drew).cell? ⟨w2.heap.size, 0, none⟩ = some (.pointer (some ⟨g, k * 4 + 1, none⟩)) := by simp [go_sem]
          have a1 : ((w2.alloc (.cells #[.pointer (some ⟨g, k * 4 + 1, none⟩), .pointer (some ⟨g, k * 4 + 2, none⟩)] 172)).drew).cell? ⟨w2.heap.size, 1, none⟩ = some (.pointer (some ⟨g, k * 4 + 2, none⟩)) := by simp [go_sem]
          have HB3 := Lib.hid (show Below w2.heap.size w2 ((w2.alloc (.cells #[.pointer (some ⟨g, k * 4 + 1, none⟩), .pointer (some ⟨g, k * 4 + 2, none⟩)] 172)).drew) by (repeat (first | with_reducible exact Below.refl _ _ | with_reducible assumption | ((with_reducible refine Below.setCell ?_ ?hp _); case hp => (first | omega | (simp only [World.size_alloc, World.size_setCell, World.size_drew]; omega) | (simp; done) | (simp; omega))) | ((with_reducible refine Below.alloc ?_ ?hp _); case hp => (first | omega | (simp only [World.size_alloc, World.size_setCell, World.size_drew]; omega) | (simp; done) | (simp; omega))) | with_reducible refine Below.drew ?_ | with_reducible refine below_drewN ?_ _)))
          have z3 : ((w2.alloc (.cells #[.pointer (some ⟨g, k * 4 + 1, none⟩), .pointer (some ⟨g, k * 4 + 2, none⟩)] 172)).drew).heap.size = w2.heap.size + 1 := by simp
          generalize (w2.alloc (.cells #[.pointer (some ⟨g, k * 4 + 1, none⟩), .pointer (some ⟨g, k * 4 + 2, none⟩)] 172)).drew = W3 at *
          have hg2 : g < w2.heap.size := by omega
          have hw2 : wr.heap.size < w2.heap.size := by omega
          have hP2 : P < w2.heap.size := by omega
          have d1' := ((bcell HB3.out).1 g (k * 4 + 1) hg2).trans d1
          have d2' := ((bcell HB3.out).1 g (k * 4 + 2) hg2).trans d2
          have f1'' := ((bcell HB3.out).2 g (k * 4 + 1) hg2).trans f1'
          have f2'' := ((bcell HB3.out).2 g (k * 4 + 2) hg2).trans f2'
          have p3' := ((bcell HB3.out).1 P 0 hP2).trans p3
          have c1' := ((bcell HB3.out).1 wr.heap.size 0 hw2).trans c1
          have HLW3 := Lib.hid (HLW2.out.below HB3.out (Nat.le_refl _))
          have HOW3 := Lib.hid (HOW2.out.below HB3.out (Nat.le_refl _))
          have m1 : w2.heap.size ≠ g := by omega
          have m2 : P ≠ g := by omega
          have e1 : ((n1 : Int) ≤ 255) := by omega
          have e2 : ((n2 : Int) ≤ 255) := by omega
          have e1' : (0 : Int) ≤ (n1 : Int) := by omega
          have e2' : (0 : Int) ≤ (n2 : Int) := by omega
          clear d1 d2 f1' f2' p3 c1
          go_wp2
          refine wp_loop_rounds 3 ?_
          rw [rounds_succ]
          go_wp2_with (go_at_call 138; refine (HTO1.out P wr.heap.size W3 HLW3.out p3' c1').mono ?_; rintro e' w' ⟨rfl, m, rfl⟩)
          have HB4 := Lib.hid (show Below W0.heap.size w2 ((W3.drewN m).setCell ⟨g, k * 4 + 1, none⟩ (.int .u8 n1)) from (below_drewN (HB3.out.mono (by omega)) m).setCell (by simp; omega) _)
          have HOW4 := Lib.hid (own_put1 (HOW3.out.below (below_drewN (Below.refl _ _) m) (Nat.le_refl _)) k hkm n1)
          have HLW4 := Lib.hid (HL0.out.below ((HB.out.trans (HB2.out.mono hww)).trans HB4.out) (Nat.le_refl _))
          have b1 : ((W3.drewN m).setCell ⟨g, k * 4 + 1, none⟩ (.int .u8 n1)).cell? ⟨g, k * 4 + 2, none⟩ = some (.int .u8 y.jf) := by simp [go_sem, d2']
          have b2 : ((W3.drewN m).setCell ⟨g, k * 4 + 1, none⟩ (.int .u8 n1)).frozen? ⟨g, k * 4 + 2, none⟩ = false := by simp [go_sem, f2'']
          have b3 : ((W3.drewN m).setCell ⟨g, k * 4 + 1, none⟩ (.int .u8 n1)).cell? ⟨P, 0, none⟩ = some (.slice (some ⟨b, o, none⟩) l.length cap) := by simp [go_sem, p3', m2]
          have b4 : ((W3.drewN m).setCell ⟨g, k * 4 + 1, none⟩ (.int .u8 n1)).cell? ⟨wr.heap.size, 0, none⟩ = some (.int .i64 k) := by simp [go_sem, c1', n2']
          have b5 : ((W3.drewN m).setCell ⟨g, k * 4 + 1, none⟩ (.int .u8 n1)).cell? ⟨w2.heap.size, 1, none⟩ = some (.pointer (some ⟨g, k * 4 + 2, none⟩)) := by simp [go_sem, a1, m1]
          generalize (W3.drewN m).setCell ⟨g, k * 4 + 1, none⟩ (.int .u8 n1) = W4 at *
          clear a0 a1 d1' d2' f1'' f2'' p3' c1'
          rw [rounds_succ]
          go_wp2_with (go_at_call 138; refine (HTO2.out P wr.heap.size W4 HLW4.out b3 b4).mono ?_; rintro e' w' ⟨rfl, m', rfl⟩)
          rw [rounds_succ]
          go_wp2
          go_roundw
          case rel =>
            refine ⟨k + 1, by omega, by go_num, ?_, ?_⟩
            · have h2 := own_put2 (HOW4.out.below (below_drewN (Below.refl _ _) m') (Nat.le_refl _)) k (by simpa using hkm) n2
              rw [List.set_set, List.getElem_set_self, HMG.out] at h2
              rw [← mix_set, HM.out]
              exact h2
            · have hB := HB.out
              exact Below.trans (hB.trans (HB2.out.mono hww)) ((below_drewN HB4.out m').setCell (by simp; omega) _)
          case measure => simp [intOf]; omega
        · have HT := Lib.hid (show isTest (ins l k) = false by simpa using ht)
          clear ht
          have HM := Lib.hid (leadAt_else HJ.out HT.out)
          go_wp2_with (first
            | (go_at_call 136; refine (jumps_any _ cap l k _ (HLW.out.below (B := wr.heap.size) (by (repeat (first | with_reducible exact Below.refl _ _ | with_reducible assumption | ((with_reducible refine Below.setCell ?_ ?hp _); case hp => (first | omega | (simp only [World.size_alloc, World.size_setCell, World.size_drew]; omega) | (simp; done) | (simp; omega))) | ((with_reducible refine Below.alloc ?_ ?hp _); case hp => (first | omega | (simp only [World.size_alloc, World.size_setCell, World.size_drew]; omega) | (simp; done) | (simp; omega))) | with_reducible refine Below.drew ?_ | with_reducible refine below_drewN ?_ _))) (Nat.le_refl _)) hlt).mono ?_; rw [HJ.out]; rintro e' w' ⟨rfl, rfl⟩)
            | (go_at_call 139; refine (tests_at _ cap l k _ (HLW.out.below (B := wr.heap.size) (by (repeat (first | with_reducible exact Below.refl _ _ | with_reducible assumption | ((with_reducible refine Below.setCell ?_ ?hp _); case hp => (first | omega | (simp only [World.size_alloc, World.size_setCell, World.size_drew]; omega) | (simp; done) | (simp; omega))) | ((with_reducible refine Below.alloc ?_ ?hp _); case hp => (first | omega | (simp only [World.size_alloc, World.size_setCell, World.size_drew]; omega) | (simp; done) | (simp; omega))) | with_reducible refine Below.drew ?_ | with_reducible refine below_drewN ?_ _))) (Nat.le_refl _)) hlt).mono ?_; rw [HT.out]; rintro e' w2 ⟨rfl, hb2⟩; have HB2 := Lib.hid (Below.trans (show Below wr.heap.size wr _ by (repeat (first | with_reducible exact Below.refl _ _ | with_reducible assumption | ((with_reducible refine Below.setCell ?_ ?hp _); case hp => (first | omega | (simp only [World.size_alloc, World.size_setCell, World.size_drew]; omega) | (simp; done) | (simp; omega))) | ((with_reducible refine Below.alloc ?_ ?hp _); case hp => (first | omega | (simp only [World.size_alloc, World.size_setCell, World.size_drew]; omega) | (simp; done) | (simp; omega))) | with_reducible refine Below.drew ?_ | with_reducible refine below_drewN ?_ _))) (hb2.mono (by (first | omega | (simp only [World.size_alloc, World.size_setCell, World.size_drew]; omega) | (simp; done) | (simp; omega))))); clear hb2))
          go_roundw
          case rel =>
            refine ⟨k + 1, by omega, by go_num, ?_, HB.out.trans (HB2.out.mono hww)⟩
            rw [← mix_same _ _ _ HM.out]
            exact HOW.out.below HB2.out (Nat.le_refl _)
          case measure => simp [intOf]; omega
    · have hk' : k = l.length := by omega
      subst hk'
      go_wp2
      go_ret
      exact ⟨_, _, rfl, by have := HOW.out; rw [mix_all] at this; exact this.mono (by omega), by have h := HB0.out.trans (HB.out.mono (by omega)); rw [← hPP] at h; exact h⟩
end Go.Proofs.Ytfjbanfibmpalaa

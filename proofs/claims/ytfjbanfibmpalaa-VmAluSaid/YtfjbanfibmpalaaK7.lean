/- Contracts of the two Check functions. -/
import Derived.Test.YtfjbanfibmpalaaK5
import Derived.Test.YtfjbanfibmpalaaK6
import Derived.Deep.QuietTactic
import Derived.BigQuiet
set_option linter.unusedVariables false
set_option linter.unusedSimpArgs false
namespace Go.Proofs.Ytfjbanfibmpalaa
open Go.RowKit

set_option maxHeartbeats 400000 in
theorem rcheck_any (A : Option Addr) (cap : Nat) (l : List Insn) (w : World) (hl : RdP w A l) :
    Calls Try.prog 21 #[.slice A l.length cap] w fun e w' => e = .returned (.tuple #[.int .i64 (check l).1, .int .i64 (check l).2]) ∧ Below w.heap.size w w' := by
  by_cases hsz : l.length < 1 ∨ 64 < l.length
  · have hC := Lib.hid (show check l = (0, 140) by unfold check; rw [if_pos hsz])
    have hsm := hl.small
    go_enter Try.func21, Try.ntmps21
    go_wp2
    all_goals
      go_ret2
      exact ⟨by rw [hC.out]; rfl, Below.refl _ _⟩
  · have hn1 : 1 ≤ l.length := by omega
    have hn2 : l.length ≤ 64 := by omega
    obtain ⟨b, o, rfl, hb, hcells⟩ := hl.get (i := 0) (by omega)
    have hok := hl.ok
    have HCell := Lib.hid hcells
    have HOk := Lib.hid hok
    clear hcells hok hsz hl
    go_enter Try.func21, Try.ntmps21
    go_wp2
    go_loopw [18] (fun i wr => ∃ k : Nat, k ≤ l.length ∧ i = .int .i64 k ∧ (∀ j (h : j < l.length), j < k → one (l[j]'h) j l.length = 0) ∧ Below w.heap.size w wr) (fun i _ => l.length - (intOf i).toNat)
    case atStart => exact ⟨0, by omega, rfl, fun j _ h => absurd h (by omega), Below.refl _ _⟩
    case round =>
      obtain ⟨k, hk, rfl, hones, hB⟩ := hrel
      have HO := Lib.hid hones
      clear hones
      by_cases hlt : k < l.length
      · have hI := (HCell.out k hlt).keep (fun o => hB.cell (p := ⟨b, o, none⟩) hb)
        have hx := HOk.out _ (List.getElem_mem hlt)
        have hxe := Lib.hid (show l[k] = l[k] from rfl)
        generalize hx0 : l[k] = x at *
        have HX := Lib.hid hx0
        clear hx0 hxe
        obtain ⟨h0, h1, h2, h3⟩ := hI
        have hsz1 := hB.size
        by_cases h1 : one x k l.length = 0
        · have e1 : (one x k l.length != 0) = false := by rw [bne_eq_false_iff_eq]; exact h1
          have HO1 := Lib.hid h1
          clear h1
          go_wp2_with (go_at_call 57; refine (rone_any x hx k l.length _ (by omega) (by omega)).mono ?_; rintro e w' ⟨rfl, hb1⟩; (obtain ⟨hb1_c, hb1_f⟩ := bcell hb1; have hb1_z := (hb1).size; have hb1_0 : Below w.heap.size w _ := Below.trans (by (repeat (first | with_reducible exact Below.refl _ _ | with_reducible assumption | ((with_reducible refine Below.setCell ?_ ?hp _); case hp => (first | omega | (simp only [World.size_alloc, World.size_setCell, World.size_drew]; omega) | (simp; done) | (simp; omega))) | ((with_reducible refine Below.alloc ?_ ?hp _); case hp => (first | omega | (simp only [World.size_alloc, World.size_setCell, World.size_drew]; omega) | (simp; done) | (simp; omega))) | with_reducible refine Below.drew ?_ | with_reducible refine below_drewN ?_ _))) ((hb1).mono (by (first | omega | (simp only [World.size_alloc, World.size_setCell, World.size_drew]; omega) | (simp; done) | (simp; omega)))); (try simp only [World.size_alloc, World.size_setCell, World.size_drew] at hb1_z hb1_c hb1_f); clear hb1))
          go_roundw
          case rel =>
            refine ⟨k + 1, by omega, by go_num, fun j hj hjk => ?_, by assumption⟩
            by_cases hjk' : j = k
            · subst hjk'; rw [HX.out]; exact HO1.out
            · exact HO.out j hj (by omega)
          case measure => simp [intOf]; omega
        · have e1 : (one x k l.length != 0) = true := by rw [bne_iff_ne]; exact h1
          have HC := Lib.hid (check_bad l hn1 hn2 k hlt HO.out (by rw [HX.out]; exact h1))
          clear h1
          go_wp2_with (go_at_call 57; refine (rone_any x hx k l.length _ (by omega) (by omega)).mono ?_; rintro e w' ⟨rfl, hb1⟩; (obtain ⟨hb1_c, hb1_f⟩ := bcell hb1; have hb1_z := (hb1).size; have hb1_0 : Below w.heap.size w _ := Below.trans (by (repeat (first | with_reducible exact Below.refl _ _ | with_reducible assumption | ((with_reducible refine Below.setCell ?_ ?hp _); case hp => (first | omega | (simp only [World.size_alloc, World.size_setCell, World.size_drew]; omega) | (simp; done) | (simp; omega))) | ((with_reducible refine Below.alloc ?_ ?hp _); case hp => (first | omega | (simp only [World.size_alloc, World.size_setCell, World.size_drew]; omega) | (simp; done) | (simp; omega))) | with_reducible refine Below.drew ?_ | with_reducible refine below_drewN ?_ _))) ((hb1).mono (by (first | omega | (simp only [World.size_alloc, World.size_setCell, World.size_drew]; omega) | (simp; done) | (simp; omega)))); (try simp only [World.size_alloc, World.size_setCell, World.size_drew] at hb1_z hb1_c hb1_f); clear hb1))
          go_ret2
          exact ⟨by rw [HC.out, HX.out]; rfl, by assumption⟩
      · have hke : k = l.length := by omega
        have HC := Lib.hid (check_good l hn1 hn2 (fun j hj => HO.out j hj (by omega)))
        have hI := (HCell.out (l.length - 1) (by omega)).keep (fun o => hB.cell (p := ⟨b, o, none⟩) hb)
        generalize hx0 : l[l.length - 1] = x at *
        clear hx0
        have hsz1 := hB.size
        subst hke
        obtain ⟨h0, h1, h2, h3⟩ := hI
        by_cases hr : isRet x.code = true
        · have hr1 := Lib.hid hr
          go_wp2_with (go_at_call 58; refine (rreturns_any x.code x.jt x.jf x.k _).mono ?_; rw [hr1.out]; rintro e w' ⟨rfl, hb1⟩; (obtain ⟨hb1_c, hb1_f⟩ := bcell hb1; have hb1_z := (hb1).size; have hb1_0 : Below w.heap.size w _ := Below.trans (by (repeat (first | with_reducible exact Below.refl _ _ | with_reducible assumption | ((with_reducible refine Below.setCell ?_ ?hp _); case hp => (first | omega | (simp only [World.size_alloc, World.size_setCell, World.size_drew]; omega) | (simp; done) | (simp; omega))) | ((with_reducible refine Below.alloc ?_ ?hp _); case hp => (first | omega | (simp only [World.size_alloc, World.size_setCell, World.size_drew]; omega) | (simp; done) | (simp; omega))) | with_reducible refine Below.drew ?_ | with_reducible refine below_drewN ?_ _))) ((hb1).mono (by (first | omega | (simp only [World.size_alloc, World.size_setCell, World.size_drew]; omega) | (simp; done) | (simp; omega)))); (try simp only [World.size_alloc, World.size_setCell, World.size_drew] at hb1_z hb1_c hb1_f); clear hb1))
          go_ret2
          exact ⟨by rw [HC.out, if_pos hr]; rfl, by assumption⟩
        · have hr' : isRet x.code = false := by simpa using hr
          clear hr
          have hr1 := Lib.hid hr'
          go_wp2_with (go_at_call 58; refine (rreturns_any x.code x.jt x.jf x.k _).mono ?_; rw [hr1.out]; rintro e w' ⟨rfl, hb1⟩; (obtain ⟨hb1_c, hb1_f⟩ := bcell hb1; have hb1_z := (hb1).size; have hb1_0 : Below w.heap.size w _ := Below.trans (by (repeat (first | with_reducible exact Below.refl _ _ | with_reducible assumption | ((with_reducible refine Below.setCell ?_ ?hp _); case hp => (first | omega | (simp only [World.size_alloc, World.size_setCell, World.size_drew]; omega) | (simp; done) | (simp; omega))) | ((with_reducible refine Below.alloc ?_ ?hp _); case hp => (first | omega | (simp only [World.size_alloc, World.size_setCell, World.size_drew]; omega) | (simp; done) | (simp; omega))) | with_reducible refine Below.drew ?_ | with_reducible refine below_drewN ?_ _))) ((hb1).mono (by (first | omega | (simp only [World.size_alloc, World.size_setCell, World.size_drew]; omega) | (simp; done) | (simp; omega)))); (try simp only [World.size_alloc, World.size_setCell, World.size_drew] at hb1_z hb1_c hb1_f); clear hb1))
          go_ret2
          exact ⟨by rw [HC.out, if_neg (by rw [hr']; simp)]; rfl, by assumption⟩
set_option maxHeartbeats 400000 in
theorem check_any (A : Option Addr) (cap : Nat) (l : List Insn) (w : World) (hl : RdP w A l) :
    Calls Try.prog 27 #[.slice A l.length cap] w fun e w' => e = .returned (.tuple #[.int .i64 (check l).1, .int .i64 (check l).2]) ∧ Below w.heap.size w w' := by
  by_cases hsz : l.length < 1 ∨ 64 < l.length
  · have hC := Lib.hid (show check l = (0, 140) by unfold check; rw [if_pos hsz])
    have hsm := hl.small
    go_enter Try.func27, Try.ntmps27
    go_wp2
    all_goals
      go_ret2
      exact ⟨by rw [hC.out]; rfl, Below.refl _ _⟩
  · have hn1 : 1 ≤ l.length := by omega
    have hn2 : l.length ≤ 64 := by omega
    obtain ⟨b, o, rfl, hb, hcells⟩ := hl.get (i := 0) (by omega)
    have hok := hl.ok
    have HCell := Lib.hid hcells
    have HOk := Lib.hid hok
    clear hcells hok hsz hl
    go_enter Try.func27, Try.ntmps27
    go_wp2
    go_loopw [18] (fun i wr => ∃ k : Nat, k ≤ l.length ∧ i = .int .i64 k ∧ (∀ j (h : j < l.length), j < k → one (l[j]'h) j l.length = 0) ∧ Below w.heap.size w wr) (fun i _ => l.length - (intOf i).toNat)
    case atStart => exact ⟨0, by omega, rfl, fun j _ h => absurd h (by omega), Below.refl _ _⟩
    case round =>
      obtain ⟨k, hk, rfl, hones, hB⟩ := hrel
      have HO := Lib.hid hones
      clear hones
      by_cases hlt : k < l.length
      · have hI := (HCell.out k hlt).keep (fun o => hB.cell (p := ⟨b, o, none⟩) hb)
        have hx := HOk.out _ (List.getElem_mem hlt)
        have hxe := Lib.hid (show l[k] = l[k] from rfl)
        generalize hx0 : l[k] = x at *
        have HX := Lib.hid hx0
        clear hx0 hxe
        obtain ⟨h0, h1, h2, h3⟩ := hI
        have hsz1 := hB.size
        by_cases h1 : one x k l.length = 0
        · have e1 : (one x k l.length != 0) = false := by rw [bne_eq_false_iff_eq]; exact h1
          have HO1 := Lib.hid h1
          clear h1
          go_wp2_with (go_at_call 64; refine (cone_any x hx k l.length _ (by omega) (by omega)).mono ?_; rintro e w' ⟨rfl, hb1⟩; (obtain ⟨hb1_c, hb1_f⟩ := bcell hb1; have hb1_z := (hb1).size; have hb1_0 : Below w.heap.size w _ := Below.trans (by (repeat (first | with_reducible exact Below.refl _ _ | with_reducible assumption | ((with_reducible refine Below.setCell ?_ ?hp _); case hp => (first | omega | (simp only [World.size_alloc, World.size_setCell, World.size_drew]; omega) | (simp; done) | (simp; omega))) | ((with_reducible refine Below.alloc ?_ ?hp _); case hp => (first | omega | (simp only [World.size_alloc, World.size_setCell, World.size_drew]; omega) | (simp; done) | (simp; omega))) | with_reducible refine Below.drew ?_ | with_reducible refine below_drewN ?_ _))) ((hb1).mono (by (first | omega | (simp only [World.size_alloc, World.size_setCell, World.size_drew]; omega) | (simp; done) | (simp; omega)))); (try simp only [World.size_alloc, World.size_setCell, World.size_drew] at hb1_z hb1_c hb1_f); clear hb1))
          go_roundw
          case rel =>
            refine ⟨k + 1, by omega, by go_num, fun j hj hjk => ?_, by assumption⟩
            by_cases hjk' : j = k
            · subst hjk'; rw [HX.out]; exact HO1.out
            · exact HO.out j hj (by omega)
          case measure => simp [intOf]; omega
        · have e1 : (one x k l.length != 0) = true := by rw [bne_iff_ne]; exact h1
          have HC := Lib.hid (check_bad l hn1 hn2 k hlt HO.out (by rw [HX.out]; exact h1))
          clear h1
          go_wp2_with (go_at_call 64; refine (cone_any x hx k l.length _ (by omega) (by omega)).mono ?_; rintro e w' ⟨rfl, hb1⟩; (obtain ⟨hb1_c, hb1_f⟩ := bcell hb1; have hb1_z := (hb1).size; have hb1_0 : Below w.heap.size w _ := Below.trans (by (repeat (first | with_reducible exact Below.refl _ _ | with_reducible assumption | ((with_reducible refine Below.setCell ?_ ?hp _); case hp => (first | omega | (simp only [World.size_alloc, World.size_setCell, World.size_drew]; omega) | (simp; done) | (simp; omega))) | ((with_reducible refine Below.alloc ?_ ?hp _); case hp => (first | omega | (simp only [World.size_alloc, World.size_setCell, World.size_drew]; omega) | (simp; done) | (simp; omega))) | with_reducible refine Below.drew ?_ | with_reducible refine below_drewN ?_ _))) ((hb1).mono (by (first | omega | (simp only [World.size_alloc, World.size_setCell, World.size_drew]; omega) | (simp; done) | (simp; omega)))); (try simp only [World.size_alloc, World.size_setCell, World.size_drew] at hb1_z hb1_c hb1_f); clear hb1))
          go_ret2
          exact ⟨by rw [HC.out, HX.out]; rfl, by assumption⟩
      · have hke : k = l.length := by omega
        have HC := Lib.hid (check_good l hn1 hn2 (fun j hj => HO.out j hj (by omega)))
        have hI := (HCell.out (l.length - 1) (by omega)).keep (fun o => hB.cell (p := ⟨b, o, none⟩) hb)
        generalize hx0 : l[l.length - 1] = x at *
        clear hx0
        have hsz1 := hB.size
        subst hke
        obtain ⟨h0, h1, h2, h3⟩ := hI
        by_cases hr : isRet x.code = true
        · have hr1 := Lib.hid hr
          go_wp2_with (go_at_call 65; refine (returns_any x.code x.jt x.jf x.k _).mono ?_; rw [hr1.out]; rintro e w' ⟨rfl, hb1⟩; (obtain ⟨hb1_c, hb1_f⟩ := bcell hb1; have hb1_z := (hb1).size; have hb1_0 : Below w.heap.size w _ := Below.trans (by (repeat (first | with_reducible exact Below.refl _ _ | with_reducible assumption | ((with_reducible refine Below.setCell ?_ ?hp _); case hp => (first | omega | (simp only [World.size_alloc, World.size_setCell, World.size_drew]; omega) | (simp; done) | (simp; omega))) | ((with_reducible refine Below.alloc ?_ ?hp _); case hp => (first | omega | (simp only [World.size_alloc, World.size_setCell, World.size_drew]; omega) | (simp; done) | (simp; omega))) | with_reducible refine Below.drew ?_ | with_reducible refine below_drewN ?_ _))) ((hb1).mono (by (first | omega | (simp only [World.size_alloc, World.size_setCell, World.size_drew]; omega) | (simp; done) | (simp; omega)))); (try simp only [World.size_alloc, World.size_setCell, World.size_drew] at hb1_z hb1_c hb1_f); clear hb1))
          go_ret2
          exact ⟨by rw [HC.out, if_pos hr]; rfl, by assumption⟩
        · have hr' : isRet x.code = false := by simpa using hr
          clear hr
          have hr1 := Lib.hid hr'
          go_wp2_with (go_at_call 65; refine (returns_any x.code x.jt x.jf x.k _).mono ?_; rw [hr1.out]; rintro e w' ⟨rfl, hb1⟩; (obtain ⟨hb1_c, hb1_f⟩ := bcell hb1; have hb1_z := (hb1).size; have hb1_0 : Below w.heap.size w _ := Below.trans (by (repeat (first | with_reducible exact Below.refl _ _ | with_reducible assumption | ((with_reducible refine Below.setCell ?_ ?hp _); case hp => (first | omega | (simp only [World.size_alloc, World.size_setCell, World.size_drew]; omega) | (simp; done) | (simp; omega))) | ((with_reducible refine Below.alloc ?_ ?hp _); case hp => (first | omega | (simp only [World.size_alloc, World.size_setCell, World.size_drew]; omega) | (simp; done) | (simp; omega))) | with_reducible refine Below.drew ?_ | with_reducible refine below_drewN ?_ _))) ((hb1).mono (by (first | omega | (simp only [World.size_alloc, World.size_setCell, World.size_drew]; omega) | (simp; done) | (simp; omega)))); (try simp only [World.size_alloc, World.size_setCell, World.size_drew] at hb1_z hb1_c hb1_f); clear hb1))
          go_ret2
          exact ⟨by rw [HC.out, if_neg (by rw [hr']; simp)]; rfl, by assumption⟩
end Go.Proofs.Ytfjbanfibmpalaa

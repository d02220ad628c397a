/- KC -/
import Derived.Test.YtfjbanfibmpalaaKB
import Derived.Test.YtfjbanfibmpalaaK6
import Derived.Deep.QuietTactic
import Derived.BigQuiet
import Derived.Lib.SliceRun
import Derived.Test.YtfjbanfibmpalaaKA
import Derived.Maps.OwnIn

/- Contracts of the two Check functions. -/
set_option linter.unusedVariables false
set_option linter.unusedSimpArgs false
namespace Go.Proofs.Ytfjbanfibmpalaa
open Go.RowKit

set_option maxHeartbeats 400000 in
theorem rcheck_any (A : Option Addr) (cap : Nat) (l : List Insn) (w : World) (hl : RdP w A l) :
    Calls Try.prog 21 #[.slice A l.length cap] w fun e w' => e = .returned (.tuple #[.int .i64 (check l).1, .int .i64 (check l).2]) ∧ Below w.heap.size w w' := by
  by_cases hsz : l.length < 1 ∨ 64 < l.length
  · have hC := Lib.hid (show check l = (0, 140) by unfold check; rw [if_pos hsz])
    have hsm := hl.small
    go_enter Try.func21, Try.ntmps21
    go_wp2
    all_goals
      go_ret2
      exact ⟨by rw [hC.out]; rfl, Below.refl _ _⟩
  · have hn1 : 1 ≤ l.length := by omega
    have hn2 : l.length ≤ 64 := by omega
    obtain ⟨b, o, rfl, hb, hcells⟩ := hl.get (i := 0) (by omega)
    have hok := hl.ok
    have HCell := Lib.hid hcells
    have HOk := Lib.hid hok
    clear hcells hok hsz hl
    go_enter Try.func21, Try.ntmps21
    go_wp2
    go_loopw [18] (fun i wr => ∃ k : Nat, k ≤ l.length ∧ i = .int .i64 k ∧ (∀ j (h : j < l.length), j < k → one (l[j]'h) j l.length = 0) ∧ Below w.heap.size w wr) (fun i _ => l.length - (intOf i).toNat)
    case atStart => exact ⟨0, by omega, rfl, fun j _ h => absurd h (by omega), Below.refl _ _⟩
    case round =>
      obtain ⟨k, hk, rfl, hones, hB⟩ := hrel
      have HO := Lib.hid hones
      clear hones
      by_cases hlt : k < l.length
      · have hI := (HCell.out k hlt).keep (fun o => hB.cell (p := ⟨b, o, none⟩) hb)
        have hx := HOk.out _ (List.getElem_mem hlt)
        have hxe := Lib.hid (show l[k] = l[k] from rfl)
        generalize hx0 : l[k] = x at *
        have HX := Lib.hid hx0
        clear hx0 hxe
        obtain ⟨h0, h1, h2, h3⟩ := hI
        have hsz1 := hB.size
        by_cases h1 : one x k l.length = 0
        · have e1 : (one x k l.length != 0) = false := by rw [bne_eq_false_iff_eq]; exact h1
          have HO1 := Lib.hid h1
          clear h1
          go_wp2_with (go_at_call 57; refine (rone_any x hx k l.length _ (by omega) (by omega)).mono ?_; rintro e w' ⟨rfl, hb1⟩; (obtain ⟨hb1_c, hb1_f⟩ := bcell hb1; have hb1_z := (hb1).size; have hb1_0 : Below w.heap.size w _ := Below.trans (by (repeat (first | with_reducible exact Below.refl _ _ | with_reducible assumption | ((with_reducible refine Below.setCell ?_ ?hp _); case hp => (first | omega | (simp only [World.size_alloc, World.size_setCell, World.size_drew]; omega) | (simp; done) | (simp; omega))) | ((with_reducible refine Below.alloc ?_ ?hp _); case hp => (first | omega | (simp only [World.size_alloc, World.size_setCell, World.size_drew]; omega) | (simp; done) | (simp; omega))) | with_reducible refine Below.drew ?_ | with_reducible refine below_drewN ?_ _))) ((hb1).mono (by (first | omega | (simp only [World.size_alloc, World.size_setCell, World.size_drew]; omega) | (simp; done) | (simp; omega)))); (try simp only [World.size_alloc, World.size_setCell, World.size_drew] at hb1_z hb1_c hb1_f); clear hb1))
          go_roundw
          case rel =>
            refine ⟨k + 1, by omega, by go_num, fun j hj hjk => ?_, by assumption⟩
            by_cases hjk' : j = k
            · subst hjk'; rw [HX.out]; exact HO1.out
            · exact HO.out j hj (by omega)
          case measure => simp [intOf]; omega
        · have e1 : (one x k l.length != 0) = true := by rw [bne_iff_ne]; exact h1
          have HC := Lib.hid (check_bad l hn1 hn2 k hlt HO.out (by rw [HX.out]; exact h1))
          clear h1
          go_wp2_with (go_at_call 57; refine (rone_any x hx k l.length _ (by omega) (by omega)).mono ?_; rintro e w' ⟨rfl, hb1⟩; (obtain ⟨hb1_c, hb1_f⟩ := bcell hb1; have hb1_z := (hb1).size; have hb1_0 : Below w.heap.size w _ := Below.trans (by (repeat (first | with_reducible exact Below.refl _ _ | with_reducible assumption | ((with_reducible refine Below.setCell ?_ ?hp _); case hp => (first | omega | (simp only [World.size_alloc, World.size_setCell, World.size_drew]; omega) | (simp; done) | (simp; omega))) | ((with_reducible refine Below.alloc ?_ ?hp _); case hp => (first | omega | (simp only [World.size_alloc, World.size_setCell, World.size_drew]; omega) | (simp; done) | (simp; omega))) | with_reducible refine Below.drew ?_ | with_reducible refine below_drewN ?_ _))) ((hb1).mono (by (first | omega | (simp only [World.size_alloc, World.size_setCell, World.size_drew]; omega) | (simp; done) | (simp; omega)))); (try simp only [World.size_alloc, World.size_setCell, World.size_drew] at hb1_z hb1_c hb1_f); clear hb1))
          go_ret2
          exact ⟨by rw [HC.out, HX.out]; rfl, by assumption⟩
      · have hke : k = l.length := by omega
        have HC := Lib.hid (check_good l hn1 hn2 (fun j hj => HO.out j hj (by omega)))
        have hI := (HCell.out (l.length - 1) (by omega)).keep (fun o => hB.cell (p := ⟨b, o, none⟩) hb)
        generalize hx0 : l[l.length - 1] = x at *
        clear hx0
        have hsz1 := hB.size
        subst hke
        obtain ⟨h0, h1, h2, h3⟩ := hI
        by_cases hr : isRet x.code = true
        · have hr1 := Lib.hid hr
          go_wp2_with (go_at_call 58; refine (rreturns_any x.code x.jt x.jf x.k _).mono ?_; rw [hr1.out]; rintro e w' ⟨rfl, hb1⟩; (obtain ⟨hb1_c, hb1_f⟩ := bcell hb1; have hb1_z := (hb1).size; have hb1_0 : Below w.heap.size w _ := Below.trans (by (repeat (first | with_reducible exact Below.refl _ _ | with_reducible assumption | ((with_reducible refine Below.setCell ?_ ?hp _); case hp => (first | omega | (simp only [World.size_alloc, World.size_setCell, World.size_drew]; omega) | (simp; done) | (simp; omega))) | ((with_reducible refine Below.alloc ?_ ?hp _); case hp => (first | omega | (simp only [World.size_alloc, World.size_setCell, World.size_drew]; omega) | (simp; done) | (simp; omega))) | with_reducible refine Below.drew ?_ | with_reducible refine below_drewN ?_ _))) ((hb1).mono (by (first | omega | (simp only [World.size_alloc, World.size_setCell, World.size_drew]; omega) | (simp; done) | (simp; omega)))); (try simp only [World.size_alloc, World.size_setCell, World.size_drew] at hb1_z hb1_c hb1_f); clear hb1))
          go_ret2
          exact ⟨by rw [HC.out, if_pos hr]; rfl, by assumption⟩
        · have hr' : isRet x.code = false := by simpa using hr
          clear hr
          have hr1 := Lib.hid hr'
          go_wp2_with (go_at_call 58; refine (rreturns_any x.code x.jt x.jf x.k _).mono ?_; rw [hr1.out]; rintro e w' ⟨rfl, hb1⟩; (obtain ⟨hb1_c, hb1_f⟩ := bcell hb1; have hb1_z := (hb1).size; have hb1_0 : Below w.heap.size w _ := Below.trans (by (repeat (first | with_reducible exact Below.refl _ _ | with_reducible assumption | ((with_reducible refine Below.setCell ?_ ?hp _); case hp => (first | omega | (simp only [World.size_alloc, World.size_setCell, World.size_drew]; omega) | (simp; done) | (simp; omega))) | ((with_reducible refine Below.alloc ?_ ?hp _); case hp => (first | omega | (simp only [World.size_alloc, World.size_setCell, World.size_drew]; omega) | (simp; done) | (simp; omega))) | with_reducible refine Below.drew ?_ | with_reducible refine below_drewN ?_ _))) ((hb1).mono (by (first | omega | (simp only [World.size_alloc, World.size_setCell, World.size_drew]; omega) | (simp; done) | (simp; omega)))); (try simp only [World.size_alloc, World.size_setCell, World.size_drew] at hb1_z hb1_c hb1_f); clear hb1))
          go_ret2
          exact ⟨by rw [HC.out, if_neg (by rw [hr']; simp)]; rfl, by assumption⟩
set_option maxHeartbeats 400000 in
theorem check_any (A : Option Addr) (cap : Nat) (l : List Insn) (w : World) (hl : RdP w A l) :
    Calls Try.prog 27 #[.slice A l.length cap] w fun e w' => e = .returned (.tuple #[.int .i64 (check l).1, .int .i64 (check l).2]) ∧ Below w.heap.size w w' := by
  by_cases hsz : l.length < 1 ∨ 64 < l.length
  · have hC := Lib.hid (show check l = (0, 140) by unfold check; rw [if_pos hsz])
    have hsm := hl.small
    go_enter Try.func27, Try.ntmps27
    go_wp2
    all_goals
      go_ret2
      exact ⟨by rw [hC.out]; rfl, Below.refl _ _⟩
  · have hn1 : 1 ≤ l.length := by omega
    have hn2 : l.length ≤ 64 := by omega
    obtain ⟨b, o, rfl, hb, hcells⟩ := hl.get (i := 0) (by omega)
    have hok := hl.ok
    have HCell := Lib.hid hcells
    have HOk := Lib.hid hok
    clear hcells hok hsz hl
    go_enter Try.func27, Try.ntmps27
    go_wp2
    go_loopw [18] (fun i wr => ∃ k : Nat, k ≤ l.length ∧ i = .int .i64 k ∧ (∀ j (h : j < l.length), j < k → one (l[j]'h) j l.length = 0) ∧ Below w.heap.size w wr) (fun i _ => l.length - (intOf i).toNat)
    case atStart => exact ⟨0, by omega, rfl, fun j _ h => absurd h (by omega), Below.refl _ _⟩
    case round =>
      obtain ⟨k, hk, rfl, hones, hB⟩ := hrel
      have HO := Lib.hid hones
      clear hones
      by_cases hlt : k < l.length
      · have hI := (HCell.out k hlt).keep (fun o => hB.cell (p := ⟨b, o, none⟩) hb)
        have hx := HOk.out _ (List.getElem_mem hlt)
        have hxe := Lib.hid (show l[k] = l[k] from rfl)
        generalize hx0 : l[k] = x at *
        have HX := Lib.hid hx0
        clear hx0 hxe
        obtain ⟨h0, h1, h2, h3⟩ := hI
        have hsz1 := hB.size
        by_cases h1 : one x k l.length = 0
        · have e1 : (one x k l.length != 0) = false := by rw [bne_eq_false_iff_eq]; exact h1
          have HO1 := Lib.hid h1
          clear h1
          go_wp2_with (go_at_call 64; refine (cone_any x hx k l.length _ (by omega) (by omega)).mono ?_; rintro e w' ⟨rfl, hb1⟩; (obtain ⟨hb1_c, hb1_f⟩ := bcell hb1; have hb1_z := (hb1).size; have hb1_0 : Below w.heap.size w _ := Below.trans (by (repeat (first | with_reducible exact Below.refl _ _ | with_reducible assumption | ((with_reducible refine Below.setCell ?_ ?hp _); case hp => (first | omega | (simp only [World.size_alloc, World.size_setCell, World.size_drew]; omega) | (simp; done) | (simp; omega))) | ((with_reducible refine Below.alloc ?_ ?hp _); case hp => (first | omega | (simp only [World.size_alloc, World.size_setCell, World.size_drew]; omega) | (simp; done) | (simp; omega))) | with_reducible refine Below.drew ?_ | with_reducible refine below_drewN ?_ _))) ((hb1).mono (by (first | omega | (simp only [World.size_alloc, World.size_setCell, World.size_drew]; omega) | (simp; done) | (simp; omega)))); (try simp only [World.size_alloc, World.size_setCell, World.size_drew] at hb1_z hb1_c hb1_f); clear hb1))
          go_roundw
          case rel =>
            refine ⟨k + 1, by omega, by go_num, fun j hj hjk => ?_, by assumption⟩
            by_cases hjk' : j = k
            · subst hjk'; rw [HX.out]; exact HO1.out
            · exact HO.out j hj (by omega)
          case measure => simp [intOf]; omega
        · have e1 : (one x k l.length != 0) = true := by rw [bne_iff_ne]; exact h1
          have HC := Lib.hid (check_bad l hn1 hn2 k hlt HO.out (by rw [HX.out]; exact h1))
          clear h1
          go_wp2_with (go_at_call 64; refine (cone_any x hx k l.length _ (by omega) (by omega)).mono ?_; rintro e w' ⟨rfl, hb1⟩; (obtain ⟨hb1_c, hb1_f⟩ := bcell hb1; have hb1_z := (hb1).size; have hb1_0 : Below w.heap.size w _ := Below.trans (by (repeat (first | with_reducible exact Below.refl _ _ | with_reducible assumption | ((with_reducible refine Below.setCell ?_ ?hp _); case hp => (first | omega | (simp only [World.size_alloc, World.size_setCell, World.size_drew]; omega) | (simp; done) | (simp; omega))) | ((with_reducible refine Below.alloc ?_ ?hp _); case hp => (first | omega | (simp only [World.size_alloc, World.size_setCell, World.size_drew]; omega) | (simp; done) | (simp; omega))) | with_reducible refine Below.drew ?_ | with_reducible refine below_drewN ?_ _))) ((hb1).mono (by (first | omega | (simp only [World.size_alloc, World.size_setCell, World.size_drew]; omega) | (simp; done) | (simp; omega)))); (try simp only [World.size_alloc, World.size_setCell, World.size_drew] at hb1_z hb1_c hb1_f); clear hb1))
          go_ret2
          exact ⟨by rw [HC.out, HX.out]; rfl, by assumption⟩
      · have hke : k = l.length := by omega
        have HC := Lib.hid (check_good l hn1 hn2 (fun j hj => HO.out j hj (by omega)))
        have hI := (HCell.out (l.length - 1) (by omega)).keep (fun o => hB.cell (p := ⟨b, o, none⟩) hb)
        generalize hx0 : l[l.length - 1] = x at *
        clear hx0
        have hsz1 := hB.size
        subst hke
        obtain ⟨h0, h1, h2, h3⟩ := hI
        by_cases hr : isRet x.code = true
        · have hr1 := Lib.hid hr
          go_wp2_with (go_at_call 65; refine (returns_any x.code x.jt x.jf x.k _).mono ?_; rw [hr1.out]; rintro e w' ⟨rfl, hb1⟩; (obtain ⟨hb1_c, hb1_f⟩ := bcell hb1; have hb1_z := (hb1).size; have hb1_0 : Below w.heap.size w _ := Below.trans (by (repeat (first | with_reducible exact Below.refl _ _ | with_reducible assumption | ((with_reducible refine Below.setCell ?_ ?hp _); case hp => (first | omega | (simp only [World.size_alloc, World.size_setCell, World.size_drew]; omega) | (simp; done) | (simp; omega))) | ((with_reducible refine Below.alloc ?_ ?hp _); case hp => (first | omega | (simp only [World.size_alloc, World.size_setCell, World.size_drew]; omega) | (simp; done) | (simp; omega))) | with_reducible refine Below.drew ?_ | with_reducible refine below_drewN ?_ _))) ((hb1).mono (by (first | omega | (simp only [World.size_alloc, World.size_setCell, World.size_drew]; omega) | (simp; done) | (simp; omega)))); (try simp only [World.size_alloc, World.size_setCell, World.size_drew] at hb1_z hb1_c hb1_f); clear hb1))
          go_ret2
          exact ⟨by rw [HC.out, if_pos hr]; rfl, by assumption⟩
        · have hr' : isRet x.code = false := by simpa using hr
          clear hr
          have hr1 := Lib.hid hr'
          go_wp2_with (go_at_call 65; refine (returns_any x.code x.jt x.jf x.k _).mono ?_; rw [hr1.out]; rintro e w' ⟨rfl, hb1⟩; (obtain ⟨hb1_c, hb1_f⟩ := bcell hb1; have hb1_z := (hb1).size; have hb1_0 : Below w.heap.size w _ := Below.trans (by (repeat (first | with_reducible exact Below.refl _ _ | with_reducible assumption | ((with_reducible refine Below.setCell ?_ ?hp _); case hp => (first | omega | (simp only [World.size_alloc, World.size_setCell, World.size_drew]; omega) | (simp; done) | (simp; omega))) | ((with_reducible refine Below.alloc ?_ ?hp _); case hp => (first | omega | (simp only [World.size_alloc, World.size_setCell, World.size_drew]; omega) | (simp; done) | (simp; omega))) | with_reducible refine Below.drew ?_ | with_reducible refine below_drewN ?_ _))) ((hb1).mono (by (first | omega | (simp only [World.size_alloc, World.size_setCell, World.size_drew]; omega) | (simp; done) | (simp; omega)))); (try simp only [World.size_alloc, World.size_setCell, World.size_drew] at hb1_z hb1_c hb1_f); clear hb1))
          go_ret2
          exact ⟨by rw [HC.out, if_neg (by rw [hr']; simp)]; rfl, by assumption⟩
end Go.Proofs.Ytfjbanfibmpalaa

/- Contracts: two rows are one. -/
set_option linter.unusedVariables false
set_option linter.unusedSimpArgs false
namespace Go.Proofs.Ytfjbanfibmpalaa
open Go.RowKit

theorem insn_eq_iff (x y : Insn) : x = y ↔ ((x.code : Int) = y.code ∧ (x.jt : Int) = y.jt ∧ (x.jf : Int) = y.jf ∧ (x.k : Int) = y.k) := by
  constructor
  · rintro rfl; exact ⟨rfl, rfl, rfl, rfl⟩
  · rintro ⟨h0, h1, h2, h3⟩; exact Insn.ext' (by omega) (by omega) (by omega) (by omega)

set_option maxHeartbeats 400000 in
theorem neq_insn (x y : Insn) (w : World) : (binOp .neq 36 (Value.agg #[.int .u16 x.code, .int .u8 x.jt, .int .u8 x.jf, .int .u32 x.k]) (Value.agg #[.int .u16 y.code, .int .u8 y.jt, .int .u8 y.jf, .int .u32 y.k])).run Try.prog w = .ok (.bool (!decide (x = y))) w := by
  go_simp
  simp only [insn_eq_iff]
  by_cases h0 : (x.code : Int) = y.code <;> by_cases h1 : (x.jt : Int) = y.jt <;> by_cases h2 : (x.jf : Int) = y.jf <;> by_cases h3 : (x.k : Int) = y.k <;> simp [h0, h1, h2, h3]

theorem list_eq_of {α : Type} (a b : List α) (hl : a.length = b.length) (h : ∀ j (h : j < a.length), a[j]'h = b[j]'(hl ▸ h)) : a = b :=
  List.ext_getElem hl fun j h1 h2 => h j h1

set_option maxHeartbeats 400000 in
theorem rsame_any (A B : Option Addr) (ca cb : Nat) (a b : List Insn) (w : World) (ha : RdP w A a) (hb : RdP w B b) :
    Calls Try.prog 22 #[.slice A a.length ca, .slice B b.length cb] w fun e w' => e = .returned (.bool (decide (a = b))) ∧ Below w.heap.size w w' := by
  have sa := ha.small
  have sb := hb.small
  by_cases hl : a.length = b.length
  · have hl1 : ((a.length : Int) != (b.length : Int)) = false := by simp; omega
    have HL := Lib.hid hl
    clear hl
    have HA := Lib.hid ha
    have HB := Lib.hid hb
    clear ha hb
    go_enter Try.func22, Try.ntmps22
    go_wp2
    go_loopw [13] (fun i wr => ∃ k : Nat, k ≤ a.length ∧ i = .int .i64 k ∧ (∀ j (h : j < a.length), j < k → a[j]'h = b[j]'(HL.out ▸ h)) ∧ Below w.heap.size w wr) (fun i _ => a.length - (intOf i).toNat)
    case atStart => exact ⟨0, by omega, rfl, fun j _ h => absurd h (by omega), Below.refl _ _⟩
    case round =>
      obtain ⟨k, hk, rfl, heq, hBel⟩ := hrel
      have HE := Lib.hid heq
      clear heq
      by_cases hlt : k < a.length
      · have hltb : k < b.length := HL.out ▸ hlt
        obtain ⟨ba, oa, rfl, hba, hca⟩ := HA.out.get hlt
        obtain ⟨bb, ob, rfl, hbb, hcb⟩ := HB.out.get hltb
        have hI := (hca k hlt).keep (fun o => hBel.cell (p := ⟨ba, o, none⟩) hba)
        have hJ := (hcb k hltb).keep (fun o => hBel.cell (p := ⟨bb, o, none⟩) hbb)
        have HCA := Lib.hid hca
        have HCB := Lib.hid hcb
        clear hca hcb
        have HD := Lib.hid (show ∀ (e : a[k] = b[k]) j (h : j < a.length), j < k + 1 → a[j]'h = b[j]'(HL.out ▸ h) from fun e j h hj => by
          by_cases hjk : j = k
          · subst hjk; exact e
          · exact HE.out j h (by omega))
        have HN := Lib.hid (show a[k] ≠ b[k] → a ≠ b from fun h e => h (by simp only [e]))
        generalize a[k] = x at *
        generalize b[k] = y at *
        obtain ⟨h0, h1, h2, h3⟩ := hI
        obtain ⟨g0, g1, g2, g3⟩ := hJ
        have hnq := neq_insn x y
        by_cases hxy : x = y
        · have hd : decide (x = y) = true := by simp [hxy]
          have HXY := Lib.hid hxy
          clear hxy
          go_wp2
          go_quiet (fail)
          go_wp2
          go_roundw
          case rel => exact ⟨k + 1, by omega, by go_num, HD.out HXY.out, below_drewN hBel _⟩
          case measure => simp [intOf]; omega
        · have hd : decide (x = y) = false := by simp [hxy]
          have HXY := Lib.hid hxy
          clear hxy
          go_wp2
          go_quiet (fail)
          go_wp2
          go_ret
          exact ⟨by rw [decide_eq_false (HN.out HXY.out)]; rfl, below_drewN hBel _⟩
      · have hab : a = b := list_eq_of a b HL.out fun j h => HE.out j h (by omega)
        have HAB := Lib.hid hab
        clear hab
        go_wp2
        go_ret
        exact ⟨by rw [decide_eq_true HAB.out]; rfl, hBel⟩
  · have hl1 : ((a.length : Int) != (b.length : Int)) = true := by simp; omega
    have hab := Lib.hid (show a ≠ b from fun e => hl (by rw [e]))
    clear hl ha hb
    go_enter Try.func22, Try.ntmps22
    go_wp2
    go_ret
    exact ⟨by rw [decide_eq_false hab.out]; rfl, Below.refl _ _⟩
set_option maxHeartbeats 400000 in
theorem equal_any (A B : Option Addr) (ca cb : Nat) (a b : List Insn) (w : World) (ha : RdP w A a) (hb : RdP w B b) :
    Calls Try.prog 42 #[.slice A a.length ca, .slice B b.length cb] w fun e w' => e = .returned (.bool (decide (a = b))) ∧ Below w.heap.size w w' := by
  have sa := ha.small
  have sb := hb.small
  by_cases hl : a.length = b.length
  · have hl1 : ((a.length : Int) != (b.length : Int)) = false := by simp; omega
    have HL := Lib.hid hl
    clear hl
    have HA := Lib.hid ha
    have HB := Lib.hid hb
    clear ha hb
    go_enter Try.func42, Try.ntmps42
    go_wp2
    go_loopw [13] (fun i wr => ∃ k : Nat, k ≤ a.length ∧ i = .int .i64 k ∧ (∀ j (h : j < a.length), j < k → a[j]'h = b[j]'(HL.out ▸ h)) ∧ Below w.heap.size w wr) (fun i _ => a.length - (intOf i).toNat)
    case atStart => exact ⟨0, by omega, rfl, fun j _ h => absurd h (by omega), Below.refl _ _⟩
    case round =>
      obtain ⟨k, hk, rfl, heq, hBel⟩ := hrel
      have HE := Lib.hid heq
      clear heq
      by_cases hlt : k < a.length
      · have hltb : k < b.length := HL.out ▸ hlt
        obtain ⟨ba, oa, rfl, hba, hca⟩ := HA.out.get hlt
        obtain ⟨bb, ob, rfl, hbb, hcb⟩ := HB.out.get hltb
        have hI := (hca k hlt).keep (fun o => hBel.cell (p := ⟨ba, o, none⟩) hba)
        have hJ := (hcb k hltb).keep (fun o => hBel.cell (p := ⟨bb, o, none⟩) hbb)
        have HCA := Lib.hid hca
        have HCB := Lib.hid hcb
        clear hca hcb
        have HD := Lib.hid (show ∀ (e : a[k] = b[k]) j (h : j < a.length), j < k + 1 → a[j]'h = b[j]'(HL.out ▸ h) from fun e j h hj => by
          by_cases hjk : j = k
          · subst hjk; exact e
          · exact HE.out j h (by omega))
        have HN := Lib.hid (show a[k] ≠ b[k] → a ≠ b from fun h e => h (by simp only [e]))
        generalize a[k] = x at *
        generalize b[k] = y at *
        obtain ⟨h0, h1, h2, h3⟩ := hI
        obtain ⟨g0, g1, g2, g3⟩ := hJ
        have hnq := neq_insn x y
        by_cases hxy : x = y
        · have hd : decide (x = y) = true := by simp [hxy]
          have HXY := Lib.hid hxy
          clear hxy
          go_wp2
          go_quiet (fail)
          go_wp2
          go_roundw
          case rel => exact ⟨k + 1, by omega, by go_num, HD.out HXY.out, below_drewN hBel _⟩
          case measure => simp [intOf]; omega
        · have hd : decide (x = y) = false := by simp [hxy]
          have HXY := Lib.hid hxy
          clear hxy
          go_wp2
          go_quiet (fail)
          go_wp2
          go_ret
          exact ⟨by rw [decide_eq_false (HN.out HXY.out)]; rfl, below_drewN hBel _⟩
      · have hab : a = b := list_eq_of a b HL.out fun j h => HE.out j h (by omega)
        have HAB := Lib.hid hab
        clear hab
        go_wp2
        go_ret
        exact ⟨by rw [decide_eq_true HAB.out]; rfl, hBel⟩
  · have hl1 : ((a.length : Int) != (b.length : Int)) = true := by simp; omega
    have hab := Lib.hid (show a ≠ b from fun e => hl (by rw [e]))
    clear hl ha hb
    go_enter Try.func42, Try.ntmps42
    go_wp2
    go_ret
    exact ⟨by rw [decide_eq_false hab.out]; rfl, Below.refl _ _⟩
set_option maxHeartbeats 400000 in
theorem equalp_any (A B : Option Addr) (ca cb : Nat) (a b : List Insn) (w : World) (ha : RdP w A a) (hb : RdP w B b) :
    Calls Try.prog 96 #[.slice A a.length ca, .slice B b.length cb] w fun e w' => e = .returned (.bool (decide (a = b))) ∧ Below w.heap.size w w' := by
  have sa := ha.small
  have sb := hb.small
  by_cases hl : a.length = b.length
  · have hl1 : ((a.length : Int) != (b.length : Int)) = false := by simp; omega
    have HL := Lib.hid hl
    clear hl
    have HA := Lib.hid ha
    have HB := Lib.hid hb
    clear ha hb
    go_enter Try.func96, Try.ntmps96
    go_wp2
    go_loopw [13] (fun i wr => ∃ k : Nat, k ≤ a.length ∧ i = .int .i64 k ∧ (∀ j (h : j < a.length), j < k → a[j]'h = b[j]'(HL.out ▸ h)) ∧ Below w.heap.size w wr) (fun i _ => a.length - (intOf i).toNat)
    case atStart => exact ⟨0, by omega, rfl, fun j _ h => absurd h (by omega), Below.refl _ _⟩
    case round =>
      obtain ⟨k, hk, rfl, heq, hBel⟩ := hrel
      have HE := Lib.hid heq
      clear heq
      by_cases hlt : k < a.length
      · have hltb : k < b.length := HL.out ▸ hlt
        obtain ⟨ba, oa, rfl, hba, hca⟩ := HA.out.get hlt
        obtain ⟨bb, ob, rfl, hbb, hcb⟩ := HB.out.get hltb
        have hI := (hca k hlt).keep (fun o => hBel.cell (p := ⟨ba, o, none⟩) hba)
        have hJ := (hcb k hltb).keep (fun o => hBel.cell (p := ⟨bb, o, none⟩) hbb)
        have HCA := Lib.hid hca
        have HCB := Lib.hid hcb
        clear hca hcb
        have HD := Lib.hid (show ∀ (e : a[k] = b[k]) j (h : j < a.length), j < k + 1 → a[j]'h = b[j]'(HL.out ▸ h) from fun e j h hj => by
          by_cases hjk : j = k
          · subst hjk; exact e
          · exact HE.out j h (by omega))
        have HN := Lib.hid (show a[k] ≠ b[k] → a ≠ b from fun h e => h (by simp only [e]))
        generalize a[k] = x at *
        generalize b[k] = y at *
        obtain ⟨h0, h1, h2, h3⟩ := hI
        obtain ⟨g0, g1, g2, g3⟩ := hJ
        have hnq := neq_insn x y
        by_cases hxy : x = y
        · have hd : decide (x = y) = true := by simp [hxy]
          have HXY := Lib.hid hxy
          clear hxy
          go_wp2
          go_quiet (fail)
          go_wp2
          go_roundw
          case rel => exact ⟨k + 1, by omega, by go_num, HD.out HXY.out, below_drewN hBel _⟩
          case measure => simp [intOf]; omega
        · have hd : decide (x = y) = false := by simp [hxy]
          have HXY := Lib.hid hxy
          clear hxy
          go_wp2
          go_quiet (fail)
          go_wp2
          go_ret
          exact ⟨by rw [decide_eq_false (HN.out HXY.out)]; rfl, below_drewN hBel _⟩
      · have hab : a = b := list_eq_of a b HL.out fun j h => HE.out j h (by omega)
        have HAB := Lib.hid hab
        clear hab
        go_wp2
        go_ret
        exact ⟨by rw [decide_eq_true HAB.out]; rfl, hBel⟩
  · have hl1 : ((a.length : Int) != (b.length : Int)) = true := by simp; omega
    have hab := Lib.hid (show a ≠ b from fun e => hl (by rw [e]))
    clear hl ha hb
    go_enter Try.func96, Try.ntmps96
    go_wp2
    go_ret
    exact ⟨by rw [decide_eq_false hab.out]; rfl, Below.refl _ _⟩
end Go.Proofs.Ytfjbanfibmpalaa

/- Contracts: copies of rows of instructions. -/
set_option linter.unusedVariables false
set_option linter.unusedSimpArgs false
namespace Go.Proofs.Ytfjbanfibmpalaa
open Go.RowKit

theorem info_insn : (Try.prog.info? 36).map (fun i => (i.zero, i.size, i.bytes)) = some (some (.agg #[.int .u16 0, .int .u8 0, .int .u8 0, .int .u32 0]), EI.size, 8) := by kernel_rfl

set_option maxHeartbeats 400000 in
theorem copied_any (A : Option Addr) (c : Nat) (l : List Insn) (w : World) (hl : EI.Rd w A l) (hlen : l.length ≤ 1000000) :
    Calls Try.prog 101 #[.slice A l.length c] w fun e w' => ∃ A' c', e = .returned (.slice A' l.length c') ∧ EI.Own 36 w' w.heap.size A' c' l ∧ Below w.heap.size w w' := by
  have hl1 : EI.Rd (w.alloc (.cells #[] 36)) A l := hl.below (B := w.heap.size) (by (repeat (first | with_reducible exact Below.refl _ _ | with_reducible assumption | ((with_reducible refine Below.setCell ?_ ?hp _); case hp => (first | omega | (simp only [World.size_alloc, World.size_setCell, World.size_drew]; omega) | (simp; done) | (simp; omega))) | ((with_reducible refine Below.alloc ?_ ?hp _); case hp => (first | omega | (simp only [World.size_alloc, World.size_setCell, World.size_drew]; omega) | (simp; done) | (simp; omega))) | with_reducible refine Below.drew ?_ | with_reducible refine below_drewN ?_ _))) (Nat.le_refl _)
  have HL := Lib.hid hl1
  clear hl hl1
  go_enter Try.func101, Try.ntmps101
  go_wp2_with (at_builtin; refine wpList_append_L EI 36 24 rfl (.tmp 3) (.tmp 4) rfl _ 8 Try.underlying24 info_insn rfl (by decide) _ w.heap.size (some ⟨w.heap.size, 0, none⟩) 0 [] rfl (Enc.Own.fresh EI w _) A c l rfl HL.out (by simp; omega) (by decide) (by simp) ?_; intro A' c' w' hown hg hat)
  go_ret
  exact ⟨A', c', rfl, hown, below_append (by (repeat (first | with_reducible exact Below.refl _ _ | with_reducible assumption | ((with_reducible refine Below.setCell ?_ ?hp _); case hp => (first | omega | (simp only [World.size_alloc, World.size_setCell, World.size_drew]; omega) | (simp; done) | (simp; omega))) | ((with_reducible refine Below.alloc ?_ ?hp _); case hp => (first | omega | (simp only [World.size_alloc, World.size_setCell, World.size_drew]; omega) | (simp; done) | (simp; omega))) | with_reducible refine Below.drew ?_ | with_reducible refine below_drewN ?_ _))) (Enc.Own.fresh EI w _) hg (by simp)⟩
set_option maxHeartbeats 400000 in
theorem copied5_any (A : Option Addr) (c : Nat) (l : List Insn) (w : World) (hl : EI.Rd w A l) (hlen : l.length ≤ 1000000) :
    Calls Try.prog 35 #[.slice A l.length c] w fun e w' => ∃ A' c', e = .returned (.slice A' l.length c') ∧ EI.Own 36 w' w.heap.size A' c' l ∧ Below w.heap.size w w' := by
  have hl1 : EI.Rd (w.alloc (.cells #[] 36)) A l := hl.below (B := w.heap.size) (by (repeat (first | with_reducible exact Below.refl _ _ | with_reducible assumption | ((with_reducible refine Below.setCell ?_ ?hp _); case hp => (first | omega | (simp only [World.size_alloc, World.size_setCell, World.size_drew]; omega) | (simp; done) | (simp; omega))) | ((with_reducible refine Below.alloc ?_ ?hp _); case hp => (first | omega | (simp only [World.size_alloc, World.size_setCell, World.size_drew]; omega) | (simp; done) | (simp; omega))) | with_reducible refine Below.drew ?_ | with_reducible refine below_drewN ?_ _))) (Nat.le_refl _)
  have HL := Lib.hid hl1
  clear hl hl1
  go_enter Try.func35, Try.ntmps35
  go_wp2_with (at_builtin; refine wpList_append_L EI 36 24 rfl (.tmp 3) (.tmp 4) rfl _ 8 Try.underlying24 info_insn rfl (by decide) _ w.heap.size (some ⟨w.heap.size, 0, none⟩) 0 [] rfl (Enc.Own.fresh EI w _) A c l rfl HL.out (by simp; omega) (by decide) (by simp) ?_; intro A' c' w' hown hg hat)
  go_ret
  exact ⟨A', c', rfl, hown, below_append (by (repeat (first | with_reducible exact Below.refl _ _ | with_reducible assumption | ((with_reducible refine Below.setCell ?_ ?hp _); case hp => (first | omega | (simp only [World.size_alloc, World.size_setCell, World.size_drew]; omega) | (simp; done) | (simp; omega))) | ((with_reducible refine Below.alloc ?_ ?hp _); case hp => (first | omega | (simp only [World.size_alloc, World.size_setCell, World.size_drew]; omega) | (simp; done) | (simp; omega))) | with_reducible refine Below.drew ?_ | with_reducible refine below_drewN ?_ _))) (Enc.Own.fresh EI w _) hg (by simp)⟩
set_option maxHeartbeats 400000 in
theorem clone_any (A : Option Addr) (c : Nat) (l : List Insn) (w : World) (hl : EI.Rd w A l) (hlen : l.length ≤ 1000000) :
    Calls Try.prog 28 #[.slice A l.length c] w fun e w' => ∃ A' c', e = .returned (.slice A' l.length c') ∧ EI.Own 36 w' w.heap.size A' c' l ∧ Below w.heap.size w w' := by
  have hl1 : EI.Rd (w.alloc (.cells #[] 36)) A l := hl.below (B := w.heap.size) (by (repeat (first | with_reducible exact Below.refl _ _ | with_reducible assumption | ((with_reducible refine Below.setCell ?_ ?hp _); case hp => (first | omega | (simp only [World.size_alloc, World.size_setCell, World.size_drew]; omega) | (simp; done) | (simp; omega))) | ((with_reducible refine Below.alloc ?_ ?hp _); case hp => (first | omega | (simp only [World.size_alloc, World.size_setCell, World.size_drew]; omega) | (simp; done) | (simp; omega))) | with_reducible refine Below.drew ?_ | with_reducible refine below_drewN ?_ _))) (Nat.le_refl _)
  have HL := Lib.hid hl1
  cases A with
  | none =>
    have h0 : l = [] := Classical.byContradiction fun h => by obtain ⟨b, o, h1, _⟩ := hl.at_ h; cases h1
    subst h0
    clear hl hl1
    have hnil := fun (w : World) => Lib.run_eql_slice_nil (P := Try.prog) w 24 36 none 0 c 0 0 Try.underlying24
    go_enter Try.func28, Try.ntmps28
    go_wp2
    go_ret
    exact ⟨none, 0, rfl, Enc.Own.nil, Below.refl _ _⟩
  | some ad =>
    clear hl hl1
    have hnil := fun (w : World) => Lib.run_eql_slice_nil (P := Try.prog) w 24 36 (some ad) l.length c 0 0 Try.underlying24
    go_enter Try.func28, Try.ntmps28
    go_wp2_with (at_builtin; refine wpList_append_L EI 36 24 rfl (.tmp 5) (.tmp 6) rfl _ 8 Try.underlying24 info_insn rfl (by decide) _ w.heap.size (some ⟨w.heap.size, 0, none⟩) 0 [] rfl (Enc.Own.fresh EI w _) (some ad) c l rfl HL.out (by simp; omega) (by decide) (by simp) ?_; intro A' c' w' hown hg hat)
    go_ret
    exact ⟨A', c', rfl, hown, below_append (by (repeat (first | with_reducible exact Below.refl _ _ | with_reducible assumption | ((with_reducible refine Below.setCell ?_ ?hp _); case hp => (first | omega | (simp only [World.size_alloc, World.size_setCell, World.size_drew]; omega) | (simp; done) | (simp; omega))) | ((with_reducible refine Below.alloc ?_ ?hp _); case hp => (first | omega | (simp only [World.size_alloc, World.size_setCell, World.size_drew]; omega) | (simp; done) | (simp; omega))) | with_reducible refine Below.drew ?_ | with_reducible refine below_drewN ?_ _))) (Enc.Own.fresh EI w _) hg (by simp)⟩

set_option maxHeartbeats 400000 in
theorem clonep_any (A : Option Addr) (c : Nat) (l : List Insn) (w : World) (hl : EI.Rd w A l) (hlen : l.length ≤ 1000000) :
    Calls Try.prog 134 #[.slice A l.length c] w fun e w' => ∃ A' c', e = .returned (.slice A' l.length c') ∧ EI.Own 36 w' w.heap.size A' c' l ∧ Below w.heap.size w w' := by
  have hl1 : EI.Rd (w.alloc (.cells #[] 36)) A l := hl.below (B := w.heap.size) (by (repeat (first | with_reducible exact Below.refl _ _ | with_reducible assumption | ((with_reducible refine Below.setCell ?_ ?hp _); case hp => (first | omega | (simp only [World.size_alloc, World.size_setCell, World.size_drew]; omega) | (simp; done) | (simp; omega))) | ((with_reducible refine Below.alloc ?_ ?hp _); case hp => (first | omega | (simp only [World.size_alloc, World.size_setCell, World.size_drew]; omega) | (simp; done) | (simp; omega))) | with_reducible refine Below.drew ?_ | with_reducible refine below_drewN ?_ _))) (Nat.le_refl _)
  have HL := Lib.hid hl1
  cases A with
  | none =>
    have h0 : l = [] := Classical.byContradiction fun h => by obtain ⟨b, o, h1, _⟩ := hl.at_ h; cases h1
    subst h0
    clear hl hl1
    have hnil := fun (w : World) => Lib.run_eql_slice_nil (P := Try.prog) w 146 36 none 0 c 0 0 Try.underlying146
    go_enter Try.func134, Try.ntmps134
    go_wp2
    go_ret
    exact ⟨none, 0, rfl, Enc.Own.nil, Below.refl _ _⟩
  | some ad =>
    clear hl hl1
    have hnil := fun (w : World) => Lib.run_eql_slice_nil (P := Try.prog) w 146 36 (some ad) l.length c 0 0 Try.underlying146
    go_enter Try.func134, Try.ntmps134
    go_wp2_with (at_builtin; refine wpList_append_L EI 36 146 rfl (.tmp 5) (.tmp 6) rfl _ 8 Try.underlying146 info_insn rfl (by decide) _ w.heap.size (some ⟨w.heap.size, 0, none⟩) 0 [] rfl (Enc.Own.fresh EI w _) (some ad) c l rfl HL.out (by simp; omega) (by decide) (by simp) ?_; intro A' c' w' hown hg hat)
    go_ret
    exact ⟨A', c', rfl, hown, below_append (by (repeat (first | with_reducible exact Below.refl _ _ | with_reducible assumption | ((with_reducible refine Below.setCell ?_ ?hp _); case hp => (first | omega | (simp only [World.size_alloc, World.size_setCell, World.size_drew]; omega) | (simp; done) | (simp; omega))) | ((with_reducible refine Below.alloc ?_ ?hp _); case hp => (first | omega | (simp only [World.size_alloc, World.size_setCell, World.size_drew]; omega) | (simp; done) | (simp; omega))) | with_reducible refine Below.drew ?_ | with_reducible refine below_drewN ?_ _))) (Enc.Own.fresh EI w _) hg (by simp)⟩

theorem Enc.Rd.take {α : Type} {E : Enc α} {w : World} {A : Option Addr} {l : List α} (h : E.Rd w A l) (k : Nat) : E.Rd w A (l.take k) := ⟨fun hl => by
  obtain ⟨b, o, rfl, hlt, hc⟩ := h.at_ (fun e => hl (by rw [e]; simp))
  exact ⟨b, o, rfl, hlt, fun i hi r u hu => hc i (by rw [List.length_take] at hi; omega) r u (by rw [List.getElem_take] at hu; exact hu)⟩⟩

set_option maxHeartbeats 400000 in
theorem few_any (A : Option Addr) (c : Nat) (l : List Insn) (w : World) (hl : EI.Rd w A l) (hlen : l.length ≤ 17592186044416) (hcap : l.length ≤ c) (hcap2 : c ≤ 17592186044416) :
    Calls Try.prog 18 #[.slice A l.length c] w fun e w' => ∃ A' c', e = .returned (.slice A' (l.take 65).length c') ∧ EI.Own 36 w' w.heap.size A' c' (l.take 65) ∧ Below w.heap.size w w' := by
  have hl1 : EI.Rd (w.alloc (.cells #[] 36)) A (l.take 65) := (hl.take 65).below (B := w.heap.size) (by (repeat (first | with_reducible exact Below.refl _ _ | with_reducible assumption | ((with_reducible refine Below.setCell ?_ ?hp _); case hp => (first | omega | (simp only [World.size_alloc, World.size_setCell, World.size_drew]; omega) | (simp; done) | (simp; omega))) | ((with_reducible refine Below.alloc ?_ ?hp _); case hp => (first | omega | (simp only [World.size_alloc, World.size_setCell, World.size_drew]; omega) | (simp; done) | (simp; omega))) | with_reducible refine Below.drew ?_ | with_reducible refine below_drewN ?_ _))) (Nat.le_refl _)
  have HL := Lib.hid hl1
  clear hl hl1
  have hm : (l.take 65).length ≤ 65 := by rw [List.length_take]; omega
  by_cases h : l.length ≤ 65
  · have hle : l.take 65 = l := List.take_of_length_le h
    rw [hle] at HL ⊢
    clear hle hm
    go_enter Try.func18, Try.ntmps18
    go_wp2_with (at_builtin; refine wpList_append_L EI 36 24 rfl (.tmp 3) (.tmp 8) rfl _ 8 Try.underlying24 info_insn rfl (by decide) _ w.heap.size (some ⟨w.heap.size, 0, none⟩) 0 [] rfl (Enc.Own.fresh EI w _) A c l rfl HL.out (by simp; omega) (by decide) (by simp) ?_; intro A' c' w' hown hg hat)
    go_ret
    exact ⟨A', c', rfl, hown, below_append (by (repeat (first | with_reducible exact Below.refl _ _ | with_reducible assumption | ((with_reducible refine Below.setCell ?_ ?hp _); case hp => (first | omega | (simp only [World.size_alloc, World.size_setCell, World.size_drew]; omega) | (simp; done) | (simp; omega))) | ((with_reducible refine Below.alloc ?_ ?hp _); case hp => (first | omega | (simp only [World.size_alloc, World.size_setCell, World.size_drew]; omega) | (simp; done) | (simp; omega))) | with_reducible refine Below.drew ?_ | with_reducible refine below_drewN ?_ _))) (Enc.Own.fresh EI w _) hg (by simp)⟩
  · have hle : (l.take 65).length = 65 := by rw [List.length_take]; omega
    have HE := Lib.hid hle
    clear hle hm
    go_enter Try.func18, Try.ntmps18
    go_wp2_with (at_builtin; refine wpList_append_L EI 36 24 rfl (.tmp 3) (.tmp 8) rfl _ 8 Try.underlying24 info_insn rfl (by decide) _ w.heap.size (some ⟨w.heap.size, 0, none⟩) 0 [] rfl (Enc.Own.fresh EI w _) A c (l.take 65) (by rw [HE.out]; rfl) HL.out (by simp; omega) (by decide) (by simp) ?_; intro A' c' w' hown hg hat)
    go_ret
    exact ⟨A', c', by show Ending.returned (.slice A' (min 65 l.length) c') = _; rw [List.length_take], hown, below_append (by (repeat (first | with_reducible exact Below.refl _ _ | with_reducible assumption | ((with_reducible refine Below.setCell ?_ ?hp _); case hp => (first | omega | (simp only [World.size_alloc, World.size_setCell, World.size_drew]; omega) | (simp; done) | (simp; omega))) | ((with_reducible refine Below.alloc ?_ ?hp _); case hp => (first | omega | (simp only [World.size_alloc, World.size_setCell, World.size_drew]; omega) | (simp; done) | (simp; omega))) | with_reducible refine Below.drew ?_ | with_reducible refine below_drewN ?_ _))) (Enc.Own.fresh EI w _) hg (by simp)⟩

end Go.Proofs.Ytfjbanfibmpalaa

/- Words: a set of whole numbers as a map[int]bool that the call made itself. -/
set_option linter.unusedVariables false
set_option linter.unusedSimpArgs false
namespace Go.Proofs.Ytfjbanfibmpalaa
open Go.RowKit Go.Shelf Go.Maps
attribute [local go_sem] Oper.semAt_some

/-- Block b is a map of at most n entries that tells f of the numbers. -/
def Met (w : World) (b n : Nat) (f : Nat → Bool) : Prop :=
  ∃ D : DataW Unit, w.ownsMap Try.prog 3 (plainElem Try.prog 4) b n D ∧ IsMap D ∧ ∀ i : Nat, i ≤ 1000000 → D.atKey (.int .i64 (i : Int)) (.lit (.bool false)) = .lit (.bool (f i))

theorem klaw : Keyed Try.prog 3 := int_keyed Try.underlying3
theorem wf_nat (i : Nat) (h : i ≤ 1000000) : (Lit.int .i64 (i : Int)).wf = true := by
  have h1 : IntKind.i64.min = -9223372036854775808 := by decide
  have h2 : IntKind.i64.max = 9223372036854775807 := by decide
  simp [Lit.wf, IntKind.wrap, IntKind.bits, IntKind.signed, h1, h2]
  omega
theorem plainElem_bool_inv {P : Program} {e : TypeId} (he : P.underlying e = some .bool) {v : Value} {z : DataW Unit × List MemPlace} (h : plainElem P e v = some z) : ∃ a, v = .bool a ∧ z = (.lit (.bool a), []) := by
  unfold plainElem at h
  rw [he] at h
  cases v <;> simp at h
  exact ⟨_, rfl, h.symm⟩
theorem key_int (i : Nat) (h : i ≤ 1000000) : keyOf Try.prog 3 (.int .i64 (i : Int)) = some (.int .i64 (i : Int)) := keyOf_int_mk Try.underlying3 (wf_nat i h)
theorem zero_bool (w : World) : (zeroValue 4).run Try.prog w = .ok (.bool false) w := by kernel_rfl

theorem Met.made (w : World) : Met (w.alloc (.map #[] 0)) w.heap.size 0 (fun _ => false) :=
  ⟨.map [], World.ownsMap_made w _ _ _, ⟨_, rfl⟩, fun i _ => rfl⟩

theorem Met.kept {w w' : World} {b n : Nat} {f : Nat → Bool} (h : Met w b n f) (hb : w'.heap[b]? = w.heap[b]?) : Met w' b n f := by
  obtain ⟨D, ⟨es, clock, h1, r⟩, h2⟩ := h
  exact ⟨D, ⟨es, clock, hb.trans h1, r⟩, h2⟩

theorem Met.lt {w : World} {b n : Nat} {f : Nat → Bool} (h : Met w b n f) : b < w.heap.size := by
  obtain ⟨D, h1, h2⟩ := h; exact h1.lt

theorem Met.mono {w : World} {b n m : Nat} {f : Nat → Bool} (h : Met w b n f) (hm : n ≤ m) : Met w b m f := by
  obtain ⟨D, h1, h2⟩ := h; exact ⟨D, h1.mono hm, h2⟩

theorem Met.look {w : World} {b n : Nat} {f : Nat → Bool} (h : Met w b n f) (i : Nat) (hi : i ≤ 1000000) :
    (Instr.lookup 111 (.map (some b)) (.int .i64 (i : Int)) false).run Try.prog w = .ok (.bool (f i)) w := by
  obtain ⟨D, h1, h2, h3⟩ := h
  obtain ⟨v, ps, hr, hv⟩ := h1.lookup klaw Try.underlying111 (zero_bool w) (plainElem_bool Try.underlying4 false) (key_int i hi)
  rw [h3 i hi] at hv
  rw [hr]
  obtain ⟨a, rfl, ha⟩ := plainElem_bool_inv Try.underlying4 hv
  have : f i = a := (by simpa using ha : _ ∧ _).1
  rw [this]

theorem Met.put {w : World} {b n : Nat} {f : Nat → Bool} (h : Met w b n f) (hn : n < 1000000) (i : Nat) (hi : i ≤ 1000000) :
    ∃ w', (Instr.mapUpdate 111 (.map (some b)) (.int .i64 (i : Int)) (.bool true)).run Try.prog w = .ok () w' ∧ Met w' b (n + 1) (fun k => f k || k == i) ∧ w.grownBy w' (some b) := by
  obtain ⟨D, h1, h2, h3⟩ := h
  obtain ⟨w', hr, ho, hg⟩ := h1.update klaw Try.underlying111 (by unfold maxLen; omega) (key_int i hi) (plainElem_bool (H := Unit) Try.underlying4 true)
  refine ⟨w', hr, ⟨_, ho, ?_, ?_⟩, hg⟩
  · obtain ⟨es, rfl⟩ := h2
    exact ⟨_, rfl⟩
  · intro k hk
    by_cases he : k = i
    · subst he
      rw [atKey_put_same h2 (by trivial)]
      simp
    · rw [atKey_put_other (by intro h; injection h with _ h; omega), h3 k hk]
      simp [he]

section
variable {F : Fence} {nF : Nat} {w : World} {ops : Array Oper} {rest : List Oper} {o : Oper} {a : Act} {Q : Exit → Act → World → Prop}

theorem wpListIn_met_put (hg : o.guard = none) (m x v : Operand) (hop : o.op = Op.mapUpdate 111 m x v ∨ o.op = Op.insert 111 m x v) (b n : Nat) (f : Nat → Bool) (i : Nat)
    (hm : a.eval m = .map (some b)) (hx : a.eval x = .int .i64 (i : Int)) (hv : a.eval v = .bool true) (h : Met w b n f) (hn : n < 1000000) (hi : i ≤ 1000000)
    (hK : ∀ w', Met w' b (n + 1) (fun k => f k || k == i) → w.grownBy w' (some b) → wpListIn F nF Try.prog ops Q rest (a.put o.dst undef) w') :
    wpListIn F nF Try.prog ops Q (o :: rest) a w := by
  obtain ⟨w', hr, h1, h2⟩ := h.put hn i hi
  refine wpListIn_plain hg fun K' hK' => ?_
  unfold Oper.wpIn
  rcases hop with hop | hop
  all_goals
    refine ⟨by simp [Oper.about, hop], ?_⟩
    rw [Oper.semAt_plain F _ _ (by rw [hop]; intro c hc'; cases hc')]
    simp [execOp, hop, hm, hx, hv, hr, Result.andThen]
    exact hK' _ _ (hK w' h1 h2)

theorem wpListIn_met_look (hg : o.guard = none) (m x : Operand) (hop : o.op = Op.lookup 111 m x false) (b n : Nat) (f : Nat → Bool) (i : Nat)
    (hm : a.eval m = .map (some b)) (hx : a.eval x = .int .i64 (i : Int)) (h : Met w b n f) (hi : i ≤ 1000000)
    (hK : wpListIn F nF Try.prog ops Q rest (a.put o.dst (.bool (f i))) w) :
    wpListIn F nF Try.prog ops Q (o :: rest) a w := by
  have hr := h.look i hi
  refine wpListIn_plain hg fun K' hK' => ?_
  unfold Oper.wpIn
  refine ⟨by simp [Oper.about, hop], ?_⟩
  rw [Oper.semAt_plain F _ _ (by rw [hop]; intro c hc'; cases hc')]
  simp [execOp, hop, hm, hx, hr, Result.andThen]
  exact hK' _ _ hK
end

/-! Leaving a function that has run ranges over functions -/
def Marks (base : Nat) (W : World) (ds : List Deferred) : Prop :=
  ∃ Ks : List Nat, ds = Ks.map (fun K => { target := .collected K, args := #[] }) ∧ Ks.Nodup ∧ ∀ K ∈ Ks, base ≤ K ∧ W.heap[K]? = some (.deferred (some []))

/-- What was no mark is as it was. -/
structure Closed (base : Nat) (A B : World) : Prop where
  below : Below base A B
  same : B.heap.size = A.heap.size
  block : ∀ (k : Nat) (o : Obj), A.heap[k]? = some o → (∀ ds, o ≠ Obj.deferred ds) → B.heap[k]? = some o

theorem Marks.nil (base : Nat) (W : World) : Marks base W [] := ⟨[], rfl, List.nodup_nil, by simp⟩

theorem Marks.kept {base : Nat} {W W' : World} {ds : List Deferred} (h : Marks base W ds) (hk : ∀ k, base ≤ k → W.heap[k]? = some (.deferred (some [])) → W'.heap[k]? = some (.deferred (some []))) : Marks base W' ds := by
  obtain ⟨Ks, h1, h2, h3⟩ := h
  exact ⟨Ks, h1, h2, fun K hK => ⟨(h3 K hK).1, hk K (h3 K hK).1 (h3 K hK).2⟩⟩

theorem Marks.cons {base : Nat} {W W' : World} {ds : List Deferred} (h : Marks base W ds) (hk : ∀ k, base ≤ k → W.heap[k]? = some (.deferred (some [])) → W'.heap[k]? = some (.deferred (some []))) (K : Nat) (hK : W.heap.size ≤ K) (hb : base ≤ K) (hn : W'.heap[K]? = some (.deferred (some []))) : Marks base W' ({ target := .collected K, args := #[] } :: ds) := by
  obtain ⟨Ks, h1, h2, h3⟩ := h
  refine ⟨K :: Ks, by rw [h1]; rfl, List.nodup_cons.2 ⟨fun hm => ?_, h2⟩, ?_⟩
  · have := (Array.getElem?_eq_some_iff.1 (h3 K hm).2).1
    omega
  · intro k hk'
    rcases List.mem_cons.1 hk' with rfl | hk'
    · exact ⟨hb, hn⟩
    · exact ⟨(h3 k hk').1, hk k (h3 k hk').1 (h3 k hk').2⟩

theorem leaves_marks {F : Fence} {n : Nat} {P : Program} {fn : Func} {tmps : Array Value} {R : Ending → World → Prop} {base : Nat} : ∀ (ds : List Deferred) (W : World), Marks base W ds →
    (∀ W', Closed base W W' → LeavesIn F n P fn tmps R [] .returning W') → LeavesInM F n P fn tmps R ds .returning W
  | [], W, _, h => h W ⟨Below.refl _ _, rfl, fun _ _ h _ => h⟩
  | d :: ds, W, hm, h => by
    obtain ⟨Ks, h1, h2, h3⟩ := hm
    cases Ks with
    | nil => simp at h1
    | cons K Ks =>
      simp only [List.map_cons, List.cons.injEq] at h1
      obtain ⟨rfl, rfl⟩ := h1
      obtain ⟨hK, hn⟩ := List.nodup_cons.1 h2
      have hKb := h3 K (by simp)
      refine ⟨by simp, .inl ⟨K, _, rfl, run_takeDeferred hKb.2, ?_⟩⟩
      refine leaves_marks _ _ ⟨Ks, rfl, hn, fun k hk => ⟨(h3 k (by simp [hk])).1, (World.putObj_heap_other (by rintro rfl; exact hK hk)).trans (h3 k (by simp [hk])).2⟩⟩ ?_
      intro W' hc
      refine h W' ⟨(below_put _ _ _ hKb.1).trans hc.below, hc.same.trans (by simp), fun k o ho hno => hc.block k o ?_ hno⟩
      rw [← ho]
      refine World.putObj_heap_other ?_
      rintro rfl
      rw [hKb.2] at ho
      injection ho with ho
      exact hno _ ho.symm
end Go.Proofs.Ytfjbanfibmpalaa

/- Contract: check.Reach. -/
set_option linter.unusedVariables false
set_option linter.unusedSimpArgs false
namespace Go.Proofs.Ytfjbanfibmpalaa
open Go.RowKit Go.Shelf
attribute [local go_sem] Oper.semAt_some

/-- All but block mb is as it was. -/
structure KeepX (mb : Nat) (A B : World) : Prop where
  os : B.os = A.os
  tape : B.tape = A.tape
  output : B.output = A.output
  size : A.heap.size ≤ B.heap.size
  block : ∀ k, k < A.heap.size → k ≠ mb → B.heap[k]? = A.heap[k]?

/-- Between the rounds of check.Reach. -/
structure RI (w : World) (N0 mb bx n : Nat) (f : Nat → Bool) (R : Option Addr) (c : Nat) (out : List Nat) (ds : List Deferred) (W : World) : Prop where
  own : EN.Own 3 W N0 R c out
  met : Met W mb n f
  box : W.heap[bx]? = some (.cells #[.map (some mb)] 111 (0, 0))
  below : Below w.heap.size w W
  marks : Marks N0 W ds
  size : N0 ≤ W.heap.size
  h1 : w.heap.size ≤ mb
  h2 : mb < N0
  h3 : bx < N0
  h4 : mb ≠ bx

section
variable {w : World} {N0 mb bx n : Nat} {f : Nat → Bool} {R : Option Addr} {c : Nat} {out : List Nat} {ds : List Deferred} {W W' : World}

theorem RI.step (h : RI w N0 mb bx n f R c out ds W) (hb : Below W.heap.size W W') : RI w N0 mb bx n f R c out ds W' :=
  ⟨h.own.below hb (Nat.le_refl _), h.met.kept (hb.block _ h.met.lt), (hb.block _ (Nat.lt_of_lt_of_le h.h3 h.size)).trans h.box, h.below.trans (hb.mono h.below.size),
    h.marks.kept (fun k _ hk => (hb.block _ (Array.getElem?_eq_some_iff.1 hk).1).trans hk), Nat.le_trans h.size hb.size, h.h1, h.h2, h.h3, h.h4⟩

theorem own_cells {g : Nat} (h : EN.Own 3 W N0 R c out) (hg : (Value.slice R out.length c).ownBlock = some g) : N0 ≤ g ∧ ∃ cs e s, W.heap[g]? = some (.cells cs e s) := by
  rcases h.2 with ⟨h1, h2⟩ | ⟨g', cap, cur, h1, h2, h3, r⟩
  · rw [h1] at hg
    simp [Value.ownBlock] at hg
  · rw [h1] at hg
    simp [Value.ownBlock] at hg
    subst hg
    exact ⟨h2, _, _, _, h3⟩

theorem RI.grow {R' : Option Addr} {c' : Nat} {out' : List Nat} (h : RI w N0 mb bx n f R c out ds W) (hg : W.grownBy W' (Value.slice R out.length c).ownBlock) (ho : EN.Own 3 W' N0 R' c' out') : RI w N0 mb bx n f R' c' out' ds W' := by
  have hne : ∀ k, k < N0 → k < W.heap.size → W'.heap[k]? = W.heap[k]? := fun k hk hl => hg.block k hl (fun e => by
    have := (own_cells h.own e.symm).1; omega)
  have hsz := h.size
  have q1 := h.h1
  have q2 := h.h2
  have q3 := h.h3
  refine ⟨ho, h.met.kept (hne _ h.h2 h.met.lt), (hne _ h.h3 (by omega)).trans h.box, ⟨hg.os.trans h.below.os, hg.tape.trans h.below.tape, hg.output.trans h.below.output, Nat.le_trans h.below.size hg.size, fun k hk => (hne k (by omega) (by omega)).trans (h.below.block k hk)⟩, ?_, Nat.le_trans h.size hg.size, h.h1, h.h2, h.h3, h.h4⟩
  refine h.marks.kept (fun k _ hk => ?_)
  rw [← hk]
  refine hg.block k (Array.getElem?_eq_some_iff.1 hk).1 (fun e => ?_)
  obtain ⟨_, cs, e1, s1, hc⟩ := own_cells h.own e.symm
  rw [hk] at hc
  cases hc

theorem RI.keepX {n' : Nat} {f' : Nat → Bool} (h : RI w N0 mb bx n f R c out ds W) (hk : KeepX mb W W') (hm : Met W' mb n' f') (d : Nat) (hd : W.heap.size ≤ d) (hdd : W'.heap[d]? = some (.deferred (some []))) :
    RI w N0 mb bx n' f' R c out ({ target := .collected d, args := #[] } :: ds) W' := by
  have hsz := h.size
  have q1 := h.h1
  have q2 := h.h2
  have q3 := h.h3
  have hB : Below w.heap.size w W' := ⟨hk.os.trans h.below.os, hk.tape.trans h.below.tape, hk.output.trans h.below.output, Nat.le_trans h.below.size hk.size, fun k hk' => (hk.block k (by omega) (by omega)).trans (h.below.block k hk')⟩
  refine ⟨⟨h.own.1, h.own.2.imp id ?_⟩, hm, (hk.block _ (by omega) (fun e => h.h4 e.symm)).trans h.box, hB, ?_, Nat.le_trans hsz hk.size, q1, q2, q3, h.h4⟩
  · rintro ⟨g, cap, cur, e1, e2, e3, r⟩
    exact ⟨g, cap, cur, e1, e2, (hk.block g (Array.getElem?_eq_some_iff.1 e3).1 (by omega)).trans e3, r⟩
  · refine h.marks.cons (fun k hk1 hk2 => (hk.block k (Array.getElem?_eq_some_iff.1 hk2).1 (by omega)).trans hk2) d hd (by omega) hdd
end

theorem Enc.Rd.one_at {α : Type} (E : Enc α) (w : World) (e : TypeId) (x : α) (cs : Array Value) (hcs : cs = (E.enc x).toArray) (g : Nat) (hg : g = w.heap.size) : E.Rd (w.alloc (.cells cs e)) (some ⟨g, 0, none⟩) [x] := by
  subst hg
  exact Enc.Rd.one_new E w e x cs hcs

theorem Met.congr {w : World} {b n : Nat} {f g : Nat → Bool} (h : Met w b n f) (hf : ∀ q, f q = g q) : Met w b n g := by
  have := funext hf
  subst this
  exact h

theorem RI.congr {w : World} {N0 mb bx n n' : Nat} {f g : Nat → Bool} {R : Option Addr} {c : Nat} {out : List Nat} {ds : List Deferred} {W : World} (h : RI w N0 mb bx n f R c out ds W) (hf : ∀ q, f q = g q) (hn : n ≤ n') : RI w N0 mb bx n' g R c out ds W :=
  ⟨h.own, (h.met.congr hf).mono hn, h.box, h.below, h.marks, h.size, h.h1, h.h2, h.h3, h.h4⟩

/-- The i-th of them. -/
def nth (ns : List Nat) (i : Nat) : Nat := ns.getD i 0

theorem contains_take (ns : List Nat) (i q : Nat) (hi : i < ns.length) : (ns.take (i + 1)).contains q = ((ns.take i).contains q || q == nth ns i) := by
  unfold nth
  have : ns.take (i + 1) = ns.take i ++ [ns.getD i 0] := by
    rw [List.take_succ_eq_append_getElem hi]; simp [hi]
  rw [this, List.contains_eq_any_beq, List.any_append, ← List.contains_eq_any_beq]
  simp

theorem nexts_le (x : Insn) (hx : x.Ok) (i : Nat) (hi : i ≤ 255) : ∀ k ∈ nexts x i, k ≤ 1000000 := by
  have h1 := hx.jt
  have h2 := hx.jf
  intro k hk
  unfold nexts at hk
  (repeat' split at hk) <;> simp at hk <;> omega

theorem nexts_len (x : Insn) (i : Nat) : (nexts x i).length ≤ 2 := by
  unfold nexts
  (repeat' split) <;> simp

set_option maxRecDepth 100000 in
set_option maxHeartbeats 1000000 in
theorem reach_good (A : Option Addr) (cap : Nat) (l : List Insn) (w : World) (hl : RdP w A l) (hc : (check l).2 = 0) :
    Calls Try.prog 40 #[.slice A l.length cap] w fun e w' => ∃ R c, e = .returned (.tuple #[.slice R (reach l).length c, .int .i64 0]) ∧ EN.Own 3 w' w.heap.size R c (reach l) ∧ Below w.heap.size w w' := by
  have hlen := check_len hc
  have HC := Lib.hid hc
  have HL := Lib.hid hl
  clear hc hl
  refine (callsIn_wide (n := 0)).1 ?_
  refine callsIn_of_wp_marks Try.func40 rfl trivial ?_ rfl
  simp only [Try.ntmps40, List.size_toArray, List.length_cons, List.length_nil, Nat.reduceAdd, Nat.reduceSub, Array.replicate_succ, Array.replicate_zero, List.push_toArray, List.append_toArray, List.nil_append, List.cons_append]
  have hwf : ∀ k, Fence.wide.fn k := fun _ => trivial
  have hwd : Fence.wide.depth = none := rfl
  have hmm := @run_makeMap Try.prog
  gi_wp2_with (first
    | (gi_at_call 27; refine (callsIn_wide.2 (check_any A cap l _ HL.out)).mono ?_; rw [HC.out]; rintro e w1 ⟨rfl, hb⟩; have HB := Lib.hid hb; clear hb)
    | (refine wpListIn_met_put rfl _ _ _ (.inr rfl) w1.heap.size 0 _ 0 rfl rfl rfl (Met.made w1) (by omega) (by omega) ?_; intro w2 hmet hgrow; have HM := Lib.hid hmet; have HG := Lib.hid hgrow; clear hmet hgrow))
  have hN : w1.heap.size + 1 ≤ w2.heap.size := by have := HG.out.size; simpa using this
  have hR0 : RI w (w2.heap.size + 1) w1.heap.size w2.heap.size 1 (metAt l 0) none 0 (outAt l 0) [] (w2.alloc (.cells #[.map (some w1.heap.size)] 111)) := by
    have hb2 : Below w.heap.size w w2 := (HB.out.alloc HB.out.size _).grown HG.out (by have := HB.out.size; simp; omega) (fun k hk => by cases hk; exact HB.out.size)
    have q := HB.out.size
    refine ⟨Enc.Own.nil, Met.kept HM.out (Below.heap_alloc _ _ _ (by omega)), heap_alloc_new w2 _, hb2.alloc (by omega) _, Marks.nil _ _, by simp, q, by omega, by omega, by omega⟩
  generalize w1.heap.size = mb at *
  generalize hbx : w2.heap.size = bx at *
  obtain ⟨W0, hW0⟩ : ∃ W0, W0 = w2.alloc (.cells #[.map (some mb)] 111) := ⟨_, rfl⟩
  rw [← hW0] at hR0 ⊢
  have HR0 := Lib.hid hR0
  clear hR0 hW0 HM HG HB hN hbx
  refine wpIn_loop (fun a W => ∃ (k : Nat) (R : Option Addr) (c : Nat) (ds : List Deferred) (u8 u9 u10 u24 u25 u26 u27 u28 u29 u30 u31 u32 u33 u34 u35 u36 u37 u38 u39 u40 u41 u42 : Value), k ≤ l.length ∧ RI w (bx + 1) mb bx (1 + 2 * k) (metAt l k) R c (outAt l k) ds W ∧ a = ⟨#[.slice A l.length cap, undef, .slice none 0 0, .int .i64 0, .int .i64 (check l).1, .int .i64 0, .pointer (some ⟨bx, 0, none⟩), .slice R (outAt l k).length c, u8, u9, u10, .tuple #[.int .i64 (check l).1, .int .i64 0], .slice A l.length cap, .tuple #[.int .i64 (check l).1, .int .i64 0], .int .i64 (check l).1, .int .i64 0, .int .i64 0, .bool false, undef, .map (some mb), .map (some mb), .slice A l.length cap, .int .i64 ((l.length : Nat) : Int), .int .i64 ((k : Nat) : Int), u24, u25, u26, u27, u28, u29, u30, u31, u32, u33, u34, u35, u36, u37, u38, u39, u40, u41, u42, undef], ds⟩)
    (fun a _ => l.length - (intOf (a.tmps.getD 23 undef)).toNat) ?start ?round
  case start =>
    refine ⟨0, none, 0, [], undef, undef, undef, undef, undef, undef, undef, undef, undef, undef, undef, undef, undef, undef, undef, undef, undef, undef, undef, undef, undef, undef, Nat.zero_le _, HR0.out, rfl⟩
  case round =>
    rintro _ W ⟨k, R, c, ds, u8, u9, u10, u24, u25, u26, u27, u28, u29, u30, u31, u32, u33, u34, u35, u36, u37, u38, u39, u40, u41, u42, hk, hRI, rfl⟩
    have HRI := Lib.hid hRI
    clear hRI HR0
    have hbm : W.cell? ⟨bx, 0, none⟩ = some (.map (some mb)) := cell_of_row _ _ _ _ _ _ HRI.out.box
    have hbf : W.frozen? ⟨bx, 0, none⟩ = false := by simp [World.frozen?, HRI.out.box]
    by_cases hlt : k < l.length
    · obtain ⟨b, o, rfl, hb, hcells⟩ := HL.out.get (i := k) hlt
      have hI := (hcells k hlt).keep (fun o => HRI.out.below.cell (p := ⟨b, o, none⟩) hb)
      have hx := HL.out.ok _ (List.getElem_mem hlt)
      have hxd : l.getD k default = l[k] := by simp [hlt]
      generalize hx0 : l[k] = x at *
      have HX := Lib.hid hx0
      have HXD := Lib.hid hxd
      obtain ⟨h0, h1, h2, h3⟩ := hI
      clear hcells hx0 hxd
      have hsz := HRI.out.size
      have hbW : bx < W.heap.size := by omega
      have q1 := HRI.out.h1
      have q2 := HRI.out.h2
      by_cases hm : metAt l k k = true
      · have HM := Lib.hid hm
        clear hm
        have hol := outAt_len l k
        have HOUT := Lib.hid (show outAt l (k + 1) = outAt l k ++ [k] by rw [outAt, if_pos HM.out])
        have HMET := Lib.hid (show metAt l (k + 1) = fun q => metAt l k q || (nexts x k).contains q by rw [metAt, if_pos HM.out, HXD.out])
        have hown := HRI.out.own
        have HOWN := Lib.hid hown
        generalize outAt l k = out at *
        generalize hfm : metAt l k = fm at *
        clear hfm hown
        have hmk := HM.out
        gi_wp2_with (first
          | (gi_at_builtin; refine wpListIn_append_L EN 3 64 rfl (.tmp 32) (.tmp 34) rfl _ 8 Try.underlying64 info_int rfl (by decide) _ (bx + 1) R c out rfl (HRI.out.step (by (repeat (first | with_reducible exact Below.refl _ _ | with_reducible assumption | ((with_reducible refine Below.setCell ?_ ?hp _); case hp => (first | omega | (simp only [World.size_alloc, World.size_setCell, World.size_drew]; omega) | (simp; done) | (simp; omega))) | ((with_reducible refine Below.alloc ?_ ?hp _); case hp => (first | omega | (simp only [World.size_alloc, World.size_setCell, World.size_drew]; omega) | (simp; done) | (simp; omega))) | with_reducible refine Below.drew ?_ | with_reducible refine below_drewN ?_ _)))).own (some ⟨W.heap.size + 1, 0, none⟩) 1 [k] rfl (Enc.Rd.one_at EN _ _ k _ rfl _ (by simp only [World.size_alloc])) (by show out.length + 1 ≤ _; omega) (by decide) (by simp only [World.size_alloc]; omega) ?_; intro R' c' w3 hown3 hg hat; have HG := Lib.hid hg; have HR3 := Lib.hid ((HRI.out.step (by (repeat (first | with_reducible exact Below.refl _ _ | with_reducible assumption | ((with_reducible refine Below.setCell ?_ ?hp _); case hp => (first | omega | (simp only [World.size_alloc, World.size_setCell, World.size_drew]; omega) | (simp; done) | (simp; omega))) | ((with_reducible refine Below.alloc ?_ ?hp _); case hp => (first | omega | (simp only [World.size_alloc, World.size_setCell, World.size_drew]; omega) | (simp; done) | (simp; omega))) | with_reducible refine Below.drew ?_ | with_reducible refine below_drewN ?_ _)))).grow hg hown3); have hx3 : w3.heap[W.heap.size]? = some (.cells #[.int .u16 x.code, .int .u8 x.jt, .int .u8 x.jf, .int .u32 x.k] 36 (0, 0)) := (hg.block _ (by simp only [World.size_alloc]; omega) (fun e => by have := World.ownsRow.lt HOWN.out _ e.symm; omega)).trans ((Below.heap_alloc _ _ _ (by simp)).trans (heap_alloc_new W _)); have d0 : w3.cell? ⟨W.heap.size, 0, none⟩ = some (.int .u16 x.code) := cell_of_row _ _ _ _ _ _ hx3; have d1 : w3.cell? ⟨W.heap.size, 1, none⟩ = some (.int .u8 x.jt) := cell_of_row _ _ _ _ _ _ hx3; have d2 : w3.cell? ⟨W.heap.size, 2, none⟩ = some (.int .u8 x.jf) := cell_of_row _ _ _ _ _ _ hx3; have d3 : w3.cell? ⟨W.heap.size, 3, none⟩ = some (.int .u32 x.k) := cell_of_row _ _ _ _ _ _ hx3; clear hx3 hg hat hown3)
          | (gi_at_call 74; refine (callsIn_wide.2 (next_any x k w3)).mono ?_; rintro e w4 ⟨rfl, hw4⟩; have HW4 := Lib.hid hw4; clear hw4)
          | (refine wpListIn_met_look rfl _ _ rfl mb _ _ k rfl rfl (HRI.out.step (by (repeat (first | with_reducible exact Below.refl _ _ | with_reducible assumption | ((with_reducible refine Below.setCell ?_ ?hp _); case hp => (first | omega | (simp only [World.size_alloc, World.size_setCell, World.size_drew]; omega) | (simp; done) | (simp; omega))) | ((with_reducible refine Below.alloc ?_ ?hp _); case hp => (first | omega | (simp only [World.size_alloc, World.size_setCell, World.size_drew]; omega) | (simp; done) | (simp; omega))) | with_reducible refine Below.drew ?_ | with_reducible refine below_drewN ?_ _)))).met (by omega) ?_; rw [hmk]))
        have hs3 := HR3.out.size
        have hs4 : w4.heap.size = w3.heap.size + 2 := by rw [← HW4.out]; simp
        have hRI4 : RI w (bx + 1) mb bx (1 + 2 * k) fm R' c' (out ++ [k]) ds w4 := by rw [← HW4.out]; exact HR3.out.step (by (repeat (first | with_reducible exact Below.refl _ _ | with_reducible assumption | ((with_reducible refine Below.setCell ?_ ?hp _); case hp => (first | omega | (simp only [World.size_alloc, World.size_setCell, World.size_drew]; omega) | (simp; done) | (simp; omega))) | ((with_reducible refine Below.alloc ?_ ?hp _); case hp => (first | omega | (simp only [World.size_alloc, World.size_setCell, World.size_drew]; omega) | (simp; done) | (simp; omega))) | with_reducible refine Below.drew ?_ | with_reducible refine below_drewN ?_ _)))
        have hnl := nexts_len x k
        have hIt : Iter Try.prog 123 #[.pointer (some ⟨w3.heap.size, 0, none⟩), .pointer (some ⟨w3.heap.size + 1, 0, none⟩)] (ints (nexts x k)) w3.heap.size w4.heap.size w4 := by
          refine next_iter x hx k (by omega) _ _ _ _ _ ?_ ?_ ⟨by omega, by omega⟩ ⟨by omega, by omega⟩
          · rw [← HW4.out]; exact ⟨by simp [go_sem], by simp [go_sem], by simp [go_sem], by simp [go_sem]⟩
          · rw [← HW4.out]; simp [go_sem]
        have HIT := Lib.hid hIt
        have HR4 := Lib.hid hRI4
        have HNE := Lib.hid (nexts_le x hx k (by omega))
        have hlens : (ints (nexts x k)).length = (nexts x k).length := by simp [ints]
        clear hIt hRI4
        generalize nexts x k = ns at *
        refine rf_law (m := 0) (gf := 123) (lb := #[.pointer (some ⟨w3.heap.size, 0, none⟩), .pointer (some ⟨w3.heap.size + 1, 0, none⟩)]) rfl enters_next HIT.out (Nat.le_refl _) (fun i h => by simp [ints])
          (fun B => Below w4.heap.size w4 B)
          (fun K i B => KeepX mb w4 B ∧ Met B mb (1 + 2 * k + i) (fun q => fm q || (ns.take i).contains q))
          ?hI0 ?hI1 ?hI (Below.refl _ _) ?a1 ?assign ?body ?done
        case hI0 => exact fun A B h hs => h.trans hs
        case hI1 =>
          intro B h hs
          exact ⟨⟨h.os, h.tape, h.output, h.size, fun q hq _ => h.block q hq⟩, (HR4.out.met.kept (h.block _ (by omega))).congr (fun q => by simp)⟩
        case hI =>
          rintro K i B B' ⟨h1, h2⟩ hK hs
          have := h1.size
          exact ⟨⟨hs.os.trans h1.os, hs.tape.trans h1.tape, hs.output.trans h1.output, Nat.le_trans h1.size hs.size, fun q hq hne => (hs.block q (by omega) (by omega)).trans (h1.block q hq hne)⟩, h2.kept (hs.block mb (by omega) (by omega))⟩
        case assign =>
          intro lp i h B K hK
          have e : (ints ns)[i]'h = #[.int .i64 ((nth ns i : Nat) : Int)] := by
            have : i < ns.length := by omega
            simp [ints, this, nth]
          rw [e]
          gi_wp2
          exact hK
        case body =>
          rintro lp K i h B ⟨hkx, hmt⟩ hK hKW
          have hi : i < ns.length := by omega
          have hbx : B.heap[bx]? = some (.cells #[.map (some mb)] 111 (0, 0)) := (hkx.block bx (by omega) (fun e => HR4.out.h4 e.symm)).trans HR4.out.box
          have hbc : B.cell? ⟨bx, 0, none⟩ = some (.map (some mb)) := cell_of_row _ _ _ _ _ _ hbx
          have hle : nth ns i ≤ 1000000 := by
            have : nth ns i = ns[i] := by simp [nth, hi]
            rw [this]
            exact HNE.out _ (List.getElem_mem hi)
          have HCT := Lib.hid (fun q => contains_take ns i q hi)
          have HMT := Lib.hid hmt
          have HKX := Lib.hid hkx
          clear hmt hkx hbx
          generalize nth ns i = z at *
          gi_wp2_with (refine wpListIn_met_put rfl _ _ _ (.inl rfl) mb _ _ z rfl rfl rfl HMT.out (by omega) hle ?_; intro w6 hm6 hg6)
          have hsB := HKX.out.size
          refine ⟨(KpB.refl _ _ _ _ _).grown hg6 (fun q hq => by cases hq; omega), ⟨hg6.os.trans HKX.out.os, hg6.tape.trans HKX.out.tape, hg6.output.trans HKX.out.output, Nat.le_trans HKX.out.size hg6.size, fun q hq hne => (hg6.block q (by omega) (fun e => by cases e; exact hne rfl)).trans (HKX.out.block q hq hne)⟩, hm6.congr (fun q => ?_)⟩
          rw [HCT.out, Bool.or_assoc]
        case done =>
          rintro K B hK hKW ⟨hkx, hmt⟩ hD
          rw [hlens, List.take_length] at hmt
          have HF := Lib.hid ((HR4.out.keepX hkx hmt w4.heap.size (Nat.le_refl _) hD).congr (fun _ => rfl) (show _ ≤ 1 + 2 * (k + 1) by omega))
          clear hkx hmt hD
          gi_wp2
          have hk1 : ((k + 1 : Nat) : Int) = (k : Int) + 1 := by omega
          refine ⟨?_, ?measure⟩
          · refine ⟨k + 1, R', c', { target := .collected w4.heap.size, args := #[] } :: ds, ?_⟩
            rw [HOUT.out, HMET.out]
            (repeat apply Exists.intro)
            refine ⟨by omega, HF.out, ?_⟩
            rw [hk1, List.length_append]
            rfl
          case measure => simp [intOf]; omega
      · have HM := Lib.hid hm
        clear hm
        have hmb : (metAt l k k) = false := by simpa using HM.out
        gi_wp2_with (refine wpListIn_met_look rfl _ _ rfl mb _ _ k rfl rfl (HRI.out.step (by (repeat (first | with_reducible exact Below.refl _ _ | with_reducible assumption | ((with_reducible refine Below.setCell ?_ ?hp _); case hp => (first | omega | (simp only [World.size_alloc, World.size_setCell, World.size_drew]; omega) | (simp; done) | (simp; omega))) | ((with_reducible refine Below.alloc ?_ ?hp _); case hp => (first | omega | (simp only [World.size_alloc, World.size_setCell, World.size_drew]; omega) | (simp; done) | (simp; omega))) | with_reducible refine Below.drew ?_ | with_reducible refine below_drewN ?_ _)))).met (by omega) ?_; rw [hmb])
        have HMM := Lib.hid hmb
        refine ⟨?_, ?measure⟩
        · have e1 : outAt l (k + 1) = outAt l k := by rw [outAt, if_neg HM.out]
          have e2 : metAt l (k + 1) = metAt l k := by rw [metAt, if_neg HM.out]
          have hk1 : ((k + 1 : Nat) : Int) = (k : Int) + 1 := by omega
          refine ⟨k + 1, R, c, ds, ?_⟩
          rw [e1, e2]
          (repeat apply Exists.intro)
          refine ⟨by omega, (HRI.out.step (by (repeat (first | with_reducible exact Below.refl _ _ | with_reducible assumption | ((with_reducible refine Below.setCell ?_ ?hp _); case hp => (first | omega | (simp only [World.size_alloc, World.size_setCell, World.size_drew]; omega) | (simp; done) | (simp; omega))) | ((with_reducible refine Below.alloc ?_ ?hp _); case hp => (first | omega | (simp only [World.size_alloc, World.size_setCell, World.size_drew]; omega) | (simp; done) | (simp; omega))) | with_reducible refine Below.drew ?_ | with_reducible refine below_drewN ?_ _)))).congr (fun _ => rfl) (by omega), ?_⟩
          rw [hk1]
        case measure => simp [intOf]; omega
    · have hk' : k = l.length := by omega
      subst hk'
      gi_wp2
      refine leaves_marks (base := bx + 1) _ _ HRI.out.marks ?_
      intro W' hcl
      refine ⟨_, results_tmp2 rfl _ _ _, R, c, rfl, ?_, ?_⟩
      · have ho := HRI.out.own
        unfold reach
        refine ⟨ho.1, ho.2.imp id ?_⟩
        rintro ⟨g, cap', cur, e1, e2, e3, r⟩
        exact ⟨g, cap', cur, e1, Nat.le_trans (by have := HRI.out.h1; have := HRI.out.h2; omega) e2, hcl.block _ _ e3 (by intro ds h; cases h), r⟩
      · exact HRI.out.below.trans (hcl.below.mono (by have := HRI.out.h1; have := HRI.out.h2; omega))
end Go.Proofs.Ytfjbanfibmpalaa

/- Words: writing into rows of one's own; rows of truth values; rows made at once. -/
set_option linter.unusedVariables false
set_option linter.unusedSimpArgs false
namespace Go.Proofs.Ytfjbanfibmpalaa
open Go.RowKit Go.Shelf

theorem Enc.flat_set {α : Type} (E : Enc α) (y : α) (u : Value) (r : Nat) (hr : r < E.size) : ∀ (l : List α) (i : Nat) (hi : i < l.length), E.enc y = (E.enc (l[i]'hi)).set r u → E.flat (l.set i y) = (E.flat l).set (i * E.size + r) u
  | [], i, hi, _ => by simp at hi
  | x :: t, 0, hi, h => by
    have e1 : E.flat ((x :: t).set 0 y) = E.enc y ++ E.flat t := rfl
    have e2 : E.flat (x :: t) = E.enc x ++ E.flat t := rfl
    rw [e1, e2, h, Nat.zero_mul, Nat.zero_add, List.set_append_left _ _ (by rw [E.len]; exact hr)]
    rfl
  | x :: t, i + 1, hi, h => by
    have e1 : E.flat ((x :: t).set (i + 1) y) = E.enc x ++ E.flat (t.set i y) := rfl
    have e2 : E.flat (x :: t) = E.enc x ++ E.flat t := rfl
    have ih := Enc.flat_set E y u r hr t i (by simpa using hi) h
    rw [e1, e2, ih, List.set_append_right _ _ (by rw [E.len, Nat.succ_mul]; omega), E.len]
    rw [show (i + 1) * E.size + r - E.size = i * E.size + r by rw [Nat.succ_mul]; omega]

section
variable {α : Type} {E : Enc α} {e : TypeId} {w : World} {base : Nat} {A : Option Addr} {c : Nat} {l : List α}

/-- One cell of an element is written. -/
theorem Enc.Own.set {g : Nat} (h : E.Own e w base (some ⟨g, 0, none⟩) c l) (i : Nat) (hi : i < l.length) (r : Nat) (hr : r < E.size) (y : α) (u : Value) (hy : E.enc y = (E.enc (l[i]'hi)).set r u) (j : Nat) (hj : j = i * E.size + r) :
    E.Own e (w.setCell ⟨g, j, none⟩ u) base (some ⟨g, 0, none⟩) c (l.set i y) := by
  subst hj
  have hf := E.flat_set y u r hr l i hi hy
  obtain ⟨h1, h2⟩ := h
  refine ⟨by rw [E.flat_len, List.length_set], ?_⟩
  rcases h2 with ⟨h2, _⟩ | ⟨g', cap, cur, h2, h3, h4, h5, h6, h7, h8⟩
  · cases h2
  · have eg : g = g' := by injection h2 with a; injection a with a; injection a
    have ec : c = cap := by injection h2
    subst eg
    subst ec
    refine .inr ⟨g, c, cur.setIfInBounds (i * E.size + r) u, by rw [List.length_set], h3, heap_setCell_same w g _ cur e u h4, by rw [List.length_set]; exact h5, h6, by simpa using h7, ?_⟩
    rw [List.length_set, hf, ← h8, Array.toList_setIfInBounds, List.take_set]

theorem Enc.Own.setCell_ne {p : Addr} (h : E.Own e w base A c l) (hp : ∀ g, A = some ⟨g, 0, none⟩ → p.block ≠ g) (u : Value) : E.Own e (w.setCell p u) base A c l := by
  obtain ⟨h1, h2⟩ := h
  refine ⟨h1, h2.imp id ?_⟩
  rintro ⟨g, cap, cur, h2, h3, h4, r⟩
  exact ⟨g, cap, cur, h2, h3, (Below.heap_setCell _ _ _ _ (fun e => hp g (by injection h2) e.symm)).trans h4, r⟩
end

/-! Truth values in cells -/
def EB : Enc Bool := ⟨fun b => [.bool b], 1, fun _ => rfl, fun x u hu => by simp at hu; subst hu; rfl⟩

theorem info_bool : (Try.prog.info? 4).map (fun i => (i.zero, i.size, i.bytes)) = some (some (.bool false), 1, 1) := by kernel_rfl

theorem flat_one {α : Type} (E : Enc α) (f : α → Value) (hf : ∀ x, E.enc x = [f x]) (l : List α) : E.flat l = l.map f := by
  induction l with
  | nil => rfl
  | cons x t ih =>
    have e : E.flat (x :: t) = E.enc x ++ E.flat t := rfl
    rw [e, ih, hf]; rfl

/-- make([]T, n) for elements of one cell. -/
theorem make_own1 {α : Type} (E : Enc α) (f : α → Value) (hf : ∀ x, E.enc x = [f x]) (hE : E.size = 1) (z : α) {e : TypeId} {w : World} {base n : Nat} (hz : (f z).cells = #[f z]) {w' : World}
    (h' : w'.ownsRow base e 1 (.slice (some ⟨w.heap.size, 0, none⟩) n n) n (madeCells (f z).cells (n * 1)).toList) : E.Own e w' base (some ⟨w.heap.size, 0, none⟩) n (List.replicate n z) := by
  unfold Enc.Own
  rw [flat_one E f hf, hE, List.length_replicate]
  have : (madeCells (f z).cells (n * 1)).toList = (List.replicate n z).map f := by
    rw [hz]
    refine List.ext_getElem (by simp [madeCells]) ?_
    intro i h1 h2
    simp [madeCells, Nat.mod_one]
  rw [← this]
  exact h'
end Go.Proofs.Ytfjbanfibmpalaa

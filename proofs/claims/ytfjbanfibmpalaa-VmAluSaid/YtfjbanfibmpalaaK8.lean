/- Contracts: two rows are one. -/
import Derived.Test.YtfjbanfibmpalaaK7
import Derived.Deep.QuietTactic
import Derived.BigQuiet
set_option linter.unusedVariables false
set_option linter.unusedSimpArgs false
namespace Go.Proofs.Ytfjbanfibmpalaa
open Go.RowKit

theorem insn_eq_iff (x y : Insn) : x = y ↔ ((x.code : Int) = y.code ∧ (x.jt : Int) = y.jt ∧ (x.jf : Int) = y.jf ∧ (x.k : Int) = y.k) := by
  constructor
  · rintro rfl; exact ⟨rfl, rfl, rfl, rfl⟩
  · rintro ⟨h0, h1, h2, h3⟩; exact Insn.ext' (by omega) (by omega) (by omega) (by omega)

set_option maxHeartbeats 400000 in
theorem neq_insn (x y : Insn) (w : World) : (binOp .neq 36 (Value.agg #[.int .u16 x.code, .int .u8 x.jt, .int .u8 x.jf, .int .u32 x.k]) (Value.agg #[.int .u16 y.code, .int .u8 y.jt, .int .u8 y.jf, .int .u32 y.k])).run Try.prog w = .ok (.bool (!decide (x = y))) w := by
  go_simp
  simp only [insn_eq_iff]
  by_cases h0 : (x.code : Int) = y.code <;> by_cases h1 : (x.jt : Int) = y.jt <;> by_cases h2 : (x.jf : Int) = y.jf <;> by_cases h3 : (x.k : Int) = y.k <;> simp [h0, h1, h2, h3]

theorem list_eq_of {α : Type} (a b : List α) (hl : a.length = b.length) (h : ∀ j (h : j < a.length), a[j]'h = b[j]'(hl ▸ h)) : a = b :=
  List.ext_getElem hl fun j h1 h2 => h j h1

set_option maxHeartbeats 400000 in
theorem rsame_any (A B : Option Addr) (ca cb : Nat) (a b : List Insn) (w : World) (ha : RdP w A a) (hb : RdP w B b) :
    Calls Try.prog 22 #[.slice A a.length ca, .slice B b.length cb] w fun e w' => e = .returned (.bool (decide (a = b))) ∧ Below w.heap.size w w' := by
  have sa := ha.small
  have sb := hb.small
  by_cases hl : a.length = b.length
  · have hl1 : ((a.length : Int) != (b.length : Int)) = false := by simp; omega
    have HL := Lib.hid hl
    clear hl
    have HA := Lib.hid ha
    have HB := Lib.hid hb
    clear ha hb
    go_enter Try.func22, Try.ntmps22
    go_wp2
    go_loopw [13] (fun i wr => ∃ k : Nat, k ≤ a.length ∧ i = .int .i64 k ∧ (∀ j (h : j < a.length), j < k → a[j]'h = b[j]'(HL.out ▸ h)) ∧ Below w.heap.size w wr) (fun i _ => a.length - (intOf i).toNat)
    case atStart => exact ⟨0, by omega, rfl, fun j _ h => absurd h (by omega), Below.refl _ _⟩
    case round =>
      obtain ⟨k, hk, rfl, heq, hBel⟩ := hrel
      have HE := Lib.hid heq
      clear heq
      by_cases hlt : k < a.length
      · have hltb : k < b.length := HL.out ▸ hlt
        obtain ⟨ba, oa, rfl, hba, hca⟩ := HA.out.get hlt
        obtain ⟨bb, ob, rfl, hbb, hcb⟩ := HB.out.get hltb
        have hI := (hca k hlt).keep (fun o => hBel.cell (p := ⟨ba, o, none⟩) hba)
        have hJ := (hcb k hltb).keep (fun o => hBel.cell (p := ⟨bb, o, none⟩) hbb)
        have HCA := Lib.hid hca
        have HCB := Lib.hid hcb
        clear hca hcb
        have HD := Lib.hid (show ∀ (e : a[k] = b[k]) j (h : j < a.length), j < k + 1 → a[j]'h = b[j]'(HL.out ▸ h) from fun e j h hj => by
          by_cases hjk : j = k
          · subst hjk; exact e
          · exact HE.out j h (by omega))
        have HN := Lib.hid (show a[k] ≠ b[k] → a ≠ b from fun h e => h (by simp only [e]))
        generalize a[k] = x at *
        generalize b[k] = y at *
        obtain ⟨h0, h1, h2, h3⟩ := hI
        obtain ⟨g0, g1, g2, g3⟩ := hJ
        have hnq := neq_insn x y
        by_cases hxy : x = y
        · have hd : decide (x = y) = true := by simp [hxy]
          have HXY := Lib.hid hxy
          clear hxy
          go_wp2
          go_quiet (fail)
          go_wp2
          go_roundw
          case rel => exact ⟨k + 1, by omega, by go_num, HD.out HXY.out, below_drewN hBel _⟩
          case measure => simp [intOf]; omega
        · have hd : decide (x = y) = false := by simp [hxy]
          have HXY := Lib.hid hxy
          clear hxy
          go_wp2
          go_quiet (fail)
          go_wp2
          go_ret
          exact ⟨by rw [decide_eq_false (HN.out HXY.out)]; rfl, below_drewN hBel _⟩
      · have hab : a = b := list_eq_of a b HL.out fun j h => HE.out j h (by omega)
        have HAB := Lib.hid hab
        clear hab
        go_wp2
        go_ret
        exact ⟨by rw [decide_eq_true HAB.out]; rfl, hBel⟩
  · have hl1 : ((a.length : Int) != (b.length : Int)) = true := by simp; omega
    have hab := Lib.hid (show a ≠ b from fun e => hl (by rw [e]))
    clear hl ha hb
    go_enter Try.func22, Try.ntmps22
    go_wp2
    go_ret
    exact ⟨by rw [decide_eq_false hab.out]; rfl, Below.refl _ _⟩
set_option maxHeartbeats 400000 in
theorem equal_any (A B : Option Addr) (ca cb : Nat) (a b : List Insn) (w : World) (ha : RdP w A a) (hb : RdP w B b) :
    Calls Try.prog 42 #[.slice A a.length ca, .slice B b.length cb] w fun e w' => e = .returned (.bool (decide (a = b))) ∧ Below w.heap.size w w' := by
  have sa := ha.small
  have sb := hb.small
  by_cases hl : a.length = b.length
  · have hl1 : ((a.length : Int) != (b.length : Int)) = false := by simp; omega
    have HL := Lib.hid hl
    clear hl
    have HA := Lib.hid ha
    have HB := Lib.hid hb
    clear ha hb
    go_enter Try.func42, Try.ntmps42
    go_wp2
    go_loopw [13] (fun i wr => ∃ k : Nat, k ≤ a.length ∧ i = .int .i64 k ∧ (∀ j (h : j < a.length), j < k → a[j]'h = b[j]'(HL.out ▸ h)) ∧ Below w.heap.size w wr) (fun i _ => a.length - (intOf i).toNat)
    case atStart => exact ⟨0, by omega, rfl, fun j _ h => absurd h (by omega), Below.refl _ _⟩
    case round =>
      obtain ⟨k, hk, rfl, heq, hBel⟩ := hrel
      have HE := Lib.hid heq
      clear heq
      by_cases hlt : k < a.length
      · have hltb : k < b.length := HL.out ▸ hlt
        obtain ⟨ba, oa, rfl, hba, hca⟩ := HA.out.get hlt
        obtain ⟨bb, ob, rfl, hbb, hcb⟩ := HB.out.get hltb
        have hI := (hca k hlt).keep (fun o => hBel.cell (p := ⟨ba, o, none⟩) hba)
        have hJ := (hcb k hltb).keep (fun o => hBel.cell (p := ⟨bb, o, none⟩) hbb)
        have HCA := Lib.hid hca
        have HCB := Lib.hid hcb
        clear hca hcb
        have HD := Lib.hid (show ∀ (e : a[k] = b[k]) j (h : j < a.length), j < k + 1 → a[j]'h = b[j]'(HL.out ▸ h) from fun e j h hj => by
          by_cases hjk : j = k
          · subst hjk; exact e
          · exact HE.out j h (by omega))
        have HN := Lib.hid (show a[k] ≠ b[k] → a ≠ b from fun h e => h (by simp only [e]))
        generalize a[k] = x at *
        generalize b[k] = y at *
        obtain ⟨h0, h1, h2, h3⟩ := hI
        obtain ⟨g0, g1, g2, g3⟩ := hJ
        have hnq := neq_insn x y
        by_cases hxy : x = y
        · have hd : decide (x = y) = true := by simp [hxy]
          have HXY := Lib.hid hxy
          clear hxy
          go_wp2
          go_quiet (fail)
          go_wp2
          go_roundw
          case rel => exact ⟨k + 1, by omega, by go_num, HD.out HXY.out, below_drewN hBel _⟩
          case measure => simp [intOf]; omega
        · have hd : decide (x = y) = false := by simp [hxy]
          have HXY := Lib.hid hxy
          clear hxy
          go_wp2
          go_quiet (fail)
          go_wp2
          go_ret
          exact ⟨by rw [decide_eq_false (HN.out HXY.out)]; rfl, below_drewN hBel _⟩
      · have hab : a = b := list_eq_of a b HL.out fun j h => HE.out j h (by omega)
        have HAB := Lib.hid hab
        clear hab
        go_wp2
        go_ret
        exact ⟨by rw [decide_eq_true HAB.out]; rfl, hBel⟩
  · have hl1 : ((a.length : Int) != (b.length : Int)) = true := by simp; omega
    have hab := Lib.hid (show a ≠ b from fun e => hl (by rw [e]))
    clear hl ha hb
    go_enter Try.func42, Try.ntmps42
    go_wp2
    go_ret
    exact ⟨by rw [decide_eq_false hab.out]; rfl, Below.refl _ _⟩
set_option maxHeartbeats 400000 in
theorem equalp_any (A B : Option Addr) (ca cb : Nat) (a b : List Insn) (w : World) (ha : RdP w A a) (hb : RdP w B b) :
    Calls Try.prog 96 #[.slice A a.length ca, .slice B b.length cb] w fun e w' => e = .returned (.bool (decide (a = b))) ∧ Below w.heap.size w w' := by
  have sa := ha.small
  have sb := hb.small
  by_cases hl : a.length = b.length
  · have hl1 : ((a.length : Int) != (b.length : Int)) = false := by simp; omega
    have HL := Lib.hid hl
    clear hl
    have HA := Lib.hid ha
    have HB := Lib.hid hb
    clear ha hb
    go_enter Try.func96, Try.ntmps96
    go_wp2
    go_loopw [13] (fun i wr => ∃ k : Nat, k ≤ a.length ∧ i = .int .i64 k ∧ (∀ j (h : j < a.length), j < k → a[j]'h = b[j]'(HL.out ▸ h)) ∧ Below w.heap.size w wr) (fun i _ => a.length - (intOf i).toNat)
    case atStart => exact ⟨0, by omega, rfl, fun j _ h => absurd h (by omega), Below.refl _ _⟩
    case round =>
      obtain ⟨k, hk, rfl, heq, hBel⟩ := hrel
      have HE := Lib.hid heq
      clear heq
      by_cases hlt : k < a.length
      · have hltb : k < b.length := HL.out ▸ hlt
        obtain ⟨ba, oa, rfl, hba, hca⟩ := HA.out.get hlt
        obtain ⟨bb, ob, rfl, hbb, hcb⟩ := HB.out.get hltb
        have hI := (hca k hlt).keep (fun o => hBel.cell (p := ⟨ba, o, none⟩) hba)
        have hJ := (hcb k hltb).keep (fun o => hBel.cell (p := ⟨bb, o, none⟩) hbb)
        have HCA := Lib.hid hca
        have HCB := Lib.hid hcb
        clear hca hcb
        have HD := Lib.hid (show ∀ (e : a[k] = b[k]) j (h : j < a.length), j < k + 1 → a[j]'h = b[j]'(HL.out ▸ h) from fun e j h hj => by
          by_cases hjk : j = k
          · subst hjk; exact e
          · exact HE.out j h (by omega))
        have HN := Lib.hid (show a[k] ≠ b[k] → a ≠ b from fun h e => h (by simp only [e]))
        generalize a[k] = x at *
        generalize b[k] = y at *
        obtain ⟨h0, h1, h2, h3⟩ := hI
        obtain ⟨g0, g1, g2, g3⟩ := hJ
        have hnq := neq_insn x y
        by_cases hxy : x = y
        · have hd : decide (x = y) = true := by simp [hxy]
          have HXY := Lib.hid hxy
          clear hxy
          go_wp2
          go_quiet (fail)
          go_wp2
          go_roundw
          case rel => exact ⟨k + 1, by omega, by go_num, HD.out HXY.out, below_drewN hBel _⟩
          case measure => simp [intOf]; omega
        · have hd : decide (x = y) = false := by simp [hxy]
          have HXY := Lib.hid hxy
          clear hxy
          go_wp2
          go_quiet (fail)
          go_wp2
          go_ret
          exact ⟨by rw [decide_eq_false (HN.out HXY.out)]; rfl, below_drewN hBel _⟩
      · have hab : a = b := list_eq_of a b HL.out fun j h => HE.out j h (by omega)
        have HAB := Lib.hid hab
        clear hab
        go_wp2
        go_ret
        exact ⟨by rw [decide_eq_true HAB.out]; rfl, hBel⟩
  · have hl1 : ((a.length : Int) != (b.length : Int)) = true := by simp; omega
    have hab := Lib.hid (show a ≠ b from fun e => hl (by rw [e]))
    clear hl ha hb
    go_enter Try.func96, Try.ntmps96
    go_wp2
    go_ret
    exact ⟨by rw [decide_eq_false hab.out]; rfl, Below.refl _ _⟩
end Go.Proofs.Ytfjbanfibmpalaa

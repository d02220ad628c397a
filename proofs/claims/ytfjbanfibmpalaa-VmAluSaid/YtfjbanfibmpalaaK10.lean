/- Contracts: copies of rows of instructions. -/
import Derived.Lib.SliceRun
import Derived.Test.YtfjbanfibmpalaaK8
import Derived.Test.YtfjbanfibmpalaaK9
set_option linter.unusedVariables false
set_option linter.unusedSimpArgs false
namespace Go.Proofs.Ytfjbanfibmpalaa
open Go.RowKit

theorem info_insn : (Try.prog.info? 36).map (fun i => (i.zero, i.size, i.bytes)) = some (some (.agg #[.int .u16 0, .int .u8 0, .int .u8 0, .int .u32 0]), EI.size, 8) := by kernel_rfl

set_option maxHeartbeats 400000 in
theorem copied_any (A : Option Addr) (c : Nat) (l : List Insn) (w : World) (hl : EI.Rd w A l) (hlen : l.length ≤ 1000000) :
    Calls Try.prog 101 #[.slice A l.length c] w fun e w' => ∃ A' c', e = .returned (.slice A' l.length c') ∧ EI.Own 36 w' w.heap.size A' c' l ∧ Below w.heap.size w w' := by
  have hl1 : EI.Rd (w.alloc (.cells #[] 36)) A l := hl.below (B := w.heap.size) (by (repeat (first | with_reducible exact Below.refl _ _ | with_reducible assumption | ((with_reducible refine Below.setCell ?_ ?hp _); case hp => (first | omega | (simp only [World.size_alloc, World.size_setCell, World.size_drew]; omega) | (simp; done) | (simp; omega))) | ((with_reducible refine Below.alloc ?_ ?hp _); case hp => (first | omega | (simp only [World.size_alloc, World.size_setCell, World.size_drew]; omega) | (simp; done) | (simp; omega))) | with_reducible refine Below.drew ?_ | with_reducible refine below_drewN ?_ _))) (Nat.le_refl _)
  have HL := Lib.hid hl1
  clear hl hl1
  go_enter Try.func101, Try.ntmps101
  go_wp2_with (at_builtin; refine wpList_append_L EI 36 24 rfl (.tmp 3) (.tmp 4) rfl _ 8 Try.underlying24 info_insn rfl (by decide) _ w.heap.size (some ⟨w.heap.size, 0, none⟩) 0 [] rfl (Enc.Own.fresh EI w _) A c l rfl HL.out (by simp; omega) (by decide) (by simp) ?_; intro A' c' w' hown hg hat)
  go_ret
  exact ⟨A', c', rfl, hown, below_append (by (repeat (first | with_reducible exact Below.refl _ _ | with_reducible assumption | ((with_reducible refine Below.setCell ?_ ?hp _); case hp => (first | omega | (simp only [World.size_alloc, World.size_setCell, World.size_drew]; omega) | (simp; done) | (simp; omega))) | ((with_reducible refine Below.alloc ?_ ?hp _); case hp => (first | omega | (simp only [World.size_alloc, World.size_setCell, World.size_drew]; omega) | (simp; done) | (simp; omega))) | with_reducible refine Below.drew ?_ | with_reducible refine below_drewN ?_ _))) (Enc.Own.fresh EI w _) hg (by simp)⟩
set_option maxHeartbeats 400000 in
theorem copied5_any (A : Option Addr) (c : Nat) (l : List Insn) (w : World) (hl : EI.Rd w A l) (hlen : l.length ≤ 1000000) :
    Calls Try.prog 35 #[.slice A l.length c] w fun e w' => ∃ A' c', e = .returned (.slice A' l.length c') ∧ EI.Own 36 w' w.heap.size A' c' l ∧ Below w.heap.size w w' := by
  have hl1 : EI.Rd (w.alloc (.cells #[] 36)) A l := hl.below (B := w.heap.size) (by (repeat (first | with_reducible exact Below.refl _ _ | with_reducible assumption | ((with_reducible refine Below.setCell ?_ ?hp _); case hp => (first | omega | (simp only [World.size_alloc, World.size_setCell, World.size_drew]; omega) | (simp; done) | (simp; omega))) | ((with_reducible refine Below.alloc ?_ ?hp _); case hp => (first | omega | (simp only [World.size_alloc, World.size_setCell, World.size_drew]; omega) | (simp; done) | (simp; omega))) | with_reducible refine Below.drew ?_ | with_reducible refine below_drewN ?_ _))) (Nat.le_refl _)
  have HL := Lib.hid hl1
  clear hl hl1
  go_enter Try.func35, Try.ntmps35
  go_wp2_with (at_builtin; refine wpList_append_L EI 36 24 rfl (.tmp 3) (.tmp 4) rfl _ 8 Try.underlying24 info_insn rfl (by decide) _ w.heap.size (some ⟨w.heap.size, 0, none⟩) 0 [] rfl (Enc.Own.fresh EI w _) A c l rfl HL.out (by simp; omega) (by decide) (by simp) ?_; intro A' c' w' hown hg hat)
  go_ret
  exact ⟨A', c', rfl, hown, below_append (by (repeat (first | with_reducible exact Below.refl _ _ | with_reducible assumption | ((with_reducible refine Below.setCell ?_ ?hp _); case hp => (first | omega | (simp only [World.size_alloc, World.size_setCell, World.size_drew]; omega) | (simp; done) | (simp; omega))) | ((with_reducible refine Below.alloc ?_ ?hp _); case hp => (first | omega | (simp only [World.size_alloc, World.size_setCell, World.size_drew]; omega) | (simp; done) | (simp; omega))) | with_reducible refine Below.drew ?_ | with_reducible refine below_drewN ?_ _))) (Enc.Own.fresh EI w _) hg (by simp)⟩
set_option maxHeartbeats 400000 in
theorem clone_any (A : Option Addr) (c : Nat) (l : List Insn) (w : World) (hl : EI.Rd w A l) (hlen : l.length ≤ 1000000) :
    Calls Try.prog 28 #[.slice A l.length c] w fun e w' => ∃ A' c', e = .returned (.slice A' l.length c') ∧ EI.Own 36 w' w.heap.size A' c' l ∧ Below w.heap.size w w' := by
  have hl1 : EI.Rd (w.alloc (.cells #[] 36)) A l := hl.below (B := w.heap.size) (by (repeat (first | with_reducible exact Below.refl _ _ | with_reducible assumption | ((with_reducible refine Below.setCell ?_ ?hp _); case hp => (first | omega | (simp only [World.size_alloc, World.size_setCell, World.size_drew]; omega) | (simp; done) | (simp; omega))) | ((with_reducible refine Below.alloc ?_ ?hp _); case hp => (first | omega | (simp only [World.size_alloc, World.size_setCell, World.size_drew]; omega) | (simp; done) | (simp; omega))) | with_reducible refine Below.drew ?_ | with_reducible refine below_drewN ?_ _))) (Nat.le_refl _)
  have HL := Lib.hid hl1
  cases A with
  | none =>
    have h0 : l = [] := Classical.byContradiction fun h => by obtain ⟨b, o, h1, _⟩ := hl.at_ h; cases h1
    subst h0
    clear hl hl1
    have hnil := fun (w : World) => Lib.run_eql_slice_nil (P := Try.prog) w 24 36 none 0 c 0 0 Try.underlying24
    go_enter Try.func28, Try.ntmps28
    go_wp2
    go_ret
    exact ⟨none, 0, rfl, Enc.Own.nil, Below.refl _ _⟩
  | some ad =>
    clear hl hl1
    have hnil := fun (w : World) => Lib.run_eql_slice_nil (P := Try.prog) w 24 36 (some ad) l.length c 0 0 Try.underlying24
    go_enter Try.func28, Try.ntmps28
    go_wp2_with (at_builtin; refine wpList_append_L EI 36 24 rfl (.tmp 5) (.tmp 6) rfl _ 8 Try.underlying24 info_insn rfl (by decide) _ w.heap.size (some ⟨w.heap.size, 0, none⟩) 0 [] rfl (Enc.Own.fresh EI w _) (some ad) c l rfl HL.out (by simp; omega) (by decide) (by simp) ?_; intro A' c' w' hown hg hat)
    go_ret
    exact ⟨A', c', rfl, hown, below_append (by (repeat (first | with_reducible exact Below.refl _ _ | with_reducible assumption | ((with_reducible refine Below.setCell ?_ ?hp _); case hp => (first | omega | (simp only [World.size_alloc, World.size_setCell, World.size_drew]; omega) | (simp; done) | (simp; omega))) | ((with_reducible refine Below.alloc ?_ ?hp _); case hp => (first | omega | (simp only [World.size_alloc, World.size_setCell, World.size_drew]; omega) | (simp; done) | (simp; omega))) | with_reducible refine Below.drew ?_ | with_reducible refine below_drewN ?_ _))) (Enc.Own.fresh EI w _) hg (by simp)⟩

set_option maxHeartbeats 400000 in
theorem clonep_any (A : Option Addr) (c : Nat) (l : List Insn) (w : World) (hl : EI.Rd w A l) (hlen : l.length ≤ 1000000) :
    Calls Try.prog 134 #[.slice A l.length c] w fun e w' => ∃ A' c', e = .returned (.slice A' l.length c') ∧ EI.Own 36 w' w.heap.size A' c' l ∧ Below w.heap.size w w' := by
  have hl1 : EI.Rd (w.alloc (.cells #[] 36)) A l := hl.below (B := w.heap.size) (by (repeat (first | with_reducible exact Below.refl _ _ | with_reducible assumption | ((with_reducible refine Below.setCell ?_ ?hp _); case hp => (first | omega | (simp only [World.size_alloc, World.size_setCell, World.size_drew]; omega) | (simp; done) | (simp; omega))) | ((with_reducible refine Below.alloc ?_ ?hp _); case hp => (first | omega | (simp only [World.size_alloc, World.size_setCell, World.size_drew]; omega) | (simp; done) | (simp; omega))) | with_reducible refine Below.drew ?_ | with_reducible refine below_drewN ?_ _))) (Nat.le_refl _)
  have HL := Lib.hid hl1
  cases A with
  | none =>
    have h0 : l = [] := Classical.byContradiction fun h => by obtain ⟨b, o, h1, _⟩ := hl.at_ h; cases h1
    subst h0
    clear hl hl1
    have hnil := fun (w : World) => Lib.run_eql_slice_nil (P := Try.prog) w 146 36 none 0 c 0 0 Try.underlying146
    go_enter Try.func134, Try.ntmps134
    go_wp2
    go_ret
    exact ⟨none, 0, rfl, Enc.Own.nil, Below.refl _ _⟩
  | some ad =>
    clear hl hl1
    have hnil := fun (w : World) => Lib.run_eql_slice_nil (P := Try.prog) w 146 36 (some ad) l.length c 0 0 Try.underlying146
    go_enter Try.func134, Try.ntmps134
    go_wp2_with (at_builtin; refine wpList_append_L EI 36 146 rfl (.tmp 5) (.tmp 6) rfl _ 8 Try.underlying146 info_insn rfl (by decide) _ w.heap.size (some ⟨w.heap.size, 0, none⟩) 0 [] rfl (Enc.Own.fresh EI w _) (some ad) c l rfl HL.out (by simp; omega) (by decide) (by simp) ?_; intro A' c' w' hown hg hat)
    go_ret
    exact ⟨A', c', rfl, hown, below_append (by (repeat (first | with_reducible exact Below.refl _ _ | with_reducible assumption | ((with_reducible refine Below.setCell ?_ ?hp _); case hp => (first | omega | (simp only [World.size_alloc, World.size_setCell, World.size_drew]; omega) | (simp; done) | (simp; omega))) | ((with_reducible refine Below.alloc ?_ ?hp _); case hp => (first | omega | (simp only [World.size_alloc, World.size_setCell, World.size_drew]; omega) | (simp; done) | (simp; omega))) | with_reducible refine Below.drew ?_ | with_reducible refine below_drewN ?_ _))) (Enc.Own.fresh EI w _) hg (by simp)⟩

theorem Enc.Rd.take {α : Type} {E : Enc α} {w : World} {A : Option Addr} {l : List α} (h : E.Rd w A l) (k : Nat) : E.Rd w A (l.take k) := ⟨fun hl => by
  obtain ⟨b, o, rfl, hlt, hc⟩ := h.at_ (fun e => hl (by rw [e]; simp))
  exact ⟨b, o, rfl, hlt, fun i hi r u hu => hc i (by rw [List.length_take] at hi; omega) r u (by rw [List.getElem_take] at hu; exact hu)⟩⟩

set_option maxHeartbeats 400000 in
theorem few_any (A : Option Addr) (c : Nat) (l : List Insn) (w : World) (hl : EI.Rd w A l) (hlen : l.length ≤ 17592186044416) (hcap : l.length ≤ c) (hcap2 : c ≤ 17592186044416) :
    Calls Try.prog 18 #[.slice A l.length c] w fun e w' => ∃ A' c', e = .returned (.slice A' (l.take 65).length c') ∧ EI.Own 36 w' w.heap.size A' c' (l.take 65) ∧ Below w.heap.size w w' := by
  have hl1 : EI.Rd (w.alloc (.cells #[] 36)) A (l.take 65) := (hl.take 65).below (B := w.heap.size) (by (repeat (first | with_reducible exact Below.refl _ _ | with_reducible assumption | ((with_reducible refine Below.setCell ?_ ?hp _); case hp => (first | omega | (simp only [World.size_alloc, World.size_setCell, World.size_drew]; omega) | (simp; done) | (simp; omega))) | ((with_reducible refine Below.alloc ?_ ?hp _); case hp => (first | omega | (simp only [World.size_alloc, World.size_setCell, World.size_drew]; omega) | (simp; done) | (simp; omega))) | with_reducible refine Below.drew ?_ | with_reducible refine below_drewN ?_ _))) (Nat.le_refl _)
  have HL := Lib.hid hl1
  clear hl hl1
  have hm : (l.take 65).length ≤ 65 := by rw [List.length_take]; omega
  by_cases h : l.length ≤ 65
  · have hle : l.take 65 = l := List.take_of_length_le h
    rw [hle] at HL ⊢
    clear hle hm
    go_enter Try.func18, Try.ntmps18
    go_wp2_with (at_builtin; refine wpList_append_L EI 36 24 rfl (.tmp 3) (.tmp 8) rfl _ 8 Try.underlying24 info_insn rfl (by decide) _ w.heap.size (some ⟨w.heap.size, 0, none⟩) 0 [] rfl (Enc.Own.fresh EI w _) A c l rfl HL.out (by simp; omega) (by decide) (by simp) ?_; intro A' c' w' hown hg hat)
    go_ret
    exact ⟨A', c', rfl, hown, below_append (by (repeat (first | with_reducible exact Below.refl _ _ | with_reducible assumption | ((with_reducible refine Below.setCell ?_ ?hp _); case hp => (first | omega | (simp only [World.size_alloc, World.size_setCell, World.size_drew]; omega) | (simp; done) | (simp; omega))) | ((with_reducible refine Below.alloc ?_ ?hp _); case hp => (first | omega | (simp only [World.size_alloc, World.size_setCell, World.size_drew]; omega) | (simp; done) | (simp; omega))) | with_reducible refine Below.drew ?_ | with_reducible refine below_drewN ?_ _))) (Enc.Own.fresh EI w _) hg (by simp)⟩
  · have hle : (l.take 65).length = 65 := by rw [List.length_take]; omega
    have HE := Lib.hid hle
    clear hle hm
    go_enter Try.func18, Try.ntmps18
    go_wp2_with (at_builtin; refine wpList_append_L EI 36 24 rfl (.tmp 3) (.tmp 8) rfl _ 8 Try.underlying24 info_insn rfl (by decide) _ w.heap.size (some ⟨w.heap.size, 0, none⟩) 0 [] rfl (Enc.Own.fresh EI w _) A c (l.take 65) (by rw [HE.out]; rfl) HL.out (by simp; omega) (by decide) (by simp) ?_; intro A' c' w' hown hg hat)
    go_ret
    exact ⟨A', c', by show Ending.returned (.slice A' (min 65 l.length) c') = _; rw [List.length_take], hown, below_append (by (repeat (first | with_reducible exact Below.refl _ _ | with_reducible assumption | ((with_reducible refine Below.setCell ?_ ?hp _); case hp => (first | omega | (simp only [World.size_alloc, World.size_setCell, World.size_drew]; omega) | (simp; done) | (simp; omega))) | ((with_reducible refine Below.alloc ?_ ?hp _); case hp => (first | omega | (simp only [World.size_alloc, World.size_setCell, World.size_drew]; omega) | (simp; done) | (simp; omega))) | with_reducible refine Below.drew ?_ | with_reducible refine below_drewN ?_ _))) (Enc.Own.fresh EI w _) hg (by simp)⟩

end Go.Proofs.Ytfjbanfibmpalaa

/- KD -/
import Derived.Test.YtfjbanfibmpalaaKC

/- Contract: wicketgateref04.Next. -/
set_option linter.unusedVariables false
set_option linter.unusedSimpArgs false
namespace Go.Proofs.Ytfjbanfibmpalaa
open Go.RowKit Go.Shelf

/-- A row that was laid whole. -/
theorem Enc.Rd.list_at {α : Type} (E : Enc α) (w : World) (e : TypeId) (l : List α) (cs : Array Value) (hcs : cs = (E.flat l).toArray) (g : Nat) (hg : g = w.heap.size) : E.Rd (w.alloc (.cells cs e)) (some ⟨g, 0, none⟩) l := by
  subst hg
  refine ⟨fun hl => ⟨w.heap.size, 0, rfl, by simp, fun i hi r u hu => ?_⟩⟩
  have hr : r < E.size := by
    rcases Nat.lt_or_ge r E.size with h | h
    · exact h
    · rw [List.getElem?_eq_none (by rw [E.len]; exact h)] at hu; cases hu
  rw [cell_of_row _ _ _ _ _ _ (heap_alloc_new w (.cells cs e)), hcs, Nat.zero_add]
  rw [List.getElem?_toArray, E.flat_get l i hi r hr]
  exact hu

set_option maxRecDepth 100000 in
set_option maxHeartbeats 400000 in
theorem rnext_plain (x : Insn) (hx : x.Ok) (i : Nat) (hi : i ≤ 255) (w : World) (f : Int) (hf : form x.code = f) (h0 : 0 ≤ f) (e4 : (f == 4) = false) (e5 : (f == 5) = false) (e6 : (f == 6) = false) (hr : isRet x.code = false) :
    Calls Try.prog 143 #[(Value.agg #[.int .u16 x.code, .int .u8 x.jt, .int .u8 x.jf, .int .u32 x.k]), .int .i64 i] w fun e w' => ∃ A c, e = .returned (.slice A 1 c) ∧ EN.Rd w' A [i + 1] ∧ (∀ b o, A = some ⟨b, o, none⟩ → w.heap.size ≤ b) ∧ Below w.heap.size w w' := by
  have i1 : ¬ ((i : Int) < 0) := by omega
  have i2 : ¬ (255 < (i : Int)) := by omega
  have HF := Lib.hid hf
  have HR := Lib.hid hr
  have hc := hx.code
  have f1 : ¬ (f < 0) := by omega
  clear hf hr
  go_enter Try.func143, Try.ntmps143
  go_wp2_with (first
    | (go_at_call 97; refine (rform_any x.code hc _).mono ?_; rw [HF.out]; rintro e w' ⟨rfl, hb1⟩; (obtain ⟨hb1_c, hb1_f⟩ := bcell hb1; have hb1_z := (hb1).size; have hb1_0 : Below w.heap.size w _ := Below.trans (by (repeat (first | with_reducible exact Below.refl _ _ | with_reducible assumption | ((with_reducible refine Below.setCell ?_ ?hp _); case hp => (first | omega | (simp only [World.size_alloc, World.size_setCell, World.size_drew]; omega) | (simp; done) | (simp; omega))) | ((with_reducible refine Below.alloc ?_ ?hp _); case hp => (first | omega | (simp only [World.size_alloc, World.size_setCell, World.size_drew]; omega) | (simp; done) | (simp; omega))) | with_reducible refine Below.drew ?_ | with_reducible refine below_drewN ?_ _))) ((hb1).mono (by (first | omega | (simp only [World.size_alloc, World.size_setCell, World.size_drew]; omega) | (simp; done) | (simp; omega)))); (try simp only [World.size_alloc, World.size_setCell, World.size_drew] at hb1_z hb1_c hb1_f); clear hb1); (have hb1_a0 := hb1_c (w.heap.size) 0 (by omega); simp [go_sem] at hb1_a0; have hb1_a1 := hb1_c (w.heap.size) 1 (by omega); simp [go_sem] at hb1_a1; have hb1_a2 := hb1_c (w.heap.size) 2 (by omega); simp [go_sem] at hb1_a2; have hb1_a3 := hb1_c (w.heap.size) 3 (by omega); simp [go_sem] at hb1_a3))
    | (go_at_call 58; refine (rreturns_any x.code x.jt x.jf x.k _).mono ?_; rw [HR.out]; rintro e w' ⟨rfl, hb2⟩; (obtain ⟨hb2_c, hb2_f⟩ := bcell hb2; have hb2_z := (hb2).size; have hb2_0 : Below w.heap.size w _ := Below.trans (by (repeat (first | with_reducible exact Below.refl _ _ | with_reducible assumption | ((with_reducible refine Below.setCell ?_ ?hp _); case hp => (first | omega | (simp only [World.size_alloc, World.size_setCell, World.size_drew]; omega) | (simp; done) | (simp; omega))) | ((with_reducible refine Below.alloc ?_ ?hp _); case hp => (first | omega | (simp only [World.size_alloc, World.size_setCell, World.size_drew]; omega) | (simp; done) | (simp; omega))) | with_reducible refine Below.drew ?_ | with_reducible refine below_drewN ?_ _))) ((hb2).mono (by (first | omega | (simp only [World.size_alloc, World.size_setCell, World.size_drew]; omega) | (simp; done) | (simp; omega)))); (try simp only [World.size_alloc, World.size_setCell, World.size_drew] at hb2_z hb2_c hb2_f); clear hb2); have b1 := (hb2_c w.heap.size 1 (by omega)).trans hb1_a1; have b2 := (hb2_c w.heap.size 2 (by omega)).trans hb1_a2; have b3 := (hb2_c w.heap.size 3 (by omega)).trans hb1_a3))
  go_ret
  refine ⟨_, _, rfl, Enc.Rd.list_at EN _ _ [i + 1] _ (by simp [Enc.flat, EN]) _ (by first | rfl | simp), (by rintro b o h; cases h <;> (first | omega | (simp only [World.size_alloc, World.size_setCell, World.size_drew]; omega) | (simp; done) | (simp; omega))), by (repeat (first | with_reducible exact Below.refl _ _ | with_reducible assumption | ((with_reducible refine Below.setCell ?_ ?hp _); case hp => (first | omega | (simp only [World.size_alloc, World.size_setCell, World.size_drew]; omega) | (simp; done) | (simp; omega))) | ((with_reducible refine Below.alloc ?_ ?hp _); case hp => (first | omega | (simp only [World.size_alloc, World.size_setCell, World.size_drew]; omega) | (simp; done) | (simp; omega))) | with_reducible refine Below.drew ?_ | with_reducible refine below_drewN ?_ _))⟩
set_option maxRecDepth 100000 in
set_option maxHeartbeats 400000 in
theorem rnext_neg (x : Insn) (hx : x.Ok) (i : Nat) (hi : i ≤ 255) (w : World) (hf : form x.code = -1) (b : Bool) (hr : isRet x.code = b) :
    Calls Try.prog 143 #[(Value.agg #[.int .u16 x.code, .int .u8 x.jt, .int .u8 x.jf, .int .u32 x.k]), .int .i64 i] w fun e w' => ∃ A c, e = .returned (.slice A 0 c) ∧ EN.Rd w' A ([] : List Nat) ∧ (∀ b o, A = some ⟨b, o, none⟩ → w.heap.size ≤ b) ∧ Below w.heap.size w w' := by
  have i1 : ¬ ((i : Int) < 0) := by omega
  have i2 : ¬ (255 < (i : Int)) := by omega
  have HF := Lib.hid hf
  have HR := Lib.hid hr
  have hc := hx.code
  clear hf hr
  go_enter Try.func143, Try.ntmps143
  go_wp2_with (first
    | (go_at_call 97; refine (rform_any x.code hc _).mono ?_; rw [HF.out]; rintro e w' ⟨rfl, hb1⟩; (obtain ⟨hb1_c, hb1_f⟩ := bcell hb1; have hb1_z := (hb1).size; have hb1_0 : Below w.heap.size w _ := Below.trans (by (repeat (first | with_reducible exact Below.refl _ _ | with_reducible assumption | ((with_reducible refine Below.setCell ?_ ?hp _); case hp => (first | omega | (simp only [World.size_alloc, World.size_setCell, World.size_drew]; omega) | (simp; done) | (simp; omega))) | ((with_reducible refine Below.alloc ?_ ?hp _); case hp => (first | omega | (simp only [World.size_alloc, World.size_setCell, World.size_drew]; omega) | (simp; done) | (simp; omega))) | with_reducible refine Below.drew ?_ | with_reducible refine below_drewN ?_ _))) ((hb1).mono (by (first | omega | (simp only [World.size_alloc, World.size_setCell, World.size_drew]; omega) | (simp; done) | (simp; omega)))); (try simp only [World.size_alloc, World.size_setCell, World.size_drew] at hb1_z hb1_c hb1_f); clear hb1); (have hb1_a0 := hb1_c (w.heap.size) 0 (by omega); simp [go_sem] at hb1_a0; have hb1_a1 := hb1_c (w.heap.size) 1 (by omega); simp [go_sem] at hb1_a1; have hb1_a2 := hb1_c (w.heap.size) 2 (by omega); simp [go_sem] at hb1_a2; have hb1_a3 := hb1_c (w.heap.size) 3 (by omega); simp [go_sem] at hb1_a3))
    | (go_at_call 58; refine (rreturns_any x.code x.jt x.jf x.k _).mono ?_; rw [HR.out]; rintro e w' ⟨rfl, hb2⟩; (obtain ⟨hb2_c, hb2_f⟩ := bcell hb2; have hb2_z := (hb2).size; have hb2_0 : Below w.heap.size w _ := Below.trans (by (repeat (first | with_reducible exact Below.refl _ _ | with_reducible assumption | ((with_reducible refine Below.setCell ?_ ?hp _); case hp => (first | omega | (simp only [World.size_alloc, World.size_setCell, World.size_drew]; omega) | (simp; done) | (simp; omega))) | ((with_reducible refine Below.alloc ?_ ?hp _); case hp => (first | omega | (simp only [World.size_alloc, World.size_setCell, World.size_drew]; omega) | (simp; done) | (simp; omega))) | with_reducible refine Below.drew ?_ | with_reducible refine below_drewN ?_ _))) ((hb2).mono (by (first | omega | (simp only [World.size_alloc, World.size_setCell, World.size_drew]; omega) | (simp; done) | (simp; omega)))); (try simp only [World.size_alloc, World.size_setCell, World.size_drew] at hb2_z hb2_c hb2_f); clear hb2); have b1 := (hb2_c w.heap.size 1 (by omega)).trans hb1_a1; have b2 := (hb2_c w.heap.size 2 (by omega)).trans hb1_a2; have b3 := (hb2_c w.heap.size 3 (by omega)).trans hb1_a3))
  go_ret
  refine ⟨_, _, rfl, ⟨fun h => absurd rfl h⟩, (by rintro b o h; cases h <;> (first | omega | (simp only [World.size_alloc, World.size_setCell, World.size_drew]; omega) | (simp; done) | (simp; omega))), by (repeat (first | with_reducible exact Below.refl _ _ | with_reducible assumption | ((with_reducible refine Below.setCell ?_ ?hp _); case hp => (first | omega | (simp only [World.size_alloc, World.size_setCell, World.size_drew]; omega) | (simp; done) | (simp; omega))) | ((with_reducible refine Below.alloc ?_ ?hp _); case hp => (first | omega | (simp only [World.size_alloc, World.size_setCell, World.size_drew]; omega) | (simp; done) | (simp; omega))) | with_reducible refine Below.drew ?_ | with_reducible refine below_drewN ?_ _))⟩
set_option maxRecDepth 100000 in
set_option maxHeartbeats 400000 in
theorem rnext_ret (x : Insn) (hx : x.Ok) (i : Nat) (hi : i ≤ 255) (w : World) (f : Int) (hf : form x.code = f) (h0 : 0 ≤ f) (hr : isRet x.code = true) :
    Calls Try.prog 143 #[(Value.agg #[.int .u16 x.code, .int .u8 x.jt, .int .u8 x.jf, .int .u32 x.k]), .int .i64 i] w fun e w' => ∃ A c, e = .returned (.slice A 0 c) ∧ EN.Rd w' A ([] : List Nat) ∧ (∀ b o, A = some ⟨b, o, none⟩ → w.heap.size ≤ b) ∧ Below w.heap.size w w' := by
  have i1 : ¬ ((i : Int) < 0) := by omega
  have i2 : ¬ (255 < (i : Int)) := by omega
  have HF := Lib.hid hf
  have HR := Lib.hid hr
  have hc := hx.code
  have f1 : ¬ (f < 0) := by omega
  clear hf hr
  go_enter Try.func143, Try.ntmps143
  go_wp2_with (first
    | (go_at_call 97; refine (rform_any x.code hc _).mono ?_; rw [HF.out]; rintro e w' ⟨rfl, hb1⟩; (obtain ⟨hb1_c, hb1_f⟩ := bcell hb1; have hb1_z := (hb1).size; have hb1_0 : Below w.heap.size w _ := Below.trans (by (repeat (first | with_reducible exact Below.refl _ _ | with_reducible assumption | ((with_reducible refine Below.setCell ?_ ?hp _); case hp => (first | omega | (simp only [World.size_alloc, World.size_setCell, World.size_drew]; omega) | (simp; done) | (simp; omega))) | ((with_reducible refine Below.alloc ?_ ?hp _); case hp => (first | omega | (simp only [World.size_alloc, World.size_setCell, World.size_drew]; omega) | (simp; done) | (simp; omega))) | with_reducible refine Below.drew ?_ | with_reducible refine below_drewN ?_ _))) ((hb1).mono (by (first | omega | (simp only [World.size_alloc, World.size_setCell, World.size_drew]; omega) | (simp; done) | (simp; omega)))); (try simp only [World.size_alloc, World.size_setCell, World.size_drew] at hb1_z hb1_c hb1_f); clear hb1); (have hb1_a0 := hb1_c (w.heap.size) 0 (by omega); simp [go_sem] at hb1_a0; have hb1_a1 := hb1_c (w.heap.size) 1 (by omega); simp [go_sem] at hb1_a1; have hb1_a2 := hb1_c (w.heap.size) 2 (by omega); simp [go_sem] at hb1_a2; have hb1_a3 := hb1_c (w.heap.size) 3 (by omega); simp [go_sem] at hb1_a3))
    | (go_at_call 58; refine (rreturns_any x.code x.jt x.jf x.k _).mono ?_; rw [HR.out]; rintro e w' ⟨rfl, hb2⟩; (obtain ⟨hb2_c, hb2_f⟩ := bcell hb2; have hb2_z := (hb2).size; have hb2_0 : Below w.heap.size w _ := Below.trans (by (repeat (first | with_reducible exact Below.refl _ _ | with_reducible assumption | ((with_reducible refine Below.setCell ?_ ?hp _); case hp => (first | omega | (simp only [World.size_alloc, World.size_setCell, World.size_drew]; omega) | (simp; done) | (simp; omega))) | ((with_reducible refine Below.alloc ?_ ?hp _); case hp => (first | omega | (simp only [World.size_alloc, World.size_setCell, World.size_drew]; omega) | (simp; done) | (simp; omega))) | with_reducible refine Below.drew ?_ | with_reducible refine below_drewN ?_ _))) ((hb2).mono (by (first | omega | (simp only [World.size_alloc, World.size_setCell, World.size_drew]; omega) | (simp; done) | (simp; omega)))); (try simp only [World.size_alloc, World.size_setCell, World.size_drew] at hb2_z hb2_c hb2_f); clear hb2); have b1 := (hb2_c w.heap.size 1 (by omega)).trans hb1_a1; have b2 := (hb2_c w.heap.size 2 (by omega)).trans hb1_a2; have b3 := (hb2_c w.heap.size 3 (by omega)).trans hb1_a3))
  go_ret
  refine ⟨_, _, rfl, ⟨fun h => absurd rfl h⟩, (by rintro b o h; cases h <;> (first | omega | (simp only [World.size_alloc, World.size_setCell, World.size_drew]; omega) | (simp; done) | (simp; omega))), by (repeat (first | with_reducible exact Below.refl _ _ | with_reducible assumption | ((with_reducible refine Below.setCell ?_ ?hp _); case hp => (first | omega | (simp only [World.size_alloc, World.size_setCell, World.size_drew]; omega) | (simp; done) | (simp; omega))) | ((with_reducible refine Below.alloc ?_ ?hp _); case hp => (first | omega | (simp only [World.size_alloc, World.size_setCell, World.size_drew]; omega) | (simp; done) | (simp; omega))) | with_reducible refine Below.drew ?_ | with_reducible refine below_drewN ?_ _))⟩
set_option maxRecDepth 100000 in
set_option maxHeartbeats 400000 in
theorem rnext_ja (x : Insn) (hx : x.Ok) (i : Nat) (hi : i ≤ 255) (w : World) (hf : form x.code = 4) (hr : isRet x.code = false) (hk : x.k ≤ 255) :
    Calls Try.prog 143 #[(Value.agg #[.int .u16 x.code, .int .u8 x.jt, .int .u8 x.jf, .int .u32 x.k]), .int .i64 i] w fun e w' => ∃ A c, e = .returned (.slice A 1 c) ∧ EN.Rd w' A [i + 1 + x.k] ∧ (∀ b o, A = some ⟨b, o, none⟩ → w.heap.size ≤ b) ∧ Below w.heap.size w w' := by
  have i1 : ¬ ((i : Int) < 0) := by omega
  have i2 : ¬ (255 < (i : Int)) := by omega
  have HF := Lib.hid hf
  have HR := Lib.hid hr
  have hc := hx.code
  have hkk : ¬ ((255 : Int) < (x.k : Int)) := by omega
  clear hf hr
  go_enter Try.func143, Try.ntmps143
  go_wp2_with (first
    | (go_at_call 97; refine (rform_any x.code hc _).mono ?_; rw [HF.out]; rintro e w' ⟨rfl, hb1⟩; (obtain ⟨hb1_c, hb1_f⟩ := bcell hb1; have hb1_z := (hb1).size; have hb1_0 : Below w.heap.size w _ := Below.trans (by (repeat (first | with_reducible exact Below.refl _ _ | with_reducible assumption | ((with_reducible refine Below.setCell ?_ ?hp _); case hp => (first | omega | (simp only [World.size_alloc, World.size_setCell, World.size_drew]; omega) | (simp; done) | (simp; omega))) | ((with_reducible refine Below.alloc ?_ ?hp _); case hp => (first | omega | (simp only [World.size_alloc, World.size_setCell, World.size_drew]; omega) | (simp; done) | (simp; omega))) | with_reducible refine Below.drew ?_ | with_reducible refine below_drewN ?_ _))) ((hb1).mono (by (first | omega | (simp only [World.size_alloc, World.size_setCell, World.size_drew]; omega) | (simp; done) | (simp; omega)))); (try simp only [World.size_alloc, World.size_setCell, World.size_drew] at hb1_z hb1_c hb1_f); clear hb1); (have hb1_a0 := hb1_c (w.heap.size) 0 (by omega); simp [go_sem] at hb1_a0; have hb1_a1 := hb1_c (w.heap.size) 1 (by omega); simp [go_sem] at hb1_a1; have hb1_a2 := hb1_c (w.heap.size) 2 (by omega); simp [go_sem] at hb1_a2; have hb1_a3 := hb1_c (w.heap.size) 3 (by omega); simp [go_sem] at hb1_a3))
    | (go_at_call 58; refine (rreturns_any x.code x.jt x.jf x.k _).mono ?_; rw [HR.out]; rintro e w' ⟨rfl, hb2⟩; (obtain ⟨hb2_c, hb2_f⟩ := bcell hb2; have hb2_z := (hb2).size; have hb2_0 : Below w.heap.size w _ := Below.trans (by (repeat (first | with_reducible exact Below.refl _ _ | with_reducible assumption | ((with_reducible refine Below.setCell ?_ ?hp _); case hp => (first | omega | (simp only [World.size_alloc, World.size_setCell, World.size_drew]; omega) | (simp; done) | (simp; omega))) | ((with_reducible refine Below.alloc ?_ ?hp _); case hp => (first | omega | (simp only [World.size_alloc, World.size_setCell, World.size_drew]; omega) | (simp; done) | (simp; omega))) | with_reducible refine Below.drew ?_ | with_reducible refine below_drewN ?_ _))) ((hb2).mono (by (first | omega | (simp only [World.size_alloc, World.size_setCell, World.size_drew]; omega) | (simp; done) | (simp; omega)))); (try simp only [World.size_alloc, World.size_setCell, World.size_drew] at hb2_z hb2_c hb2_f); clear hb2); have b1 := (hb2_c w.heap.size 1 (by omega)).trans hb1_a1; have b2 := (hb2_c w.heap.size 2 (by omega)).trans hb1_a2; have b3 := (hb2_c w.heap.size 3 (by omega)).trans hb1_a3))
  go_ret
  refine ⟨_, _, rfl, Enc.Rd.list_at EN _ _ [i + 1 + x.k] _ (by simp [Enc.flat, EN]) _ (by first | rfl | simp), (by rintro b o h; cases h <;> (first | omega | (simp only [World.size_alloc, World.size_setCell, World.size_drew]; omega) | (simp; done) | (simp; omega))), by (repeat (first | with_reducible exact Below.refl _ _ | with_reducible assumption | ((with_reducible refine Below.setCell ?_ ?hp _); case hp => (first | omega | (simp only [World.size_alloc, World.size_setCell, World.size_drew]; omega) | (simp; done) | (simp; omega))) | ((with_reducible refine Below.alloc ?_ ?hp _); case hp => (first | omega | (simp only [World.size_alloc, World.size_setCell, World.size_drew]; omega) | (simp; done) | (simp; omega))) | with_reducible refine Below.drew ?_ | with_reducible refine below_drewN ?_ _))⟩
set_option maxRecDepth 100000 in
set_option maxHeartbeats 400000 in
theorem rnext_far (x : Insn) (hx : x.Ok) (i : Nat) (hi : i ≤ 255) (w : World) (hf : form x.code = 4) (hr : isRet x.code = false) (hk : 255 < x.k) :
    Calls Try.prog 143 #[(Value.agg #[.int .u16 x.code, .int .u8 x.jt, .int .u8 x.jf, .int .u32 x.k]), .int .i64 i] w fun e w' => ∃ A c, e = .returned (.slice A 0 c) ∧ EN.Rd w' A ([] : List Nat) ∧ (∀ b o, A = some ⟨b, o, none⟩ → w.heap.size ≤ b) ∧ Below w.heap.size w w' := by
  have i1 : ¬ ((i : Int) < 0) := by omega
  have i2 : ¬ (255 < (i : Int)) := by omega
  have HF := Lib.hid hf
  have HR := Lib.hid hr
  have hc := hx.code
  have hkk : (255 : Int) < (x.k : Int) := by omega
  clear hf hr
  go_enter Try.func143, Try.ntmps143
  go_wp2_with (first
    | (go_at_call 97; refine (rform_any x.code hc _).mono ?_; rw [HF.out]; rintro e w' ⟨rfl, hb1⟩; (obtain ⟨hb1_c, hb1_f⟩ := bcell hb1; have hb1_z := (hb1).size; have hb1_0 : Below w.heap.size w _ := Below.trans (by (repeat (first | with_reducible exact Below.refl _ _ | with_reducible assumption | ((with_reducible refine Below.setCell ?_ ?hp _); case hp => (first | omega | (simp only [World.size_alloc, World.size_setCell, World.size_drew]; omega) | (simp; done) | (simp; omega))) | ((with_reducible refine Below.alloc ?_ ?hp _); case hp => (first | omega | (simp only [World.size_alloc, World.size_setCell, World.size_drew]; omega) | (simp; done) | (simp; omega))) | with_reducible refine Below.drew ?_ | with_reducible refine below_drewN ?_ _))) ((hb1).mono (by (first | omega | (simp only [World.size_alloc, World.size_setCell, World.size_drew]; omega) | (simp; done) | (simp; omega)))); (try simp only [World.size_alloc, World.size_setCell, World.size_drew] at hb1_z hb1_c hb1_f); clear hb1); (have hb1_a0 := hb1_c (w.heap.size) 0 (by omega); simp [go_sem] at hb1_a0; have hb1_a1 := hb1_c (w.heap.size) 1 (by omega); simp [go_sem] at hb1_a1; have hb1_a2 := hb1_c (w.heap.size) 2 (by omega); simp [go_sem] at hb1_a2; have hb1_a3 := hb1_c (w.heap.size) 3 (by omega); simp [go_sem] at hb1_a3))
    | (go_at_call 58; refine (rreturns_any x.code x.jt x.jf x.k _).mono ?_; rw [HR.out]; rintro e w' ⟨rfl, hb2⟩; (obtain ⟨hb2_c, hb2_f⟩ := bcell hb2; have hb2_z := (hb2).size; have hb2_0 : Below w.heap.size w _ := Below.trans (by (repeat (first | with_reducible exact Below.refl _ _ | with_reducible assumption | ((with_reducible refine Below.setCell ?_ ?hp _); case hp => (first | omega | (simp only [World.size_alloc, World.size_setCell, World.size_drew]; omega) | (simp; done) | (simp; omega))) | ((with_reducible refine Below.alloc ?_ ?hp _); case hp => (first | omega | (simp only [World.size_alloc, World.size_setCell, World.size_drew]; omega) | (simp; done) | (simp; omega))) | with_reducible refine Below.drew ?_ | with_reducible refine below_drewN ?_ _))) ((hb2).mono (by (first | omega | (simp only [World.size_alloc, World.size_setCell, World.size_drew]; omega) | (simp; done) | (simp; omega)))); (try simp only [World.size_alloc, World.size_setCell, World.size_drew] at hb2_z hb2_c hb2_f); clear hb2); have b1 := (hb2_c w.heap.size 1 (by omega)).trans hb1_a1; have b2 := (hb2_c w.heap.size 2 (by omega)).trans hb1_a2; have b3 := (hb2_c w.heap.size 3 (by omega)).trans hb1_a3))
  go_ret
  refine ⟨_, _, rfl, ⟨fun h => absurd rfl h⟩, (by rintro b o h; cases h <;> (first | omega | (simp only [World.size_alloc, World.size_setCell, World.size_drew]; omega) | (simp; done) | (simp; omega))), by (repeat (first | with_reducible exact Below.refl _ _ | with_reducible assumption | ((with_reducible refine Below.setCell ?_ ?hp _); case hp => (first | omega | (simp only [World.size_alloc, World.size_setCell, World.size_drew]; omega) | (simp; done) | (simp; omega))) | ((with_reducible refine Below.alloc ?_ ?hp _); case hp => (first | omega | (simp only [World.size_alloc, World.size_setCell, World.size_drew]; omega) | (simp; done) | (simp; omega))) | with_reducible refine Below.drew ?_ | with_reducible refine below_drewN ?_ _))⟩
set_option maxRecDepth 100000 in
set_option maxHeartbeats 400000 in
theorem rnext_t5e (x : Insn) (hx : x.Ok) (i : Nat) (hi : i ≤ 255) (w : World) (hf : form x.code = 5) (hr : isRet x.code = false) (hk : x.jt = x.jf) :
    Calls Try.prog 143 #[(Value.agg #[.int .u16 x.code, .int .u8 x.jt, .int .u8 x.jf, .int .u32 x.k]), .int .i64 i] w fun e w' => ∃ A c, e = .returned (.slice A 1 c) ∧ EN.Rd w' A [i + 1 + x.jt] ∧ (∀ b o, A = some ⟨b, o, none⟩ → w.heap.size ≤ b) ∧ Below w.heap.size w w' := by
  have i1 : ¬ ((i : Int) < 0) := by omega
  have i2 : ¬ (255 < (i : Int)) := by omega
  have HF := Lib.hid hf
  have HR := Lib.hid hr
  have hc := hx.code
  have q1 := hx.jt
  have q2 := hx.jf
  have HK := Lib.hid hk
  have he : ((i : Int) + 1 + x.jt == (i : Int) + 1 + x.jf) = true := by rw [beq_iff_eq]; omega
  clear hk
  clear hf hr
  go_enter Try.func143, Try.ntmps143
  go_wp2_with (first
    | (go_at_call 97; refine (rform_any x.code hc _).mono ?_; rw [HF.out]; rintro e w' ⟨rfl, hb1⟩; (obtain ⟨hb1_c, hb1_f⟩ := bcell hb1; have hb1_z := (hb1).size; have hb1_0 : Below w.heap.size w _ := Below.trans (by (repeat (first | with_reducible exact Below.refl _ _ | with_reducible assumption | ((with_reducible refine Below.setCell ?_ ?hp _); case hp => (first | omega | (simp only [World.size_alloc, World.size_setCell, World.size_drew]; omega) | (simp; done) | (simp; omega))) | ((with_reducible refine Below.alloc ?_ ?hp _); case hp => (first | omega | (simp only [World.size_alloc, World.size_setCell, World.size_drew]; omega) | (simp; done) | (simp; omega))) | with_reducible refine Below.drew ?_ | with_reducible refine below_drewN ?_ _))) ((hb1).mono (by (first | omega | (simp only [World.size_alloc, World.size_setCell, World.size_drew]; omega) | (simp; done) | (simp; omega)))); (try simp only [World.size_alloc, World.size_setCell, World.size_drew] at hb1_z hb1_c hb1_f); clear hb1); (have hb1_a0 := hb1_c (w.heap.size) 0 (by omega); simp [go_sem] at hb1_a0; have hb1_a1 := hb1_c (w.heap.size) 1 (by omega); simp [go_sem] at hb1_a1; have hb1_a2 := hb1_c (w.heap.size) 2 (by omega); simp [go_sem] at hb1_a2; have hb1_a3 := hb1_c (w.heap.size) 3 (by omega); simp [go_sem] at hb1_a3))
    | (go_at_call 58; refine (rreturns_any x.code x.jt x.jf x.k _).mono ?_; rw [HR.out]; rintro e w' ⟨rfl, hb2⟩; (obtain ⟨hb2_c, hb2_f⟩ := bcell hb2; have hb2_z := (hb2).size; have hb2_0 : Below w.heap.size w _ := Below.trans (by (repeat (first | with_reducible exact Below.refl _ _ | with_reducible assumption | ((with_reducible refine Below.setCell ?_ ?hp _); case hp => (first | omega | (simp only [World.size_alloc, World.size_setCell, World.size_drew]; omega) | (simp; done) | (simp; omega))) | ((with_reducible refine Below.alloc ?_ ?hp _); case hp => (first | omega | (simp only [World.size_alloc, World.size_setCell, World.size_drew]; omega) | (simp; done) | (simp; omega))) | with_reducible refine Below.drew ?_ | with_reducible refine below_drewN ?_ _))) ((hb2).mono (by (first | omega | (simp only [World.size_alloc, World.size_setCell, World.size_drew]; omega) | (simp; done) | (simp; omega)))); (try simp only [World.size_alloc, World.size_setCell, World.size_drew] at hb2_z hb2_c hb2_f); clear hb2); have b1 := (hb2_c w.heap.size 1 (by omega)).trans hb1_a1; have b2 := (hb2_c w.heap.size 2 (by omega)).trans hb1_a2; have b3 := (hb2_c w.heap.size 3 (by omega)).trans hb1_a3)
    | (go_quiet (fail)))
  go_ret
  refine ⟨_, _, rfl, Enc.Rd.list_at EN _ _ [i + 1 + x.jt] _ (by simp [Enc.flat, EN]) _ (by first | rfl | simp), (by rintro b o h; cases h <;> (first | omega | (simp only [World.size_alloc, World.size_setCell, World.size_drew]; omega) | (simp; done) | (simp; omega))), by (repeat (first | with_reducible exact Below.refl _ _ | with_reducible assumption | ((with_reducible refine Below.setCell ?_ ?hp _); case hp => (first | omega | (simp only [World.size_alloc, World.size_setCell, World.size_drew]; omega) | (simp; done) | (simp; omega))) | ((with_reducible refine Below.alloc ?_ ?hp _); case hp => (first | omega | (simp only [World.size_alloc, World.size_setCell, World.size_drew]; omega) | (simp; done) | (simp; omega))) | with_reducible refine Below.drew ?_ | with_reducible refine below_drewN ?_ _))⟩
set_option maxRecDepth 100000 in
set_option maxHeartbeats 400000 in
theorem rnext_t5l (x : Insn) (hx : x.Ok) (i : Nat) (hi : i ≤ 255) (w : World) (hf : form x.code = 5) (hr : isRet x.code = false) (hk : x.jt < x.jf) :
    Calls Try.prog 143 #[(Value.agg #[.int .u16 x.code, .int .u8 x.jt, .int .u8 x.jf, .int .u32 x.k]), .int .i64 i] w fun e w' => ∃ A c, e = .returned (.slice A 2 c) ∧ EN.Rd w' A [i + 1 + x.jt, i + 1 + x.jf] ∧ (∀ b o, A = some ⟨b, o, none⟩ → w.heap.size ≤ b) ∧ Below w.heap.size w w' := by
  have i1 : ¬ ((i : Int) < 0) := by omega
  have i2 : ¬ (255 < (i : Int)) := by omega
  have HF := Lib.hid hf
  have HR := Lib.hid hr
  have hc := hx.code
  have q1 := hx.jt
  have q2 := hx.jf
  have n2 : ¬ x.jf < x.jt := by omega
  have he : ((i : Int) + 1 + x.jt == (i : Int) + 1 + x.jf) = false := by rw [beq_eq_false_iff_ne]; omega
  clear hf hr
  go_enter Try.func143, Try.ntmps143
  go_wp2_with (first
    | (go_at_call 97; refine (rform_any x.code hc _).mono ?_; rw [HF.out]; rintro e w' ⟨rfl, hb1⟩; (obtain ⟨hb1_c, hb1_f⟩ := bcell hb1; have hb1_z := (hb1).size; have hb1_0 : Below w.heap.size w _ := Below.trans (by (repeat (first | with_reducible exact Below.refl _ _ | with_reducible assumption | ((with_reducible refine Below.setCell ?_ ?hp _); case hp => (first | omega | (simp only [World.size_alloc, World.size_setCell, World.size_drew]; omega) | (simp; done) | (simp; omega))) | ((with_reducible refine Below.alloc ?_ ?hp _); case hp => (first | omega | (simp only [World.size_alloc, World.size_setCell, World.size_drew]; omega) | (simp; done) | (simp; omega))) | with_reducible refine Below.drew ?_ | with_reducible refine below_drewN ?_ _))) ((hb1).mono (by (first | omega | (simp only [World.size_alloc, World.size_setCell, World.size_drew]; omega) | (simp; done) | (simp; omega)))); (try simp only [World.size_alloc, World.size_setCell, World.size_drew] at hb1_z hb1_c hb1_f); clear hb1); (have hb1_a0 := hb1_c (w.heap.size) 0 (by omega); simp [go_sem] at hb1_a0; have hb1_a1 := hb1_c (w.heap.size) 1 (by omega); simp [go_sem] at hb1_a1; have hb1_a2 := hb1_c (w.heap.size) 2 (by omega); simp [go_sem] at hb1_a2; have hb1_a3 := hb1_c (w.heap.size) 3 (by omega); simp [go_sem] at hb1_a3))
    | (go_at_call 58; refine (rreturns_any x.code x.jt x.jf x.k _).mono ?_; rw [HR.out]; rintro e w' ⟨rfl, hb2⟩; (obtain ⟨hb2_c, hb2_f⟩ := bcell hb2; have hb2_z := (hb2).size; have hb2_0 : Below w.heap.size w _ := Below.trans (by (repeat (first | with_reducible exact Below.refl _ _ | with_reducible assumption | ((with_reducible refine Below.setCell ?_ ?hp _); case hp => (first | omega | (simp only [World.size_alloc, World.size_setCell, World.size_drew]; omega) | (simp; done) | (simp; omega))) | ((with_reducible refine Below.alloc ?_ ?hp _); case hp => (first | omega | (simp only [World.size_alloc, World.size_setCell, World.size_drew]; omega) | (simp; done) | (simp; omega))) | with_reducible refine Below.drew ?_ | with_reducible refine below_drewN ?_ _))) ((hb2).mono (by (first | omega | (simp only [World.size_alloc, World.size_setCell, World.size_drew]; omega) | (simp; done) | (simp; omega)))); (try simp only [World.size_alloc, World.size_setCell, World.size_drew] at hb2_z hb2_c hb2_f); clear hb2); have b1 := (hb2_c w.heap.size 1 (by omega)).trans hb1_a1; have b2 := (hb2_c w.heap.size 2 (by omega)).trans hb1_a2; have b3 := (hb2_c w.heap.size 3 (by omega)).trans hb1_a3)
    | (go_quiet (fail)))
  go_ret
  refine ⟨_, _, rfl, Enc.Rd.list_at EN _ _ [i + 1 + x.jt, i + 1 + x.jf] _ (by simp [Enc.flat, EN]) _ (by first | rfl | simp), (by rintro b o h; cases h <;> (first | omega | (simp only [World.size_alloc, World.size_setCell, World.size_drew]; omega) | (simp; done) | (simp; omega))), by (repeat (first | with_reducible exact Below.refl _ _ | with_reducible assumption | ((with_reducible refine Below.setCell ?_ ?hp _); case hp => (first | omega | (simp only [World.size_alloc, World.size_setCell, World.size_drew]; omega) | (simp; done) | (simp; omega))) | ((with_reducible refine Below.alloc ?_ ?hp _); case hp => (first | omega | (simp only [World.size_alloc, World.size_setCell, World.size_drew]; omega) | (simp; done) | (simp; omega))) | with_reducible refine Below.drew ?_ | with_reducible refine below_drewN ?_ _))⟩
set_option maxRecDepth 100000 in
set_option maxHeartbeats 400000 in
theorem rnext_t5g (x : Insn) (hx : x.Ok) (i : Nat) (hi : i ≤ 255) (w : World) (hf : form x.code = 5) (hr : isRet x.code = false) (hk : x.jf < x.jt) :
    Calls Try.prog 143 #[(Value.agg #[.int .u16 x.code, .int .u8 x.jt, .int .u8 x.jf, .int .u32 x.k]), .int .i64 i] w fun e w' => ∃ A c, e = .returned (.slice A 2 c) ∧ EN.Rd w' A [i + 1 + x.jf, i + 1 + x.jt] ∧ (∀ b o, A = some ⟨b, o, none⟩ → w.heap.size ≤ b) ∧ Below w.heap.size w w' := by
  have i1 : ¬ ((i : Int) < 0) := by omega
  have i2 : ¬ (255 < (i : Int)) := by omega
  have HF := Lib.hid hf
  have HR := Lib.hid hr
  have hc := hx.code
  have q1 := hx.jt
  have q2 := hx.jf
  have n2 : ¬ x.jt < x.jf := by omega
  have he : ((i : Int) + 1 + x.jt == (i : Int) + 1 + x.jf) = false := by rw [beq_eq_false_iff_ne]; omega
  clear hf hr
  go_enter Try.func143, Try.ntmps143
  go_wp2_with (first
    | (go_at_call 97; refine (rform_any x.code hc _).mono ?_; rw [HF.out]; rintro e w' ⟨rfl, hb1⟩; (obtain ⟨hb1_c, hb1_f⟩ := bcell hb1; have hb1_z := (hb1).size; have hb1_0 : Below w.heap.size w _ := Below.trans (by (repeat (first | with_reducible exact Below.refl _ _ | with_reducible assumption | ((with_reducible refine Below.setCell ?_ ?hp _); case hp => (first | omega | (simp only [World.size_alloc, World.size_setCell, World.size_drew]; omega) | (simp; done) | (simp; omega))) | ((with_reducible refine Below.alloc ?_ ?hp _); case hp => (first | omega | (simp only [World.size_alloc, World.size_setCell, World.size_drew]; omega) | (simp; done) | (simp; omega))) | with_reducible refine Below.drew ?_ | with_reducible refine below_drewN ?_ _))) ((hb1).mono (by (first | omega | (simp only [World.size_alloc, World.size_setCell, World.size_drew]; omega) | (simp; done) | (simp; omega)))); (try simp only [World.size_alloc, World.size_setCell, World.size_drew] at hb1_z hb1_c hb1_f); clear hb1); (have hb1_a0 := hb1_c (w.heap.size) 0 (by omega); simp [go_sem] at hb1_a0; have hb1_a1 := hb1_c (w.heap.size) 1 (by omega); simp [go_sem] at hb1_a1; have hb1_a2 := hb1_c (w.heap.size) 2 (by omega); simp [go_sem] at hb1_a2; have hb1_a3 := hb1_c (w.heap.size) 3 (by omega); simp [go_sem] at hb1_a3))
    | (go_at_call 58; refine (rreturns_any x.code x.jt x.jf x.k _).mono ?_; rw [HR.out]; rintro e w' ⟨rfl, hb2⟩; (obtain ⟨hb2_c, hb2_f⟩ := bcell hb2; have hb2_z := (hb2).size; have hb2_0 : Below w.heap.size w _ := Below.trans (by (repeat (first | with_reducible exact Below.refl _ _ | with_reducible assumption | ((with_reducible refine Below.setCell ?_ ?hp _); case hp => (first | omega | (simp only [World.size_alloc, World.size_setCell, World.size_drew]; omega) | (simp; done) | (simp; omega))) | ((with_reducible refine Below.alloc ?_ ?hp _); case hp => (first | omega | (simp only [World.size_alloc, World.size_setCell, World.size_drew]; omega) | (simp; done) | (simp; omega))) | with_reducible refine Below.drew ?_ | with_reducible refine below_drewN ?_ _))) ((hb2).mono (by (first | omega | (simp only [World.size_alloc, World.size_setCell, World.size_drew]; omega) | (simp; done) | (simp; omega)))); (try simp only [World.size_alloc, World.size_setCell, World.size_drew] at hb2_z hb2_c hb2_f); clear hb2); have b1 := (hb2_c w.heap.size 1 (by omega)).trans hb1_a1; have b2 := (hb2_c w.heap.size 2 (by omega)).trans hb1_a2; have b3 := (hb2_c w.heap.size 3 (by omega)).trans hb1_a3)
    | (go_quiet (fail)))
  go_ret
  refine ⟨_, _, rfl, Enc.Rd.list_at EN _ _ [i + 1 + x.jf, i + 1 + x.jt] _ (by simp [Enc.flat, EN]) _ (by first | rfl | simp), (by rintro b o h; cases h <;> (first | omega | (simp only [World.size_alloc, World.size_setCell, World.size_drew]; omega) | (simp; done) | (simp; omega))), by (repeat (first | with_reducible exact Below.refl _ _ | with_reducible assumption | ((with_reducible refine Below.setCell ?_ ?hp _); case hp => (first | omega | (simp only [World.size_alloc, World.size_setCell, World.size_drew]; omega) | (simp; done) | (simp; omega))) | ((with_reducible refine Below.alloc ?_ ?hp _); case hp => (first | omega | (simp only [World.size_alloc, World.size_setCell, World.size_drew]; omega) | (simp; done) | (simp; omega))) | with_reducible refine Below.drew ?_ | with_reducible refine below_drewN ?_ _))⟩
set_option maxRecDepth 100000 in
set_option maxHeartbeats 400000 in
theorem rnext_t6e (x : Insn) (hx : x.Ok) (i : Nat) (hi : i ≤ 255) (w : World) (hf : form x.code = 6) (hr : isRet x.code = false) (hk : x.jt = x.jf) :
    Calls Try.prog 143 #[(Value.agg #[.int .u16 x.code, .int .u8 x.jt, .int .u8 x.jf, .int .u32 x.k]), .int .i64 i] w fun e w' => ∃ A c, e = .returned (.slice A 1 c) ∧ EN.Rd w' A [i + 1 + x.jt] ∧ (∀ b o, A = some ⟨b, o, none⟩ → w.heap.size ≤ b) ∧ Below w.heap.size w w' := by
  have i1 : ¬ ((i : Int) < 0) := by omega
  have i2 : ¬ (255 < (i : Int)) := by omega
  have HF := Lib.hid hf
  have HR := Lib.hid hr
  have hc := hx.code
  have q1 := hx.jt
  have q2 := hx.jf
  have HK := Lib.hid hk
  have he : ((i : Int) + 1 + x.jt == (i : Int) + 1 + x.jf) = true := by rw [beq_iff_eq]; omega
  clear hk
  clear hf hr
  go_enter Try.func143, Try.ntmps143
  go_wp2_with (first
    | (go_at_call 97; refine (rform_any x.code hc _).mono ?_; rw [HF.out]; rintro e w' ⟨rfl, hb1⟩; (obtain ⟨hb1_c, hb1_f⟩ := bcell hb1; have hb1_z := (hb1).size; have hb1_0 : Below w.heap.size w _ := Below.trans (by (repeat (first | with_reducible exact Below.refl _ _ | with_reducible assumption | ((with_reducible refine Below.setCell ?_ ?hp _); case hp => (first | omega | (simp only [World.size_alloc, World.size_setCell, World.size_drew]; omega) | (simp; done) | (simp; omega))) | ((with_reducible refine Below.alloc ?_ ?hp _); case hp => (first | omega | (simp only [World.size_alloc, World.size_setCell, World.size_drew]; omega) | (simp; done) | (simp; omega))) | with_reducible refine Below.drew ?_ | with_reducible refine below_drewN ?_ _))) ((hb1).mono (by (first | omega | (simp only [World.size_alloc, World.size_setCell, World.size_drew]; omega) | (simp; done) | (simp; omega)))); (try simp only [World.size_alloc, World.size_setCell, World.size_drew] at hb1_z hb1_c hb1_f); clear hb1); (have hb1_a0 := hb1_c (w.heap.size) 0 (by omega); simp [go_sem] at hb1_a0; have hb1_a1 := hb1_c (w.heap.size) 1 (by omega); simp [go_sem] at hb1_a1; have hb1_a2 := hb1_c (w.heap.size) 2 (by omega); simp [go_sem] at hb1_a2; have hb1_a3 := hb1_c (w.heap.size) 3 (by omega); simp [go_sem] at hb1_a3))
    | (go_at_call 58; refine (rreturns_any x.code x.jt x.jf x.k _).mono ?_; rw [HR.out]; rintro e w' ⟨rfl, hb2⟩; (obtain ⟨hb2_c, hb2_f⟩ := bcell hb2; have hb2_z := (hb2).size; have hb2_0 : Below w.heap.size w _ := Below.trans (by (repeat (first | with_reducible exact Below.refl _ _ | with_reducible assumption | ((with_reducible refine Below.setCell ?_ ?hp _); case hp => (first | omega | (simp only [World.size_alloc, World.size_setCell, World.size_drew]; omega) | (simp; done) | (simp; omega))) | ((with_reducible refine Below.alloc ?_ ?hp _); case hp => (first | omega | (simp only [World.size_alloc, World.size_setCell, World.size_drew]; omega) | (simp; done) | (simp; omega))) | with_reducible refine Below.drew ?_ | with_reducible refine below_drewN ?_ _))) ((hb2).mono (by (first | omega | (simp only [World.size_alloc, World.size_setCell, World.size_drew]; omega) | (simp; done) | (simp; omega)))); (try simp only [World.size_alloc, World.size_setCell, World.size_drew] at hb2_z hb2_c hb2_f); clear hb2); have b1 := (hb2_c w.heap.size 1 (by omega)).trans hb1_a1; have b2 := (hb2_c w.heap.size 2 (by omega)).trans hb1_a2; have b3 := (hb2_c w.heap.size 3 (by omega)).trans hb1_a3)
    | (go_quiet (fail)))
  go_ret
  refine ⟨_, _, rfl, Enc.Rd.list_at EN _ _ [i + 1 + x.jt] _ (by simp [Enc.flat, EN]) _ (by first | rfl | simp), (by rintro b o h; cases h <;> (first | omega | (simp only [World.size_alloc, World.size_setCell, World.size_drew]; omega) | (simp; done) | (simp; omega))), by (repeat (first | with_reducible exact Below.refl _ _ | with_reducible assumption | ((with_reducible refine Below.setCell ?_ ?hp _); case hp => (first | omega | (simp only [World.size_alloc, World.size_setCell, World.size_drew]; omega) | (simp; done) | (simp; omega))) | ((with_reducible refine Below.alloc ?_ ?hp _); case hp => (first | omega | (simp only [World.size_alloc, World.size_setCell, World.size_drew]; omega) | (simp; done) | (simp; omega))) | with_reducible refine Below.drew ?_ | with_reducible refine below_drewN ?_ _))⟩
set_option maxRecDepth 100000 in
set_option maxHeartbeats 400000 in
theorem rnext_t6l (x : Insn) (hx : x.Ok) (i : Nat) (hi : i ≤ 255) (w : World) (hf : form x.code = 6) (hr : isRet x.code = false) (hk : x.jt < x.jf) :
    Calls Try.prog 143 #[(Value.agg #[.int .u16 x.code, .int .u8 x.jt, .int .u8 x.jf, .int .u32 x.k]), .int .i64 i] w fun e w' => ∃ A c, e = .returned (.slice A 2 c) ∧ EN.Rd w' A [i + 1 + x.jt, i + 1 + x.jf] ∧ (∀ b o, A = some ⟨b, o, none⟩ → w.heap.size ≤ b) ∧ Below w.heap.size w w' := by
  have i1 : ¬ ((i : Int) < 0) := by omega
  have i2 : ¬ (255 < (i : Int)) := by omega
  have HF := Lib.hid hf
  have HR := Lib.hid hr
  have hc := hx.code
  have q1 := hx.jt
  have q2 := hx.jf
  have n2 : ¬ x.jf < x.jt := by omega
  have he : ((i : Int) + 1 + x.jt == (i : Int) + 1 + x.jf) = false := by rw [beq_eq_false_iff_ne]; omega
  clear hf hr
  go_enter Try.func143, Try.ntmps143
  go_wp2_with (first
    | (go_at_call 97; refine (rform_any x.code hc _).mono ?_; rw [HF.out]; rintro e w' ⟨rfl, hb1⟩; (obtain ⟨hb1_c, hb1_f⟩ := bcell hb1; have hb1_z := (hb1).size; have hb1_0 : Below w.heap.size w _ := Below.trans (by (repeat (first | with_reducible exact Below.refl _ _ | with_reducible assumption | ((with_reducible refine Below.setCell ?_ ?hp _); case hp => (first | omega | (simp only [World.size_alloc, World.size_setCell, World.size_drew]; omega) | (simp; done) | (simp; omega))) | ((with_reducible refine Below.alloc ?_ ?hp _); case hp => (first | omega | (simp only [World.size_alloc, World.size_setCell, World.size_drew]; omega) | (simp; done) | (simp; omega))) | with_reducible refine Below.drew ?_ | with_reducible refine below_drewN ?_ _))) ((hb1).mono (by (first | omega | (simp only [World.size_alloc, World.size_setCell, World.size_drew]; omega) | (simp; done) | (simp; omega)))); (try simp only [World.size_alloc, World.size_setCell, World.size_drew] at hb1_z hb1_c hb1_f); clear hb1); (have hb1_a0 := hb1_c (w.heap.size) 0 (by omega); simp [go_sem] at hb1_a0; have hb1_a1 := hb1_c (w.heap.size) 1 (by omega); simp [go_sem] at hb1_a1; have hb1_a2 := hb1_c (w.heap.size) 2 (by omega); simp [go_sem] at hb1_a2; have hb1_a3 := hb1_c (w.heap.size) 3 (by omega); simp [go_sem] at hb1_a3))
    | (go_at_call 58; refine (rreturns_any x.code x.jt x.jf x.k _).mono ?_; rw [HR.out]; rintro e w' ⟨rfl, hb2⟩; (obtain ⟨hb2_c, hb2_f⟩ := bcell hb2; have hb2_z := (hb2).size; have hb2_0 : Below w.heap.size w _ := Below.trans (by (repeat (first | with_reducible exact Below.refl _ _ | with_reducible assumption | ((with_reducible refine Below.setCell ?_ ?hp _); case hp => (first | omega | (simp only [World.size_alloc, World.size_setCell, World.size_drew]; omega) | (simp; done) | (simp; omega))) | ((with_reducible refine Below.alloc ?_ ?hp _); case hp => (first | omega | (simp only [World.size_alloc, World.size_setCell, World.size_drew]; omega) | (simp; done) | (simp; omega))) | with_reducible refine Below.drew ?_ | with_reducible refine below_drewN ?_ _))) ((hb2).mono (by (first | omega | (simp only [World.size_alloc, World.size_setCell, World.size_drew]; omega) | (simp; done) | (simp; omega)))); (try simp only [World.size_alloc, World.size_setCell, World.size_drew] at hb2_z hb2_c hb2_f); clear hb2); have b1 := (hb2_c w.heap.size 1 (by omega)).trans hb1_a1; have b2 := (hb2_c w.heap.size 2 (by omega)).trans hb1_a2; have b3 := (hb2_c w.heap.size 3 (by omega)).trans hb1_a3)
    | (go_quiet (fail)))
  go_ret
  refine ⟨_, _, rfl, Enc.Rd.list_at EN _ _ [i + 1 + x.jt, i + 1 + x.jf] _ (by simp [Enc.flat, EN]) _ (by first | rfl | simp), (by rintro b o h; cases h <;> (first | omega | (simp only [World.size_alloc, World.size_setCell, World.size_drew]; omega) | (simp; done) | (simp; omega))), by (repeat (first | with_reducible exact Below.refl _ _ | with_reducible assumption | ((with_reducible refine Below.setCell ?_ ?hp _); case hp => (first | omega | (simp only [World.size_alloc, World.size_setCell, World.size_drew]; omega) | (simp; done) | (simp; omega))) | ((with_reducible refine Below.alloc ?_ ?hp _); case hp => (first | omega | (simp only [World.size_alloc, World.size_setCell, World.size_drew]; omega) | (simp; done) | (simp; omega))) | with_reducible refine Below.drew ?_ | with_reducible refine below_drewN ?_ _))⟩
set_option maxRecDepth 100000 in
set_option maxHeartbeats 400000 in
theorem rnext_t6g (x : Insn) (hx : x.Ok) (i : Nat) (hi : i ≤ 255) (w : World) (hf : form x.code = 6) (hr : isRet x.code = false) (hk : x.jf < x.jt) :
    Calls Try.prog 143 #[(Value.agg #[.int .u16 x.code, .int .u8 x.jt, .int .u8 x.jf, .int .u32 x.k]), .int .i64 i] w fun e w' => ∃ A c, e = .returned (.slice A 2 c) ∧ EN.Rd w' A [i + 1 + x.jf, i + 1 + x.jt] ∧ (∀ b o, A = some ⟨b, o, none⟩ → w.heap.size ≤ b) ∧ Below w.heap.size w w' := by
  have i1 : ¬ ((i : Int) < 0) := by omega
  have i2 : ¬ (255 < (i : Int)) := by omega
  have HF := Lib.hid hf
  have HR := Lib.hid hr
  have hc := hx.code
  have q1 := hx.jt
  have q2 := hx.jf
  have n2 : ¬ x.jt < x.jf := by omega
  have he : ((i : Int) + 1 + x.jt == (i : Int) + 1 + x.jf) = false := by rw [beq_eq_false_iff_ne]; omega
  clear hf hr
  go_enter Try.func143, Try.ntmps143
  go_wp2_with (first
    | (go_at_call 97; refine (rform_any x.code hc _).mono ?_; rw [HF.out]; rintro e w' ⟨rfl, hb1⟩; (obtain ⟨hb1_c, hb1_f⟩ := bcell hb1; have hb1_z := (hb1).size; have hb1_0 : Below w.heap.size w _ := Below.trans (by (repeat (first | with_reducible exact Below.refl _ _ | with_reducible assumption | ((with_reducible refine Below.setCell ?_ ?hp _); case hp => (first | omega | (simp only [World.size_alloc, World.size_setCell, World.size_drew]; omega) | (simp; done) | (simp; omega))) | ((with_reducible refine Below.alloc ?_ ?hp _); case hp => (first | omega | (simp only [World.size_alloc, World.size_setCell, World.size_drew]; omega) | (simp; done) | (simp; omega))) | with_reducible refine Below.drew ?_ | with_reducible refine below_drewN ?_ _))) ((hb1).mono (by (first | omega | (simp only [World.size_alloc, World.size_setCell, World.size_drew]; omega) | (simp; done) | (simp; omega)))); (try simp only [World.size_alloc, World.size_setCell, World.size_drew] at hb1_z hb1_c hb1_f); clear hb1); (have hb1_a0 := hb1_c (w.heap.size) 0 (by omega); simp [go_sem] at hb1_a0; have hb1_a1 := hb1_c (w.heap.size) 1 (by omega); simp [go_sem] at hb1_a1; have hb1_a2 := hb1_c (w.heap.size) 2 (by omega); simp [go_sem] at hb1_a2; have hb1_a3 := hb1_c (w.heap.size) 3 (by omega); simp [go_sem] at hb1_a3))
    | (go_at_call 58; refine (rreturns_any x.code x.jt x.jf x.k _).mono ?_; rw [HR.out]; rintro e w' ⟨rfl, hb2⟩; (obtain ⟨hb2_c, hb2_f⟩ := bcell hb2; have hb2_z := (hb2).size; have hb2_0 : Below w.heap.size w _ := Below.trans (by (repeat (first | with_reducible exact Below.refl _ _ | with_reducible assumption | ((with_reducible refine Below.setCell ?_ ?hp _); case hp => (first | omega | (simp only [World.size_alloc, World.size_setCell, World.size_drew]; omega) | (simp; done) | (simp; omega))) | ((with_reducible refine Below.alloc ?_ ?hp _); case hp => (first | omega | (simp only [World.size_alloc, World.size_setCell, World.size_drew]; omega) | (simp; done) | (simp; omega))) | with_reducible refine Below.drew ?_ | with_reducible refine below_drewN ?_ _))) ((hb2).mono (by (first | omega | (simp only [World.size_alloc, World.size_setCell, World.size_drew]; omega) | (simp; done) | (simp; omega)))); (try simp only [World.size_alloc, World.size_setCell, World.size_drew] at hb2_z hb2_c hb2_f); clear hb2); have b1 := (hb2_c w.heap.size 1 (by omega)).trans hb1_a1; have b2 := (hb2_c w.heap.size 2 (by omega)).trans hb1_a2; have b3 := (hb2_c w.heap.size 3 (by omega)).trans hb1_a3)
    | (go_quiet (fail)))
  go_ret
  refine ⟨_, _, rfl, Enc.Rd.list_at EN _ _ [i + 1 + x.jf, i + 1 + x.jt] _ (by simp [Enc.flat, EN]) _ (by first | rfl | simp), (by rintro b o h; cases h <;> (first | omega | (simp only [World.size_alloc, World.size_setCell, World.size_drew]; omega) | (simp; done) | (simp; omega))), by (repeat (first | with_reducible exact Below.refl _ _ | with_reducible assumption | ((with_reducible refine Below.setCell ?_ ?hp _); case hp => (first | omega | (simp only [World.size_alloc, World.size_setCell, World.size_drew]; omega) | (simp; done) | (simp; omega))) | ((with_reducible refine Below.alloc ?_ ?hp _); case hp => (first | omega | (simp only [World.size_alloc, World.size_setCell, World.size_drew]; omega) | (simp; done) | (simp; omega))) | with_reducible refine Below.drew ?_ | with_reducible refine below_drewN ?_ _))⟩
end Go.Proofs.Ytfjbanfibmpalaa

/- Plain: what a passed check tells. Contract: wicketgateref04.Next, whole; wicketgateref04.Reach. -/
set_option linter.unusedVariables false
set_option linter.unusedSimpArgs false
namespace Go.Proofs.Ytfjbanfibmpalaa
open Go.RowKit Go.Shelf

theorem rnext_any (x : Insn) (hx : x.Ok) (i : Nat) (hi : i ≤ 255) (w : World) :
    Calls Try.prog 143 #[(Value.agg #[.int .u16 x.code, .int .u8 x.jt, .int .u8 x.jf, .int .u32 x.k]), .int .i64 i] w fun e w' => ∃ A c, e = .returned (.slice A (nexts x i).length c) ∧ EN.Rd w' A (nexts x i) ∧ (∀ b o, A = some ⟨b, o, none⟩ → w.heap.size ≤ b) ∧ Below w.heap.size w w' := by
  have hv := form_vals x.code
  by_cases hneg : form x.code < 0
  · rw [show nexts x i = [] by unfold nexts; rw [if_pos (.inl hneg)]]
    exact rnext_neg x hx i hi w (by omega) _ rfl
  by_cases hr : isRet x.code = true
  · rw [show nexts x i = [] by unfold nexts; rw [if_pos (.inr hr)]]
    exact rnext_ret x hx i hi w _ rfl (by omega) hr
  have hr' : isRet x.code = false := by simpa using hr
  have hno : ¬ (form x.code < 0 ∨ isRet x.code = true) := by rintro (h | h); exact hneg h; exact hr h
  by_cases h4 : form x.code = 4
  · by_cases hk : x.k ≤ 255
    · rw [show nexts x i = [i + 1 + x.k] by unfold nexts; rw [if_neg hno, if_pos h4, if_pos hk]]
      exact rnext_ja x hx i hi w h4 hr' hk
    · rw [show nexts x i = [] by unfold nexts; rw [if_neg hno, if_pos h4, if_neg hk]]
      exact rnext_far x hx i hi w h4 hr' (by omega)
  by_cases h56 : form x.code = 5 ∨ form x.code = 6
  · by_cases he : x.jt = x.jf
    · rw [show nexts x i = [i + 1 + x.jt] by unfold nexts; rw [if_neg hno, if_neg h4, if_pos h56, if_pos he]]
      rcases h56 with h | h
      · exact rnext_t5e x hx i hi w h hr' he
      · exact rnext_t6e x hx i hi w h hr' he
    · by_cases hl : x.jt < x.jf
      · rw [show nexts x i = [i + 1 + x.jt, i + 1 + x.jf] by unfold nexts; rw [if_neg hno, if_neg h4, if_pos h56, if_neg he, Nat.min_eq_left (by omega), Nat.max_eq_right (by omega)]]
        rcases h56 with h | h
        · exact rnext_t5l x hx i hi w h hr' hl
        · exact rnext_t6l x hx i hi w h hr' hl
      · rw [show nexts x i = [i + 1 + x.jf, i + 1 + x.jt] by unfold nexts; rw [if_neg hno, if_neg h4, if_pos h56, if_neg he, Nat.min_eq_right (by omega), Nat.max_eq_left (by omega)]]
        rcases h56 with h | h
        · exact rnext_t5g x hx i hi w h hr' (by omega)
        · exact rnext_t6g x hx i hi w h hr' (by omega)
  · rw [show nexts x i = [i + 1] by unfold nexts; rw [if_neg hno, if_neg h4, if_neg h56]]
    exact rnext_plain x hx i hi w _ rfl (by omega) (by simp; omega) (by simp; omega) (by simp; omega) hr'

/-- A truth value for each place. -/
def marks (n : Nat) (f : Nat → Bool) : List Bool := (List.range n).map f

theorem marks_len (n : Nat) (f : Nat → Bool) : (marks n f).length = n := by simp [marks]
theorem marks_get (n : Nat) (f : Nat → Bool) (i : Nat) (hi : i < (marks n f).length) : (marks n f)[i] = f i := by simp [marks]
theorem marks_set (n : Nat) (f : Nat → Bool) (i : Nat) (b : Bool) : (marks n f).set i b = marks n (fun q => if q = i then b else f q) := by
  refine List.ext_getElem (by simp [marks]) ?_
  intro j h1 h2
  rw [List.getElem_set]
  simp only [marks, List.getElem_map, List.getElem_range]
  by_cases h : i = j
  · simp [h]
  · rw [if_neg h, if_neg (fun e => h e.symm)]
theorem marks_congr (n : Nat) (f g : Nat → Bool) (h : ∀ q, q < n → f q = g q) : marks n f = marks n g :=
  List.map_congr_left (fun q hq => h q (List.mem_range.1 hq))

/-- One truth value is written. -/
theorem marks_put {w : World} {base n g c : Nat} {f : Nat → Bool} (h : EB.Own 4 w base (some ⟨g, 0, none⟩) c (marks n f)) (i : Nat) (hi : i < n) (b : Bool) :
    EB.Own 4 (w.setCell ⟨g, i, none⟩ (.bool b)) base (some ⟨g, 0, none⟩) c (marks n (fun q => if q = i then b else f q)) := by
  rw [← marks_set]
  exact h.set i (by rw [marks_len]; exact hi) 0 (by decide) b (.bool b) rfl i (by show i = i * 1 + 0; omega)

theorem marks_cell {w : World} {base n g c : Nat} {f : Nat → Bool} (h : EB.Own 4 w base (some ⟨g, 0, none⟩) c (marks n f)) (i : Nat) (hi : i < n) : w.cell? ⟨g, i, none⟩ = some (.bool (f i)) := by
  have hi' : i < (marks n f).length := by rw [marks_len]; exact hi
  have := h.at_ i hi' 0 (.bool (f i)) (by rw [marks_get]; rfl)
  simpa [EB] using this
theorem ints_cell {w : World} {b o : Nat} {l : List Nat} (h : EN.at_ w b o l) (i : Nat) (hi : i < l.length) : w.cell? ⟨b, o + i, none⟩ = some (.int .i64 ((nth l i : Nat) : Int)) := by
  have := h i hi 0 (.int .i64 (l[i] : Int)) rfl
  simpa [EN, nth, hi] using this
end Go.Proofs.Ytfjbanfibmpalaa

/- Contract: wicketgateref04.Reach. -/
set_option linter.unusedVariables false
set_option linter.unusedSimpArgs false
namespace Go.Proofs.Ytfjbanfibmpalaa
open Go.RowKit Go.Shelf

/-- Between the rounds of the document's Reach. -/
structure RJ (w : World) (N0 g n : Nat) (f : Nat → Bool) (R : Option Addr) (c : Nat) (out : List Nat) (W : World) : Prop where
  own : EN.Own 3 W N0 R c out
  bools : EB.Own 4 W w.heap.size (some ⟨g, 0, none⟩) n (marks n f)
  below : Below w.heap.size w W
  size : N0 ≤ W.heap.size
  h1 : w.heap.size ≤ g
  h2 : g < N0

section
variable {w : World} {N0 g n : Nat} {f : Nat → Bool} {R : Option Addr} {c : Nat} {out : List Nat} {W W' : World}

theorem RJ.step (h : RJ w N0 g n f R c out W) (hb : Below W.heap.size W W') : RJ w N0 g n f R c out W' :=
  ⟨h.own.below hb (Nat.le_refl _), h.bools.below hb (Nat.le_refl _), h.below.trans (hb.mono h.below.size), Nat.le_trans h.size hb.size, h.h1, h.h2⟩

theorem RJ.grow {R' : Option Addr} {c' : Nat} {out' : List Nat} (h : RJ w N0 g n f R c out W) (hg : W.grownBy W' (Value.slice R out.length c).ownBlock) (ho : EN.Own 3 W' N0 R' c' out') : RJ w N0 g n f R' c' out' W' := by
  have q1 := h.h1
  have q2 := h.h2
  have hne : ∀ k, (Value.slice R out.length c).ownBlock = some k → N0 ≤ k := fun k e => (World.ownsRow.lt h.own k e).1
  refine ⟨ho, ?_, ⟨hg.os.trans h.below.os, hg.tape.trans h.below.tape, hg.output.trans h.below.output, Nat.le_trans h.below.size hg.size, fun k hk => (hg.block k (Nat.lt_of_lt_of_le hk h.below.size) (fun e => by have := hne k e.symm; omega)).trans (h.below.block k hk)⟩, Nat.le_trans h.size hg.size, q1, q2⟩
  refine World.ownsRow.kept h.bools hg (.inr fun e => ?_)
  have := hne g (e.symm.trans rfl)
  omega

theorem RJ.put (h : RJ w N0 g n f R c out W) (i : Nat) (hi : i < n) (b : Bool) : RJ w N0 g n (fun q => if q = i then b else f q) R c out (W.setCell ⟨g, i, none⟩ (.bool b)) :=
  ⟨ownsRow_setCell_below h.own (a := ⟨g, i, none⟩) (by exact h.h2) _, marks_put h.bools i hi b, h.below.setCell (p := ⟨g, i, none⟩) (by exact h.h1) _, by simpa using h.size, h.h1, h.h2⟩

theorem RJ.congr {f' : Nat → Bool} (h : RJ w N0 g n f R c out W) (hf : ∀ q, q < n → f q = f' q) : RJ w N0 g n f' R c out W :=
  ⟨h.own, by rw [← marks_congr n f f' hf]; exact h.bools, h.below, h.size, h.h1, h.h2⟩
end

set_option maxRecDepth 100000 in
set_option maxHeartbeats 1000000 in
theorem rreach_good (A : Option Addr) (cap : Nat) (l : List Insn) (w : World) (hl : RdP w A l) (hc : (check l).2 = 0) :
    Calls Try.prog 98 #[.slice A l.length cap] w fun e w' => ∃ R c, e = .returned (.slice R (reach l).length c) ∧ EN.Own 3 w' w.heap.size R c (reach l) ∧ Below w.heap.size w w' := by
  have hlen := check_len hc
  have HNX := Lib.hid (fun i (hi : i < l.length) => nexts_lt hc hi)
  have HL := Lib.hid hl
  obtain ⟨b, o, rfl, hb, hcells⟩ := HL.out.get (i := 0) (by omega)
  have HCL := Lib.hid hcells
  clear hc hl hcells
  obtain ⟨ib, hib, hz0, hz1, hz2⟩ := info_parts info_bool
  have HI := Lib.hid (And.intro hib (And.intro hz0 (And.intro hz1 hz2)))
  clear hib hz0 hz1 hz2
  have hn1 : ¬ (l.length = 0) := by omega
  go_enter Try.func98, Try.ntmps98
  go_wp2_with (at_make; refine wpList_make_full _ rfl _ _ 152 rfl w.heap.size 4 ib (.bool false) 1 Try.underlying152 HI.out.1 HI.out.2.1 HI.out.2.2.1 _ _ _ _ l.length rfl rfl rfl rfl (by rw [HI.out.2.2.2]; omega) (by unfold maxLen; omega) (Nat.le_refl _) ?_; intro w1 hown1 hg1; have HG1 := Lib.hid hg1; have HO1 := Lib.hid (make_own1 EB .bool (fun _ => rfl) rfl false rfl hown1); have hf1 : w1.frozen? ⟨w.heap.size, 0, none⟩ = false := HO1.out.frozen 0; have hc1 : w1.cell? ⟨w.heap.size, 0, none⟩ = some (.bool false) := (by have h := HO1.out.at_ 0 (by simp; omega) 0 (.bool false) (by simp [EB]); simpa [EB] using h); clear hg1 hown1)
  have hs1 : w.heap.size < w1.heap.size := HO1.out.lt.2
  have hR0 : RJ w w1.heap.size w.heap.size l.length (metAt l 0) none 0 (outAt l 0) (w1.setCell ⟨w.heap.size, 0, none⟩ (.bool true)) := by
    have e : List.replicate l.length false = marks l.length (fun _ => false) := by
      refine List.ext_getElem (by simp [marks]) ?_
      intro i h1 h2
      simp [marks]
    have h := HO1.out
    rw [e] at h
    have hb1 : Below w.heap.size w w1 := (Below.refl _ w).grown HG1.out (Nat.le_refl _) (fun k hk => by cases hk)
    exact (RJ.put (R := none) (c := 0) (out := []) ⟨Enc.Own.nil, h, hb1, Nat.le_refl _, Nat.le_refl _, hs1⟩ 0 (by omega) true).congr (fun q _ => by by_cases h : q = 0 <;> simp [h, metAt])
  generalize hN0 : w1.heap.size = N0 at *
  generalize hg0 : w.heap.size = g at *
  have HR0 := Lib.hid hR0
  clear hR0 HG1 HO1 hf1 hs1 hc1
  go_loopw [4, 16] (fun out i wr => ∃ (k : Nat) (R : Option Addr) (c : Nat), k ≤ l.length ∧ i = .int .i64 k ∧ out = .slice R (outAt l k).length c ∧ RJ w N0 g l.length (metAt l k) R c (outAt l k) wr) (fun _ i _ => l.length - (intOf i).toNat)
  case atStart => exact ⟨0, none, 0, by omega, rfl, rfl, HR0.out⟩
  case round =>
    obtain ⟨k, R, c, hk, rfl, rfl, hRJ⟩ := hrel
    have HRJ := Lib.hid hRJ
    clear hRJ HR0
    have q1 := HRJ.out.h1
    have q2 := HRJ.out.h2
    have q3 := HRJ.out.size
    have hgw : g < wr.heap.size := by omega
    by_cases hlt : k < l.length
    · have hI := (HCL.out k hlt).keep (fun o => HRJ.out.below.cell (p := ⟨b, o, none⟩) (by rw [hg0]; exact hb))
      have hx := HL.out.ok _ (List.getElem_mem hlt)
      have hxd : l.getD k default = l[k] := by simp [hlt]
      have HN := Lib.hid (HNX.out k hlt)
      generalize hx0 : l[k] = x at *
      have HXD := Lib.hid hxd
      obtain ⟨h0, h1, h2, h3⟩ := hI
      clear hx0 hxd
      have hcm := marks_cell HRJ.out.bools k hlt
      by_cases hm : metAt l k k = true
      · rw [hm] at hcm
        have HM := Lib.hid hm
        clear hm
        have hol := outAt_len l k
        have HOUT := Lib.hid (show outAt l (k + 1) = outAt l k ++ [k] by rw [outAt, if_pos HM.out])
        have HMET := Lib.hid (show metAt l (k + 1) = fun q => metAt l k q || (nexts x k).contains q by rw [metAt, if_pos HM.out, HXD.out])
        have HOWN := Lib.hid HRJ.out.own
        generalize outAt l k = out at *
        generalize hfm : metAt l k = fm at *
        clear hfm
        go_wp2_with (first
          | (at_builtin; refine wpList_append_L EN 3 64 rfl (.tmp 26) (.tmp 28) rfl _ 8 Try.underlying64 info_int rfl (by decide) _ N0 R c out rfl (HRJ.out.step (by (repeat (first | with_reducible exact Below.refl _ _ | with_reducible assumption | ((with_reducible refine Below.setCell ?_ ?hp _); case hp => (first | omega | (simp only [World.size_alloc, World.size_setCell, World.size_drew]; omega) | (simp; done) | (simp; omega))) | ((with_reducible refine Below.alloc ?_ ?hp _); case hp => (first | omega | (simp only [World.size_alloc, World.size_setCell, World.size_drew]; omega) | (simp; done) | (simp; omega))) | with_reducible refine Below.drew ?_ | with_reducible refine below_drewN ?_ _)))).own (some ⟨wr.heap.size + 1, 0, none⟩) 1 [k] rfl (Enc.Rd.one_at EN _ _ k _ rfl _ (by simp only [World.size_alloc])) (by show out.length + 1 ≤ _; omega) (by decide) (by simp only [World.size_alloc]; omega) ?_; intro R' c' w3 hown3 hg hat; have HG := Lib.hid hg; have HR3 := Lib.hid ((HRJ.out.step (by (repeat (first | with_reducible exact Below.refl _ _ | with_reducible assumption | ((with_reducible refine Below.setCell ?_ ?hp _); case hp => (first | omega | (simp only [World.size_alloc, World.size_setCell, World.size_drew]; omega) | (simp; done) | (simp; omega))) | ((with_reducible refine Below.alloc ?_ ?hp _); case hp => (first | omega | (simp only [World.size_alloc, World.size_setCell, World.size_drew]; omega) | (simp; done) | (simp; omega))) | with_reducible refine Below.drew ?_ | with_reducible refine below_drewN ?_ _)))).grow hg hown3); have hx3 : w3.heap[wr.heap.size]? = some (.cells #[.int .u16 x.code, .int .u8 x.jt, .int .u8 x.jf, .int .u32 x.k] 36 (0, 0)) := (hg.block _ (by simp only [World.size_alloc]; omega) (fun e => by have := World.ownsRow.lt HOWN.out _ e.symm; omega)).trans ((Below.heap_alloc _ _ _ (by simp)).trans (heap_alloc_new wr _)); have d0 : w3.cell? ⟨wr.heap.size, 0, none⟩ = some (.int .u16 x.code) := cell_of_row _ _ _ _ _ _ hx3; have d1 : w3.cell? ⟨wr.heap.size, 1, none⟩ = some (.int .u8 x.jt) := cell_of_row _ _ _ _ _ _ hx3; have d2 : w3.cell? ⟨wr.heap.size, 2, none⟩ = some (.int .u8 x.jf) := cell_of_row _ _ _ _ _ _ hx3; have d3 : w3.cell? ⟨wr.heap.size, 3, none⟩ = some (.int .u32 x.k) := cell_of_row _ _ _ _ _ _ hx3; clear hx3 hg hat hown3)
          | (go_at_call 143; refine (rnext_any x hx k (by omega) w3).mono ?_; rintro e w4 ⟨B, d, rfl, hrd, hfr, hb4⟩; have HFR := Lib.hid hfr; have HR4 := Lib.hid (HR3.out.step hb4); have HRD := Lib.hid hrd; clear hrd hb4 hfr))
        have hnl := nexts_len x k
        generalize nexts x k = ns at *
        go_loopw [34] (fun i wq => ∃ j : Nat, j ≤ ns.length ∧ i = .int .i64 j ∧ RJ w N0 g l.length (fun q => fm q || (ns.take j).contains q) R' c' (out ++ [k]) wq ∧ ∀ b o, B = some ⟨b, o, none⟩ → ns ≠ [] → EN.at_ wq b o ns) (fun i _ => ns.length - (intOf i).toNat)
        case atStart =>
          refine ⟨0, by omega, rfl, HR4.out.congr (fun q _ => by simp), fun b o hB hne => ?_⟩
          obtain ⟨b', o', hB', _, hat⟩ := HRD.out.at_ hne
          rw [hB] at hB'
          cases hB'
          exact hat
        case round =>
          obtain ⟨j, hj, rfl, hRJ, hat⟩ := hrel
          have HRJ2 := Lib.hid hRJ
          have HAT := Lib.hid hat
          clear hRJ hat
          have p3 := HRJ2.out.size
          have hgq : g < wr.heap.size := by omega
          by_cases hjl : j < ns.length
          · have hne : ns ≠ [] := by intro e; rw [e] at hjl; simp at hjl
            obtain ⟨b', o', rfl, _, _⟩ := HRD.out.at_ hne
            have hci := ints_cell (HAT.out b' o' rfl hne) j hjl
            have hz : nth ns j < l.length := by
              have : nth ns j = ns[j] := by simp [nth, hjl]
              rw [this]
              exact (HN.out _ (List.getElem_mem hjl)).2
            have HCT := Lib.hid (fun q => contains_take ns j q hjl)
            have hfz := HRJ2.out.bools.frozen (nth ns j)
            have hcz := marks_cell HRJ2.out.bools (nth ns j) hz
            have hbg : g < b' := by have := HFR.out b' o' rfl; have := HR3.out.size; omega
            generalize nth ns j = z at *
            have HNE := Lib.hid hne
            clear hne
            go_wp2
            go_roundw
            case rel =>
              refine ⟨j + 1, by omega, by go_num, (HRJ2.out.put z hz true).congr (fun q _ => ?_), fun b o hB hne => ?_⟩
              · rw [HCT.out]
                by_cases hq : q = z
                · simp [hq]
                · have hq' : (q == z) = false := by simp [hq]
                  simp [hq, hq']
              · cases hB
                exact (HAT.out _ _ rfl hne).keep (fun o => World.cell?_setCell_other _ _ _ _ (by intro e; injection e with e1; omega))
            case measure => simp [intOf]; omega
          · have hj' : j = ns.length := by omega
            subst hj'
            go_wp2
            go_roundw
            case rel =>
              refine ⟨k + 1, R', c', by omega, by go_num, by rw [HOUT.out, List.length_append]; rfl, ?_⟩
              rw [HOUT.out, HMET.out]
              have := HRJ2.out
              rw [List.take_length] at this
              exact this
            case measure => simp [intOf]; omega
      · have HM := Lib.hid hm
        have e1 : outAt l (k + 1) = outAt l k := by rw [outAt, if_neg HM.out]
        have e2 : metAt l (k + 1) = metAt l k := by rw [metAt, if_neg HM.out]
        rw [show metAt l k k = false by simpa using hm] at hcm
        clear hm
        go_wp2
        go_roundw
        case rel =>
          refine ⟨k + 1, R, c, by omega, by go_num, by rw [e1], ?_⟩
          rw [e1, e2]
          exact HRJ.out.step (by (repeat (first | with_reducible exact Below.refl _ _ | with_reducible assumption | ((with_reducible refine Below.setCell ?_ ?hp _); case hp => (first | omega | (simp only [World.size_alloc, World.size_setCell, World.size_drew]; omega) | (simp; done) | (simp; omega))) | ((with_reducible refine Below.alloc ?_ ?hp _); case hp => (first | omega | (simp only [World.size_alloc, World.size_setCell, World.size_drew]; omega) | (simp; done) | (simp; omega))) | with_reducible refine Below.drew ?_ | with_reducible refine below_drewN ?_ _)))
        case measure => simp [intOf]; omega
    · have hk' : k = l.length := by omega
      subst hk'
      go_wp2
      go_ret
      exact ⟨R, c, rfl, HRJ.out.own.mono (by omega), HRJ.out.below⟩
end Go.Proofs.Ytfjbanfibmpalaa

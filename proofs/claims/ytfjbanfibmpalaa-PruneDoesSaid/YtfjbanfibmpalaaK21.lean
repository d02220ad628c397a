/- Plain: jumps of a good program lead forward within it. Contracts: (prune.program).jumps, .tests, .returns, .end; wicketgateref22.end, .returns, .tests, .leads. -/
import Derived.Test.YtfjbanfibmpalaaK20
set_option linter.unusedVariables false
set_option linter.unusedSimpArgs false
namespace Go.Proofs.Ytfjbanfibmpalaa
open Go.RowKit Go.Shelf

section
variable {l : List Insn}

end

/-- An instruction of a row at hand. -/
theorem RdP.cells {w : World} {A : Option Addr} {l : List Insn} (h : RdP w A l) {i : Nat} (hi : i < l.length) : ∃ b o, A = some ⟨b, o, none⟩ ∧ b < w.heap.size ∧ IAt w b (o + i * 4) (ins l i) := by
  obtain ⟨b, o, rfl, hb, hc⟩ := h.get hi
  exact ⟨b, o, rfl, hb, by rw [at_get l i hi]; exact hc i hi⟩

set_option maxHeartbeats 400000 in
theorem jumps_any (A : Option Addr) (cap : Nat) (l : List Insn) (i : Nat) (w : World) (hl : RdP w A l) (hi : i < l.length) :
    Calls Try.prog 136 #[.slice A l.length cap, .int .i64 i] w fun e w' => e = .returned (.bool (isJa (ins l i))) ∧ w = w' := by
  obtain ⟨b, o, rfl, hb, hc⟩ := hl.cells hi
  have hs := hl.small
  unfold isJa
  generalize ins l i = x at *
  obtain ⟨h0, h1, h2, h3⟩ := hc
  clear hl
  by_cases h : x.code = 5
  · have e : ((x.code : Int) == 5) = true := by rw [beq_iff_eq]; omega
    have HE := Lib.hid (show (x.code == 5) = true by simp [h])
    clear h
    go_enter Try.func136, Try.ntmps136
    go_wp2
    go_ret
    exact ⟨by rw [HE.out]; rfl, rfl⟩
  · have e : ((x.code : Int) == 5) = false := by rw [beq_eq_false_iff_ne]; omega
    have HE := Lib.hid (show (x.code == 5) = false by simp [h])
    clear h
    go_enter Try.func136, Try.ntmps136
    go_wp2
    go_ret
    exact ⟨by rw [HE.out]; rfl, rfl⟩

set_option maxHeartbeats 400000 in
theorem tests_at (A : Option Addr) (cap : Nat) (l : List Insn) (i : Nat) (w : World) (hl : RdP w A l) (hi : i < l.length) :
    Calls Try.prog 139 #[.slice A l.length cap, .int .i64 i] w fun e w' => e = .returned (.bool (isTest (ins l i))) ∧ Below w.heap.size w w' := by
  obtain ⟨b, o, rfl, hb, hc⟩ := hl.cells hi
  have hs := hl.small
  have hx := hl.ok _ (List.getElem_mem hi)
  rw [← at_get l i hi] at hx
  have hv := form_vals (ins l i).code
  generalize hf : form (ins l i).code = f at hv
  have HF := Lib.hid hf
  have HT := Lib.hid (isTest_form _ _ hf)
  generalize ins l i = x at *
  obtain ⟨h0, h1, h2, h3⟩ := hc
  have hcx := hx.code
  clear hl hf
  rcases hv with rfl | rfl | rfl | rfl | rfl | rfl | rfl | rfl
  all_goals
    go_enter Try.func139, Try.ntmps139
    go_wp2_with (go_at_call 105; refine (form_any x.code hcx _).mono ?_; rw [HF.out]; rintro e w' ⟨rfl, hb1⟩; (obtain ⟨hb1_c, hb1_f⟩ := bcell hb1; have hb1_z := (hb1).size; have hb1_0 : Below w.heap.size w _ := Below.trans (by (repeat (first | with_reducible exact Below.refl _ _ | with_reducible assumption | ((with_reducible refine Below.setCell ?_ ?hp _); case hp => (first | omega | (simp only [World.size_alloc, World.size_setCell, World.size_drew]; omega) | (simp; done) | (simp; omega))) | ((with_reducible refine Below.alloc ?_ ?hp _); case hp => (first | omega | (simp only [World.size_alloc, World.size_setCell, World.size_drew]; omega) | (simp; done) | (simp; omega))) | with_reducible refine Below.drew ?_ | with_reducible refine below_drewN ?_ _))) ((hb1).mono (by (first | omega | (simp only [World.size_alloc, World.size_setCell, World.size_drew]; omega) | (simp; done) | (simp; omega)))); (try simp only [World.size_alloc, World.size_setCell, World.size_drew] at hb1_z hb1_c hb1_f); clear hb1))
    go_ret
    exact ⟨by rw [HT.out]; rfl, by assumption⟩

set_option maxHeartbeats 400000 in
theorem rtests_any (x : Insn) (hx : x.Ok) (w : World) :
    Calls Try.prog 100 #[(Value.agg #[.int .u16 x.code, .int .u8 x.jt, .int .u8 x.jf, .int .u32 x.k])] w fun e w' => e = .returned (.bool (isTest x)) ∧ Below w.heap.size w w' := by
  have hv := form_vals x.code
  generalize hf : form x.code = f at hv
  have HF := Lib.hid hf
  have HT := Lib.hid (isTest_form _ _ hf)
  have hcx := hx.code
  clear hf
  rcases hv with rfl | rfl | rfl | rfl | rfl | rfl | rfl | rfl
  all_goals
    go_enter Try.func100, Try.ntmps100
    go_wp2_with (go_at_call 97; refine (rform_any x.code hcx _).mono ?_; rw [HF.out]; rintro e w' ⟨rfl, hb1⟩; (obtain ⟨hb1_c, hb1_f⟩ := bcell hb1; have hb1_z := (hb1).size; have hb1_0 : Below w.heap.size w _ := Below.trans (by (repeat (first | with_reducible exact Below.refl _ _ | with_reducible assumption | ((with_reducible refine Below.setCell ?_ ?hp _); case hp => (first | omega | (simp only [World.size_alloc, World.size_setCell, World.size_drew]; omega) | (simp; done) | (simp; omega))) | ((with_reducible refine Below.alloc ?_ ?hp _); case hp => (first | omega | (simp only [World.size_alloc, World.size_setCell, World.size_drew]; omega) | (simp; done) | (simp; omega))) | with_reducible refine Below.drew ?_ | with_reducible refine below_drewN ?_ _))) ((hb1).mono (by (first | omega | (simp only [World.size_alloc, World.size_setCell, World.size_drew]; omega) | (simp; done) | (simp; omega)))); (try simp only [World.size_alloc, World.size_setCell, World.size_drew] at hb1_z hb1_c hb1_f); clear hb1))
    go_ret
    exact ⟨by rw [HT.out]; rfl, by assumption⟩

set_option maxHeartbeats 400000 in
theorem r22returns_any (c a b k : Nat) (w : World) :
    Calls Try.prog 104 #[.agg #[.int .u16 c, .int .u8 a, .int .u8 b, .int .u32 k]] w fun e w' => e = .returned (.bool (isRet c)) ∧ Below w.heap.size w w' := by
  go_enter Try.func104, Try.ntmps104
  go_wp2
  all_goals
    go_ret
    go_light
    refine ⟨?_, by (repeat (first | with_reducible exact Below.refl _ _ | with_reducible assumption | ((with_reducible refine Below.setCell ?_ ?hp _); case hp => (first | omega | (simp only [World.size_alloc, World.size_setCell, World.size_drew]; omega) | (simp; done) | (simp; omega))) | ((with_reducible refine Below.alloc ?_ ?hp _); case hp => (first | omega | (simp only [World.size_alloc, World.size_setCell, World.size_drew]; omega) | (simp; done) | (simp; omega))) | with_reducible refine Below.drew ?_ | with_reducible refine below_drewN ?_ _))⟩
    unfold isRet
    first
      | (show Ending.returned (Value.bool true) = _; rw [show c = 6 by omega]; rfl)
      | (show Ending.returned (Value.bool _) = _; congr 2; rw [Bool.eq_iff_iff]; simp; omega)
set_option maxHeartbeats 400000 in
theorem returns_at (A : Option Addr) (cap : Nat) (l : List Insn) (i : Nat) (w : World) (hl : RdP w A l) (hg : Good l) (hi : i < l.length) :
    Calls Try.prog 137 #[.slice A l.length cap, .int .i64 i] w fun e w' => e = .returned (.bool (isRet (ins l i).code)) ∧ Below w.heap.size w w' := by
  obtain ⟨b, o, rfl, hb, hc⟩ := hl.cells hi
  have hs := hl.small
  have hx := hg.okAt hi
  have hn := nexts_nil hg hi
  have hlen := hg.len
  have hnl := nexts_len (ins l i) i
  generalize ins l i = x at *
  obtain ⟨h0, h1, h2, h3⟩ := hc
  have HX := Lib.hid hx
  clear hl hx
  by_cases hr : isRet x.code = true
  · have e0 : (((nexts x i).length : Int) == 0) = true := by rw [beq_iff_eq]; have := hn.2 hr; omega
    have HR := Lib.hid hr
    clear hr hn
    go_enter Try.func137, Try.ntmps137
    go_wp2_with (go_at_call 157; refine (nextList_any x HX.out i (by omega) _).mono ?_; rintro e w' ⟨A', c', rfl, ho, hb1⟩; clear ho; (obtain ⟨hb1_c, hb1_f⟩ := bcell hb1; have hb1_z := (hb1).size; have hb1_0 : Below w.heap.size w _ := Below.trans (by (repeat (first | with_reducible exact Below.refl _ _ | with_reducible assumption | ((with_reducible refine Below.setCell ?_ ?hp _); case hp => (first | omega | (simp only [World.size_alloc, World.size_setCell, World.size_drew]; omega) | (simp; done) | (simp; omega))) | ((with_reducible refine Below.alloc ?_ ?hp _); case hp => (first | omega | (simp only [World.size_alloc, World.size_setCell, World.size_drew]; omega) | (simp; done) | (simp; omega))) | with_reducible refine Below.drew ?_ | with_reducible refine below_drewN ?_ _))) ((hb1).mono (by (first | omega | (simp only [World.size_alloc, World.size_setCell, World.size_drew]; omega) | (simp; done) | (simp; omega)))); (try simp only [World.size_alloc, World.size_setCell, World.size_drew] at hb1_z hb1_c hb1_f); clear hb1))
    go_ret
    exact ⟨by rw [HR.out]; rfl, by assumption⟩
  · have e0 : (((nexts x i).length : Int) == 0) = false := by rw [beq_eq_false_iff_ne]; intro h; exact hr (hn.1 (by omega))
    have HR := Lib.hid (show isRet x.code = false by simpa using hr)
    clear hr hn
    go_enter Try.func137, Try.ntmps137
    go_wp2_with (go_at_call 157; refine (nextList_any x HX.out i (by omega) _).mono ?_; rintro e w' ⟨A', c', rfl, ho, hb1⟩; clear ho; (obtain ⟨hb1_c, hb1_f⟩ := bcell hb1; have hb1_z := (hb1).size; have hb1_0 : Below w.heap.size w _ := Below.trans (by (repeat (first | with_reducible exact Below.refl _ _ | with_reducible assumption | ((with_reducible refine Below.setCell ?_ ?hp _); case hp => (first | omega | (simp only [World.size_alloc, World.size_setCell, World.size_drew]; omega) | (simp; done) | (simp; omega))) | ((with_reducible refine Below.alloc ?_ ?hp _); case hp => (first | omega | (simp only [World.size_alloc, World.size_setCell, World.size_drew]; omega) | (simp; done) | (simp; omega))) | with_reducible refine Below.drew ?_ | with_reducible refine below_drewN ?_ _))) ((hb1).mono (by (first | omega | (simp only [World.size_alloc, World.size_setCell, World.size_drew]; omega) | (simp; done) | (simp; omega)))); (try simp only [World.size_alloc, World.size_setCell, World.size_drew] at hb1_z hb1_c hb1_f); clear hb1))
    go_ret
    exact ⟨by rw [HR.out]; rfl, by assumption⟩

set_option maxHeartbeats 400000 in
theorem end_any (A : Option Addr) (cap : Nat) (l : List Insn) (w : World) (hl : RdP w A l) (hg : Good l) : ∀ n i, l.length - i ≤ n → i < l.length →
    Calls Try.prog 135 #[.slice A l.length cap, .int .i64 i] w fun e w' => e = .returned (.int .i64 (endOf l i)) ∧ w = w'
  | 0, i, hn, hi => by omega
  | n + 1, i, hn, hi => by
    have IH := Lib.hid (end_any A cap l w hl hg n)
    have HL := Lib.hid hl
    have hlen := hg.len
    obtain ⟨b, o, rfl, hb, hc⟩ := hl.cells hi
    obtain ⟨h0, h1, h2, h3⟩ := hc
    clear hl
    by_cases hj : isJa (ins l i) = true
    · have HE := Lib.hid (endOf_ja hg hi hj)
      have hk := hg.ja hi hj
      have HJ := Lib.hid hj
      clear hj hg
      generalize hx : ins l i = x at *
      have HX := Lib.hid hx
      clear hx
      go_enter Try.func135, Try.ntmps135
      go_wp2_with (first
        | (go_at_call 136; refine (jumps_any _ cap l i w HL.out hi).mono ?_; rw [HX.out, HJ.out]; rintro e w' ⟨rfl, rfl⟩)
        | (go_at_call 135; refine (IH.out (i + 1 + x.k) (by omega) hk.1).mono ?_; rintro e w' ⟨rfl, rfl⟩))
      go_ret
      exact ⟨by rw [HE.out]; rfl, rfl⟩
    · have hj' : isJa (ins l i) = false := by simpa using hj
      have HE := Lib.hid (endOf_else hi hj')
      have HJ := Lib.hid hj'
      clear hj hj' hg
      go_enter Try.func135, Try.ntmps135
      go_wp2_with (go_at_call 136; refine (jumps_any _ cap l i w HL.out hi).mono ?_; rw [HJ.out]; rintro e w' ⟨rfl, rfl⟩)
      go_ret
      exact ⟨by rw [HE.out]; rfl, rfl⟩
end Go.Proofs.Ytfjbanfibmpalaa

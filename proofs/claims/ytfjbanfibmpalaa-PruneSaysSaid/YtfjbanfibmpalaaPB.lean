/- PB -/
import Derived.Test.YtfjbanfibmpalaaKD

/- Plain: jumps of a good program lead forward within it. Contracts: (prune.program).jumps, .tests, .returns, .end; wicketgateref22.end, .returns, .tests, .leads. -/
set_option linter.unusedVariables false
set_option linter.unusedSimpArgs false
namespace Go.Proofs.Ytfjbanfibmpalaa
open Go.RowKit Go.Shelf

section
variable {l : List Insn}

end

/-- An instruction of a row at hand. -/
theorem RdP.cells {w : World} {A : Option Addr} {l : List Insn} (h : RdP w A l) {i : Nat} (hi : i < l.length) : ∃ b o, A = some ⟨b, o, none⟩ ∧ b < w.heap.size ∧ IAt w b (o + i * 4) (ins l i) := by
  obtain ⟨b, o, rfl, hb, hc⟩ := h.get hi
  exact ⟨b, o, rfl, hb, by rw [at_get l i hi]; exact hc i hi⟩

set_option maxHeartbeats 400000 in
theorem jumps_any (A : Option Addr) (cap : Nat) (l : List Insn) (i : Nat) (w : World) (hl : RdP w A l) (hi : i < l.length) :
    Calls Try.prog 136 #[.slice A l.length cap, .int .i64 i] w fun e w' => e = .returned (.bool (isJa (ins l i))) ∧ w = w' := by
  obtain ⟨b, o, rfl, hb, hc⟩ := hl.cells hi
  have hs := hl.small
  unfold isJa
  generalize ins l i = x at *
  obtain ⟨h0, h1, h2, h3⟩ := hc
  clear hl
  by_cases h : x.code = 5
  · have e : ((x.code : Int) == 5) = true := by rw [beq_iff_eq]; omega
    have HE := Lib.hid (show (x.code == 5) = true by simp [h])
    clear h
    go_enter Try.func136, Try.ntmps136
    go_wp2
    go_ret
    exact ⟨by rw [HE.out]; rfl, rfl⟩
  · have e : ((x.code : Int) == 5) = false := by rw [beq_eq_false_iff_ne]; omega
    have HE := Lib.hid (show (x.code == 5) = false by simp [h])
    clear h
    go_enter Try.func136, Try.ntmps136
    go_wp2
    go_ret
    exact ⟨by rw [HE.out]; rfl, rfl⟩

set_option maxHeartbeats 400000 in
theorem tests_at (A : Option Addr) (cap : Nat) (l : List Insn) (i : Nat) (w : World) (hl : RdP w A l) (hi : i < l.length) :
    Calls Try.prog 139 #[.slice A l.length cap, .int .i64 i] w fun e w' => e = .returned (.bool (isTest (ins l i))) ∧ Below w.heap.size w w' := by
  obtain ⟨b, o, rfl, hb, hc⟩ := hl.cells hi
  have hs := hl.small
  have hx := hl.ok _ (List.getElem_mem hi)
  rw [← at_get l i hi] at hx
  have hv := form_vals (ins l i).code
  generalize hf : form (ins l i).code = f at hv
  have HF := Lib.hid hf
  have HT := Lib.hid (isTest_form _ _ hf)
  generalize ins l i = x at *
  obtain ⟨h0, h1, h2, h3⟩ := hc
  have hcx := hx.code
  clear hl hf
  rcases hv with rfl | rfl | rfl | rfl | rfl | rfl | rfl | rfl
  all_goals
    go_enter Try.func139, Try.ntmps139
    go_wp2_with (go_at_call 105; refine (form_any x.code hcx _).mono ?_; rw [HF.out]; rintro e w' ⟨rfl, hb1⟩; (obtain ⟨hb1_c, hb1_f⟩ := bcell hb1; have hb1_z := (hb1).size; have hb1_0 : Below w.heap.size w _ := Below.trans (by (repeat (first | with_reducible exact Below.refl _ _ | with_reducible assumption | ((with_reducible refine Below.setCell ?_ ?hp _); case hp => (first | omega | (simp only [World.size_alloc, World.size_setCell, World.size_drew]; omega) | (simp; done) | (simp; omega))) | ((with_reducible refine Below.alloc ?_ ?hp _); case hp => (first | omega | (simp only [World.size_alloc, World.size_setCell, World.size_drew]; omega) | (simp; done) | (simp; omega))) | with_reducible refine Below.drew ?_ | with_reducible refine below_drewN ?_ _))) ((hb1).mono (by (first | omega | (simp only [World.size_alloc, World.size_setCell, World.size_drew]; omega) | (simp; done) | (simp; omega)))); (try simp only [World.size_alloc, World.size_setCell, World.size_drew] at hb1_z hb1_c hb1_f); clear hb1))
    go_ret
    exact ⟨by rw [HT.out]; rfl, by assumption⟩

set_option maxHeartbeats 400000 in
theorem rtests_any (x : Insn) (hx : x.Ok) (w : World) :
    Calls Try.prog 100 #[(Value.agg #[.int .u16 x.code, .int .u8 x.jt, .int .u8 x.jf, .int .u32 x.k])] w fun e w' => e = .returned (.bool (isTest x)) ∧ Below w.heap.size w w' := by
  have hv := form_vals x.code
  generalize hf : form x.code = f at hv
  have HF := Lib.hid hf
  have HT := Lib.hid (isTest_form _ _ hf)
  have hcx := hx.code
  clear hf
  rcases hv with rfl | rfl | rfl | rfl | rfl | rfl | rfl | rfl
  all_goals
    go_enter Try.func100, Try.ntmps100
    go_wp2_with (go_at_call 97; refine (rform_any x.code hcx _).mono ?_; rw [HF.out]; rintro e w' ⟨rfl, hb1⟩; (obtain ⟨hb1_c, hb1_f⟩ := bcell hb1; have hb1_z := (hb1).size; have hb1_0 : Below w.heap.size w _ := Below.trans (by (repeat (first | with_reducible exact Below.refl _ _ | with_reducible assumption | ((with_reducible refine Below.setCell ?_ ?hp _); case hp => (first | omega | (simp only [World.size_alloc, World.size_setCell, World.size_drew]; omega) | (simp; done) | (simp; omega))) | ((with_reducible refine Below.alloc ?_ ?hp _); case hp => (first | omega | (simp only [World.size_alloc, World.size_setCell, World.size_drew]; omega) | (simp; done) | (simp; omega))) | with_reducible refine Below.drew ?_ | with_reducible refine below_drewN ?_ _))) ((hb1).mono (by (first | omega | (simp only [World.size_alloc, World.size_setCell, World.size_drew]; omega) | (simp; done) | (simp; omega)))); (try simp only [World.size_alloc, World.size_setCell, World.size_drew] at hb1_z hb1_c hb1_f); clear hb1))
    go_ret
    exact ⟨by rw [HT.out]; rfl, by assumption⟩

set_option maxHeartbeats 400000 in
theorem r22returns_any (c a b k : Nat) (w : World) :
    Calls Try.prog 104 #[.agg #[.int .u16 c, .int .u8 a, .int .u8 b, .int .u32 k]] w fun e w' => e = .returned (.bool (isRet c)) ∧ Below w.heap.size w w' := by
  go_enter Try.func104, Try.ntmps104
  go_wp2
  all_goals
    go_ret
    go_light
    refine ⟨?_, by (repeat (first | with_reducible exact Below.refl _ _ | with_reducible assumption | ((with_reducible refine Below.setCell ?_ ?hp _); case hp => (first | omega | (simp only [World.size_alloc, World.size_setCell, World.size_drew]; omega) | (simp; done) | (simp; omega))) | ((with_reducible refine Below.alloc ?_ ?hp _); case hp => (first | omega | (simp only [World.size_alloc, World.size_setCell, World.size_drew]; omega) | (simp; done) | (simp; omega))) | with_reducible refine Below.drew ?_ | with_reducible refine below_drewN ?_ _))⟩
    unfold isRet
    first
      | (show Ending.returned (Value.bool true) = _; rw [show c = 6 by omega]; rfl)
      | (show Ending.returned (Value.bool _) = _; congr 2; rw [Bool.eq_iff_iff]; simp; omega)
set_option maxHeartbeats 400000 in
theorem returns_at (A : Option Addr) (cap : Nat) (l : List Insn) (i : Nat) (w : World) (hl : RdP w A l) (hg : Good l) (hi : i < l.length) :
    Calls Try.prog 137 #[.slice A l.length cap, .int .i64 i] w fun e w' => e = .returned (.bool (isRet (ins l i).code)) ∧ Below w.heap.size w w' := by
  obtain ⟨b, o, rfl, hb, hc⟩ := hl.cells hi
  have hs := hl.small
  have hx := hg.okAt hi
  have hn := nexts_nil hg hi
  have hlen := hg.len
  have hnl := nexts_len (ins l i) i
  generalize ins l i = x at *
  obtain ⟨h0, h1, h2, h3⟩ := hc
  have HX := Lib.hid hx
  clear hl hx
  by_cases hr : isRet x.code = true
  · have e0 : (((nexts x i).length : Int) == 0) = true := by rw [beq_iff_eq]; have := hn.2 hr; omega
    have HR := Lib.hid hr
    clear hr hn
    go_enter Try.func137, Try.ntmps137
    go_wp2_with (go_at_call 157; refine (nextList_any x HX.out i (by omega) _).mono ?_; rintro e w' ⟨A', c', rfl, ho, hb1⟩; clear ho; (obtain ⟨hb1_c, hb1_f⟩ := bcell hb1; have hb1_z := (hb1).size; have hb1_0 : Below w.heap.size w _ := Below.trans (by (repeat (first | with_reducible exact Below.refl _ _ | with_reducible assumption | ((with_reducible refine Below.setCell ?_ ?hp _); case hp => (first | omega | (simp only [World.size_alloc, World.size_setCell, World.size_drew]; omega) | (simp; done) | (simp; omega))) | ((with_reducible refine Below.alloc ?_ ?hp _); case hp => (first | omega | (simp only [World.size_alloc, World.size_setCell, World.size_drew]; omega) | (simp; done) | (simp; omega))) | with_reducible refine Below.drew ?_ | with_reducible refine below_drewN ?_ _))) ((hb1).mono (by (first | omega | (simp only [World.size_alloc, World.size_setCell, World.size_drew]; omega) | (simp; done) | (simp; omega)))); (try simp only [World.size_alloc, World.size_setCell, World.size_drew] at hb1_z hb1_c hb1_f); clear hb1))
    go_ret
    exact ⟨by rw [HR.out]; rfl, by assumption⟩
  · have e0 : (((nexts x i).length : Int) == 0) = false := by rw [beq_eq_false_iff_ne]; intro h; exact hr (hn.1 (by omega))
    have HR := Lib.hid (show isRet x.code = false by simpa using hr)
    clear hr hn
    go_enter Try.func137, Try.ntmps137
    go_wp2_with (go_at_call 157; refine (nextList_any x HX.out i (by omega) _).mono ?_; rintro e w' ⟨A', c', rfl, ho, hb1⟩; clear ho; (obtain ⟨hb1_c, hb1_f⟩ := bcell hb1; have hb1_z := (hb1).size; have hb1_0 : Below w.heap.size w _ := Below.trans (by (repeat (first | with_reducible exact Below.refl _ _ | with_reducible assumption | ((with_reducible refine Below.setCell ?_ ?hp _); case hp => (first | omega | (simp only [World.size_alloc, World.size_setCell, World.size_drew]; omega) | (simp; done) | (simp; omega))) | ((with_reducible refine Below.alloc ?_ ?hp _); case hp => (first | omega | (simp only [World.size_alloc, World.size_setCell, World.size_drew]; omega) | (simp; done) | (simp; omega))) | with_reducible refine Below.drew ?_ | with_reducible refine below_drewN ?_ _))) ((hb1).mono (by (first | omega | (simp only [World.size_alloc, World.size_setCell, World.size_drew]; omega) | (simp; done) | (simp; omega)))); (try simp only [World.size_alloc, World.size_setCell, World.size_drew] at hb1_z hb1_c hb1_f); clear hb1))
    go_ret
    exact ⟨by rw [HR.out]; rfl, by assumption⟩

set_option maxHeartbeats 400000 in
theorem end_any (A : Option Addr) (cap : Nat) (l : List Insn) (w : World) (hl : RdP w A l) (hg : Good l) : ∀ n i, l.length - i ≤ n → i < l.length →
    Calls Try.prog 135 #[.slice A l.length cap, .int .i64 i] w fun e w' => e = .returned (.int .i64 (endOf l i)) ∧ w = w'
  | 0, i, hn, hi => by omega
  | n + 1, i, hn, hi => by
    have IH := Lib.hid (end_any A cap l w hl hg n)
    have HL := Lib.hid hl
    have hlen := hg.len
    obtain ⟨b, o, rfl, hb, hc⟩ := hl.cells hi
    obtain ⟨h0, h1, h2, h3⟩ := hc
    clear hl
    by_cases hj : isJa (ins l i) = true
    · have HE := Lib.hid (endOf_ja hg hi hj)
      have hk := hg.ja hi hj
      have HJ := Lib.hid hj
      clear hj hg
      generalize hx : ins l i = x at *
      have HX := Lib.hid hx
      clear hx
      go_enter Try.func135, Try.ntmps135
      go_wp2_with (first
        | (go_at_call 136; refine (jumps_any _ cap l i w HL.out hi).mono ?_; rw [HX.out, HJ.out]; rintro e w' ⟨rfl, rfl⟩)
        | (go_at_call 135; refine (IH.out (i + 1 + x.k) (by omega) hk.1).mono ?_; rintro e w' ⟨rfl, rfl⟩))
      go_ret
      exact ⟨by rw [HE.out]; rfl, rfl⟩
    · have hj' : isJa (ins l i) = false := by simpa using hj
      have HE := Lib.hid (endOf_else hi hj')
      have HJ := Lib.hid hj'
      clear hj hj' hg
      go_enter Try.func135, Try.ntmps135
      go_wp2_with (go_at_call 136; refine (jumps_any _ cap l i w HL.out hi).mono ?_; rw [HJ.out]; rintro e w' ⟨rfl, rfl⟩)
      go_ret
      exact ⟨by rw [HE.out]; rfl, rfl⟩
end Go.Proofs.Ytfjbanfibmpalaa

/- Words: a whole instruction written into a row of one's own. Contracts: (prune.program).give, .level; wicketgateref22.end, .first, .third. -/
set_option linter.unusedVariables false
set_option linter.unusedSimpArgs false
namespace Go.Proofs.Ytfjbanfibmpalaa
open Go.RowKit Go.Shelf

/-- A list whose first k have been made anew. -/
def mix (f : Nat → Insn) (l : List Insn) (k : Nat) : List Insn := (List.range l.length).map (fun j => if j < k then f j else ins l j)

theorem mix_len (f : Nat → Insn) (l : List Insn) (k : Nat) : (mix f l k).length = l.length := by simp [mix]
theorem mix_zero (f : Nat → Insn) (l : List Insn) : mix f l 0 = l := by
  refine List.ext_getElem (by simp [mix]) ?_
  intro i h1 h2
  simp [mix, ins, h2]
theorem mix_all (f : Nat → Insn) (l : List Insn) : mix f l l.length = (List.range l.length).map f := by
  refine List.map_congr_left (fun q hq => ?_)
  rw [if_pos (List.mem_range.1 hq)]
theorem mix_set (f : Nat → Insn) (l : List Insn) (k : Nat) : (mix f l k).set k (f k) = mix f l (k + 1) := by
  refine List.ext_getElem (by simp [mix]) ?_
  intro i h1 h2
  rw [List.getElem_set]
  simp only [mix, List.getElem_map, List.getElem_range]
  by_cases h : k = i
  · subst h; simp
  · rw [if_neg h]
    by_cases h3 : i < k
    · rw [if_pos h3, if_pos (by omega)]
    · rw [if_neg h3, if_neg (by omega)]
theorem mix_same (f : Nat → Insn) (l : List Insn) (k : Nat) (h : f k = ins l k) : mix f l k = mix f l (k + 1) := by
  refine List.map_congr_left (fun q _ => ?_)
  by_cases h3 : q < k
  · rw [if_pos h3, if_pos (by omega)]
  · rw [if_neg h3]
    by_cases h4 : q = k
    · subst h4; rw [if_pos (by omega), h]
    · rw [if_neg (by omega)]
theorem mix_get (f : Nat → Insn) (l : List Insn) (k : Nat) (h : k < (mix f l k).length) : (mix f l k)[k] = ins l k := by
  simp [mix]

/-- Where an instruction of a row of one's own lies. -/
theorem own_iat {w : World} {base g c : Nat} {l : List Insn} (h : EI.Own 36 w base (some ⟨g, 0, none⟩) c l) (i : Nat) (hi : i < l.length) : IAt w g (i * 4) (l[i]'hi) := by
  have := at_insn h.at_ i hi
  simpa using this

theorem own_frozen4 {w : World} {base g c : Nat} {l : List Insn} (h : EI.Own 36 w base (some ⟨g, 0, none⟩) c l) (i : Nat) :
    w.frozen? ⟨g, i * 4, none⟩ = false ∧ w.frozen? ⟨g, i * 4 + 1, none⟩ = false ∧ w.frozen? ⟨g, i * 4 + 2, none⟩ = false ∧ w.frozen? ⟨g, i * 4 + 3, none⟩ = false :=
  ⟨h.frozen _, h.frozen _, h.frozen _, h.frozen _⟩

/-- A whole instruction is written. -/
theorem own_put {w : World} {base g c : Nat} {l : List Insn} (h : EI.Own 36 w base (some ⟨g, 0, none⟩) c l) (i : Nat) (hi : i < l.length) (y : Insn) :
    EI.Own 36 ((((w.setCell ⟨g, i * 4, none⟩ (.int .u16 y.code)).setCell ⟨g, i * 4 + 1, none⟩ (.int .u8 y.jt)).setCell ⟨g, i * 4 + 2, none⟩ (.int .u8 y.jf)).setCell ⟨g, i * 4 + 3, none⟩ (.int .u32 y.k)) base (some ⟨g, 0, none⟩) c (l.set i y) := by
  have h1 := h.set i hi 0 (by decide) ⟨y.code, l[i].jt, l[i].jf, l[i].k⟩ (.int .u16 y.code) rfl (i * 4) rfl
  have h2 := h1.set i (by simpa using hi) 1 (by decide) ⟨y.code, y.jt, l[i].jf, l[i].k⟩ (.int .u8 y.jt) (by rw [List.getElem_set_self]; rfl) (i * 4 + 1) rfl
  have h3 := h2.set i (by simpa using hi) 2 (by decide) ⟨y.code, y.jt, y.jf, l[i].k⟩ (.int .u8 y.jf) (by rw [List.getElem_set_self]; rfl) (i * 4 + 2) rfl
  have h4 := h3.set i (by simpa using hi) 3 (by decide) y (.int .u32 y.k) (by rw [List.getElem_set_self]; rfl) (i * 4 + 3) rfl
  simpa only [List.set_set] using h4

/-- One field is written. -/
theorem own_put1 {w : World} {base g c : Nat} {l : List Insn} (h : EI.Own 36 w base (some ⟨g, 0, none⟩) c l) (i : Nat) (hi : i < l.length) (v : Nat) :
    EI.Own 36 (w.setCell ⟨g, i * 4 + 1, none⟩ (.int .u8 v)) base (some ⟨g, 0, none⟩) c (l.set i { l[i] with jt := v }) :=
  h.set i hi 1 (by decide) { l[i] with jt := v } (.int .u8 v) rfl _ rfl
theorem own_put2 {w : World} {base g c : Nat} {l : List Insn} (h : EI.Own 36 w base (some ⟨g, 0, none⟩) c l) (i : Nat) (hi : i < l.length) (v : Nat) :
    EI.Own 36 (w.setCell ⟨g, i * 4 + 2, none⟩ (.int .u8 v)) base (some ⟨g, 0, none⟩) c (l.set i { l[i] with jf := v }) :=
  h.set i hi 2 (by decide) { l[i] with jf := v } (.int .u8 v) rfl _ rfl
theorem own_put3 {w : World} {base g c : Nat} {l : List Insn} (h : EI.Own 36 w base (some ⟨g, 0, none⟩) c l) (i : Nat) (hi : i < l.length) (v : Nat) :
    EI.Own 36 (w.setCell ⟨g, i * 4 + 3, none⟩ (.int .u32 v)) base (some ⟨g, 0, none⟩) c (l.set i { l[i] with k := v }) :=
  h.set i hi 3 (by decide) { l[i] with k := v } (.int .u32 v) rfl _ rfl

set_option maxRecDepth 100000 in
set_option maxHeartbeats 1000000 in
theorem give_any (A : Option Addr) (cap : Nat) (l : List Insn) (w : World) (hl : RdP w A l) (hg : Good l) :
    Calls Try.prog 92 #[.slice A l.length cap] w fun e w' => ∃ R c, e = .returned (.slice R l.length c) ∧ EI.Own 36 w' w.heap.size R c (giveL l) ∧ Below w.heap.size w w' := by
  have hlen := hg.len
  have HG := Lib.hid hg
  have HL := Lib.hid hl
  obtain ⟨b, o, rfl, hb, _⟩ := hl.cells (i := 0) (by omega)
  clear hg hl
  go_enter Try.func92, Try.ntmps92
  go_wp2_with (go_at_call 134; refine (clonep_any _ cap l w HL.out.enc (by omega)).mono ?_; rintro e w1 ⟨R, c, rfl, ho, hb1⟩; obtain ⟨g, rfl, hg1, hg2⟩ := ho.form (by intro e; rw [e] at hlen; simp at hlen); have HO := Lib.hid ho; have HB1 := Lib.hid hb1; clear ho hb1)
  go_loopw [10] (fun i wr => ∃ k : Nat, k ≤ l.length ∧ i = .int .i64 k ∧ EI.Own 36 wr w.heap.size (some ⟨g, 0, none⟩) c (mix (giveAt l) l k) ∧ Below w.heap.size w wr) (fun i _ => l.length - (intOf i).toNat)
  case atStart => exact ⟨0, by omega, rfl, by rw [mix_zero]; exact HO.out, HB1.out⟩
  case round =>
    obtain ⟨k, hk, rfl, ho, hB⟩ := hrel
    have hgw := ho.lt.2
    have HOW := Lib.hid ho
    have HB := Lib.hid hB
    have HLW := Lib.hid (HL.out.below hB (Nat.le_refl _))
    have hbw : b < wr.heap.size := by have := hB.size; omega
    clear ho hB HO HB1 hg2
    by_cases hlt : k < l.length
    · have he := endOf_lt HG.out hlt
      have HEND := Lib.hid (end_any _ cap l wr HLW.out HG.out _ k (Nat.le_refl _) hlt)
      have HJMP := Lib.hid (jumps_any _ cap l k wr HLW.out hlt)
      by_cases hj : isJa (ins l k) = true
      · have HJ := Lib.hid hj
        clear hj
        have HRT := Lib.hid (returns_at _ cap l (endOf l k) wr HLW.out HG.out he)
        by_cases hr : isRet (ins l (endOf l k)).code = true
        · have HR := Lib.hid hr
          clear hr
          have HM := Lib.hid (show giveAt l k = ins l (endOf l k) by unfold giveAt; rw [HJ.out, HR.out]; rfl)
          have hcx := HLW.out.cells he
          obtain ⟨b', o', hbo, _, hcx⟩ := hcx
          cases hbo
          obtain ⟨x0, x1, x2, x3⟩ := hcx
          have hkm : k < (mix (giveAt l) l k).length := by rw [mix_len]; exact hlt
          obtain ⟨z0, z1, z2, z3⟩ := own_iat HOW.out k hkm
          obtain ⟨f0, f1, f2, f3⟩ := own_frozen4 HOW.out k
          generalize endOf l k = e at *
          generalize hxe : ins l e = x at *
          have HXE := Lib.hid hxe
          clear hxe
          go_wp2_with (first
            | (go_at_call 135; refine HEND.out.mono ?_; rintro e' w' ⟨rfl, rfl⟩)
            | (go_at_call 136; refine HJMP.out.mono ?_; rw [HJ.out]; rintro e' w' ⟨rfl, rfl⟩)
            | (go_at_call 137; refine HRT.out.mono ?_; rw [HR.out]; rintro e' w2 ⟨rfl, hb2⟩; have HOW2 := Lib.hid (HOW.out.below hb2 (Nat.le_refl _)); have HB2 := Lib.hid (HB.out.trans (hb2.mono HB.out.size)); (obtain ⟨hb2_c, hb2_f⟩ := bcell hb2; have hb2_z := (hb2).size; have hb2_0 : Below wr.heap.size wr _ := Below.trans (by (repeat (first | with_reducible exact Below.refl _ _ | with_reducible assumption | ((with_reducible refine Below.setCell ?_ ?hp _); case hp => (first | omega | (simp only [World.size_alloc, World.size_setCell, World.size_drew]; omega) | (simp; done) | (simp; omega))) | ((with_reducible refine Below.alloc ?_ ?hp _); case hp => (first | omega | (simp only [World.size_alloc, World.size_setCell, World.size_drew]; omega) | (simp; done) | (simp; omega))) | with_reducible refine Below.drew ?_ | with_reducible refine below_drewN ?_ _))) ((hb2).mono (by (first | omega | (simp only [World.size_alloc, World.size_setCell, World.size_drew]; omega) | (simp; done) | (simp; omega)))); (try simp only [World.size_alloc, World.size_setCell, World.size_drew] at hb2_z hb2_c hb2_f); clear hb2)))
          go_roundw
          case rel =>
            refine ⟨k + 1, by omega, by go_num, ?_, by have hB2 := HB2.out; (repeat (first | with_reducible exact Below.refl _ _ | with_reducible assumption | ((with_reducible refine Below.setCell ?_ ?hp _); case hp => (first | omega | (simp only [World.size_alloc, World.size_setCell, World.size_drew]; omega) | (simp; done) | (simp; omega))) | ((with_reducible refine Below.alloc ?_ ?hp _); case hp => (first | omega | (simp only [World.size_alloc, World.size_setCell, World.size_drew]; omega) | (simp; done) | (simp; omega))) | with_reducible refine Below.drew ?_ | with_reducible refine below_drewN ?_ _))⟩
            rw [← mix_set, HM.out]
            exact own_put HOW2.out k hkm x
          case measure => simp [intOf]; omega
        · have HR := Lib.hid (show isRet (ins l (endOf l k)).code = false by simpa using hr)
          clear hr
          have HM := Lib.hid (show giveAt l k = ins l k by unfold giveAt; rw [HJ.out, HR.out]; rfl)
          generalize endOf l k = e at *
          go_wp2_with (first
            | (go_at_call 135; refine HEND.out.mono ?_; rintro e' w' ⟨rfl, rfl⟩)
            | (go_at_call 136; refine HJMP.out.mono ?_; rw [HJ.out]; rintro e' w' ⟨rfl, rfl⟩)
            | (go_at_call 137; refine HRT.out.mono ?_; rw [HR.out]; rintro e' w2 ⟨rfl, hb2⟩; have HOW2 := Lib.hid (HOW.out.below hb2 (Nat.le_refl _)); have HB2 := Lib.hid (HB.out.trans (hb2.mono HB.out.size)); clear hb2))
          go_roundw
          case rel =>
            refine ⟨k + 1, by omega, by go_num, ?_, HB2.out⟩
            rw [← mix_same _ _ _ HM.out]
            exact HOW2.out
          case measure => simp [intOf]; omega
      · have HJ := Lib.hid (show isJa (ins l k) = false by simpa using hj)
        clear hj
        have HM := Lib.hid (show giveAt l k = ins l k by unfold giveAt; rw [HJ.out]; rfl)
        generalize endOf l k = e at *
        go_wp2_with (first
          | (go_at_call 135; refine HEND.out.mono ?_; rintro e' w' ⟨rfl, rfl⟩)
          | (go_at_call 136; refine HJMP.out.mono ?_; rw [HJ.out]; rintro e' w' ⟨rfl, rfl⟩))
        go_roundw
        case rel =>
          refine ⟨k + 1, by omega, by go_num, ?_, HB.out⟩
          rw [← mix_same _ _ _ HM.out]
          exact HOW.out
        case measure => simp [intOf]; omega
    · have hk' : k = l.length := by omega
      subst hk'
      go_wp2
      go_ret
      exact ⟨_, _, rfl, by have := HOW.out; rw [mix_all] at this; exact this, HB.out⟩
end Go.Proofs.Ytfjbanfibmpalaa

/- Contracts: wicketgateref22.end, .first, .third; (prune.program).level. -/
set_option linter.unusedVariables false
set_option linter.unusedSimpArgs false
namespace Go.Proofs.Ytfjbanfibmpalaa
open Go.RowKit Go.Shelf

set_option maxHeartbeats 400000 in
theorem rend_any (A : Option Addr) (cap : Nat) (l : List Insn) (i : Nat) (w : World) (hl : RdP w A l) (hg : Good l) (hi : i < l.length) :
    Calls Try.prog 102 #[.slice A l.length cap, .int .i64 i] w fun e w' => e = .returned (.int .i64 (endOf l i)) ∧ w = w' := by
  have hlen := hg.len
  have HG := Lib.hid hg
  have HL := Lib.hid hl
  obtain ⟨b, o, rfl, hb, _⟩ := hl.cells hi
  clear hg hl
  go_enter Try.func102, Try.ntmps102
  go_wp2
  go_loopw [1] (fun j wr => ∃ k : Nat, k < l.length ∧ j = .int .i64 k ∧ endOf l k = endOf l i ∧ wr = w) (fun j _ => l.length - (intOf j).toNat)
  case atStart => exact ⟨i, hi, rfl, rfl, rfl⟩
  case round =>
    obtain ⟨k, hk, rfl, he, hwr⟩ := hrel
    subst hwr
    obtain ⟨b', o', hbo, _, hc⟩ := HL.out.cells hk
    cases hbo
    obtain ⟨h0, h1, h2, h3⟩ := hc
    have HE := Lib.hid he
    clear he
    by_cases hj : isJa (ins l k) = true
    · have hja := HG.out.ja hk hj
      have HEE := Lib.hid (endOf_ja HG.out hk hj)
      have e5 : (((ins l k).code : Int) == 5) = true := by
        have : (ins l k).code = 5 := by simpa [isJa] using hj
        rw [beq_iff_eq]; omega
      clear hj
      generalize hx : ins l k = x at *
      have HX := Lib.hid hx
      clear hx
      go_wp2
      go_roundw
      case rel => exact ⟨k + 1 + x.k, hja.1, by go_num, by rw [← HEE.out]; exact HE.out, trivial⟩
      case measure => simp [intOf]; omega
    · have HEE := Lib.hid (endOf_else hk (show isJa (ins l k) = false by simpa using hj))
      have e5 : (((ins l k).code : Int) == 5) = false := by
        have : ¬ (ins l k).code = 5 := by simpa [isJa] using hj
        rw [beq_eq_false_iff_ne]; omega
      clear hj
      generalize hx : ins l k = x at *
      have HX := Lib.hid hx
      clear hx
      go_wp2
      go_ret
      exact ⟨by rw [← HE.out, HEE.out]; rfl, rfl⟩

set_option maxRecDepth 100000 in
set_option maxHeartbeats 1000000 in
theorem first_any (A : Option Addr) (cap : Nat) (l : List Insn) (w : World) (hl : RdP w A l) (hg : Good l) :
    Calls Try.prog 62 #[.slice A l.length cap] w fun e w' => ∃ R c, e = .returned (.slice R l.length c) ∧ EI.Own 36 w' w.heap.size R c (giveL l) ∧ Below w.heap.size w w' := by
  have hlen := hg.len
  have HG := Lib.hid hg
  have HL := Lib.hid hl
  obtain ⟨b, o, rfl, hb, _⟩ := hl.cells (i := 0) (by omega)
  clear hg hl
  go_enter Try.func62, Try.ntmps62
  go_wp2_with (go_at_call 101; refine (copied_any _ cap l w HL.out.enc (by omega)).mono ?_; rintro e w1 ⟨R, c, rfl, ho, hb1⟩; obtain ⟨g, rfl, hg1, hg2⟩ := ho.form (by intro e; rw [e] at hlen; simp at hlen); have HO := Lib.hid ho; have HB1 := Lib.hid hb1; clear ho hb1)
  go_loopw [11] (fun i wr => ∃ k : Nat, k ≤ l.length ∧ i = .int .i64 k ∧ EI.Own 36 wr w.heap.size (some ⟨g, 0, none⟩) c (mix (giveAt l) l k) ∧ Below w.heap.size w wr) (fun i _ => l.length - (intOf i).toNat)
  case atStart => exact ⟨0, by omega, rfl, by rw [mix_zero]; exact HO.out, HB1.out⟩
  case round =>
    obtain ⟨k, hk, rfl, ho, hB⟩ := hrel
    have hgw := ho.lt.2
    have HOW := Lib.hid ho
    have HB := Lib.hid hB
    have HLW := Lib.hid (HL.out.below hB (Nat.le_refl _))
    have hbw : b < wr.heap.size := by have := hB.size; omega
    have hww : w.heap.size ≤ wr.heap.size := hB.size
    clear ho hB HO HB1 hg2
    by_cases hlt : k < l.length
    · have he := endOf_lt HG.out hlt
      obtain ⟨b1, o1, hbo, _, hcy⟩ := HLW.out.cells hlt
      cases hbo
      obtain ⟨y0, y1, y2, y3⟩ := hcy
      have hkm : k < (mix (giveAt l) l k).length := by rw [mix_len]; exact hlt
      by_cases hj : isJa (ins l k) = true
      · have HJ := Lib.hid hj
        have e5 : (((ins l k).code : Int) == 5) = true := by
          have : (ins l k).code = 5 := by simpa [isJa] using hj
          rw [beq_iff_eq]; omega
        clear hj
        obtain ⟨b', o', hbo, _, hcx⟩ := HLW.out.cells he
        cases hbo
        obtain ⟨x0, x1, x2, x3⟩ := hcx
        have HEND := Lib.hid (fun W (h : RdP W (some ⟨b, o, none⟩) l) => rend_any _ cap l k W h HG.out hlt)
        by_cases hr : isRet (ins l (endOf l k)).code = true
        · have HR := Lib.hid hr
          clear hr
          have HM := Lib.hid (show giveAt l k = ins l (endOf l k) by unfold giveAt; rw [HJ.out, HR.out]; rfl)
          obtain ⟨z0, z1, z2, z3⟩ := own_iat HOW.out k hkm
          obtain ⟨f0, f1, f2, f3⟩ := own_frozen4 HOW.out k
          generalize endOf l k = e at *
          generalize hxe : ins l e = x at *
          generalize hye : ins l k = y at *
          have HXE := Lib.hid hxe
          have HYE := Lib.hid hye
          clear hxe hye
          go_wp2_with (first
            | (go_at_call 102; refine (HEND.out _ (HLW.out.below (B := wr.heap.size) (by (repeat (first | with_reducible exact Below.refl _ _ | with_reducible assumption | ((with_reducible refine Below.setCell ?_ ?hp _); case hp => (first | omega | (simp only [World.size_alloc, World.size_setCell, World.size_drew]; omega) | (simp; done) | (simp; omega))) | ((with_reducible refine Below.alloc ?_ ?hp _); case hp => (first | omega | (simp only [World.size_alloc, World.size_setCell, World.size_drew]; omega) | (simp; done) | (simp; omega))) | with_reducible refine Below.drew ?_ | with_reducible refine below_drewN ?_ _))) (Nat.le_refl _))).mono ?_; rintro e' w' ⟨rfl, rfl⟩)
            | (go_at_call 104; refine (r22returns_any x.code x.jt x.jf x.k _).mono ?_; rw [HR.out]; rintro e' w2 ⟨rfl, hb2⟩; have hb3 : Below wr.heap.size wr w2 := Below.trans (by (repeat (first | with_reducible exact Below.refl _ _ | with_reducible assumption | ((with_reducible refine Below.setCell ?_ ?hp _); case hp => (first | omega | (simp only [World.size_alloc, World.size_setCell, World.size_drew]; omega) | (simp; done) | (simp; omega))) | ((with_reducible refine Below.alloc ?_ ?hp _); case hp => (first | omega | (simp only [World.size_alloc, World.size_setCell, World.size_drew]; omega) | (simp; done) | (simp; omega))) | with_reducible refine Below.drew ?_ | with_reducible refine below_drewN ?_ _))) (hb2.mono (by (first | omega | (simp only [World.size_alloc, World.size_setCell, World.size_drew]; omega) | (simp; done) | (simp; omega)))); have HOW2 := Lib.hid (HOW.out.below hb3 (Nat.le_refl _)); have HB2 := Lib.hid (HB.out.trans (hb3.mono HB.out.size)); clear hb2; (obtain ⟨hb3_c, hb3_f⟩ := bcell hb3; have hb3_z := (hb3).size; have hb3_0 : Below wr.heap.size wr _ := Below.trans (by (repeat (first | with_reducible exact Below.refl _ _ | with_reducible assumption | ((with_reducible refine Below.setCell ?_ ?hp _); case hp => (first | omega | (simp only [World.size_alloc, World.size_setCell, World.size_drew]; omega) | (simp; done) | (simp; omega))) | ((with_reducible refine Below.alloc ?_ ?hp _); case hp => (first | omega | (simp only [World.size_alloc, World.size_setCell, World.size_drew]; omega) | (simp; done) | (simp; omega))) | with_reducible refine Below.drew ?_ | with_reducible refine below_drewN ?_ _))) ((hb3).mono (by (first | omega | (simp only [World.size_alloc, World.size_setCell, World.size_drew]; omega) | (simp; done) | (simp; omega)))); (try simp only [World.size_alloc, World.size_setCell, World.size_drew] at hb3_z hb3_c hb3_f); clear hb3)))
          go_roundw
          case rel =>
            refine ⟨k + 1, by omega, by go_num, ?_, by have hB2 := HB2.out; (repeat (first | with_reducible exact Below.refl _ _ | with_reducible assumption | ((with_reducible refine Below.setCell ?_ ?hp _); case hp => (first | omega | (simp only [World.size_alloc, World.size_setCell, World.size_drew]; omega) | (simp; done) | (simp; omega))) | ((with_reducible refine Below.alloc ?_ ?hp _); case hp => (first | omega | (simp only [World.size_alloc, World.size_setCell, World.size_drew]; omega) | (simp; done) | (simp; omega))) | with_reducible refine Below.drew ?_ | with_reducible refine below_drewN ?_ _))⟩
            rw [← mix_set, HM.out]
            exact own_put HOW2.out k hkm x
          case measure => simp [intOf]; omega
        · have HR := Lib.hid (show isRet (ins l (endOf l k)).code = false by simpa using hr)
          clear hr
          have HM := Lib.hid (show giveAt l k = ins l k by unfold giveAt; rw [HJ.out, HR.out]; rfl)
          generalize endOf l k = e at *
          generalize hxe : ins l e = x at *
          generalize hye : ins l k = y at *
          have HXE := Lib.hid hxe
          have HYE := Lib.hid hye
          clear hxe hye
          go_wp2_with (first
            | (go_at_call 102; refine (HEND.out _ (HLW.out.below (B := wr.heap.size) (by (repeat (first | with_reducible exact Below.refl _ _ | with_reducible assumption | ((with_reducible refine Below.setCell ?_ ?hp _); case hp => (first | omega | (simp only [World.size_alloc, World.size_setCell, World.size_drew]; omega) | (simp; done) | (simp; omega))) | ((with_reducible refine Below.alloc ?_ ?hp _); case hp => (first | omega | (simp only [World.size_alloc, World.size_setCell, World.size_drew]; omega) | (simp; done) | (simp; omega))) | with_reducible refine Below.drew ?_ | with_reducible refine below_drewN ?_ _))) (Nat.le_refl _))).mono ?_; rintro e' w' ⟨rfl, rfl⟩)
            | (go_at_call 104; refine (r22returns_any x.code x.jt x.jf x.k _).mono ?_; rw [HR.out]; rintro e' w2 ⟨rfl, hb2⟩; have hb3 : Below wr.heap.size wr w2 := Below.trans (by (repeat (first | with_reducible exact Below.refl _ _ | with_reducible assumption | ((with_reducible refine Below.setCell ?_ ?hp _); case hp => (first | omega | (simp only [World.size_alloc, World.size_setCell, World.size_drew]; omega) | (simp; done) | (simp; omega))) | ((with_reducible refine Below.alloc ?_ ?hp _); case hp => (first | omega | (simp only [World.size_alloc, World.size_setCell, World.size_drew]; omega) | (simp; done) | (simp; omega))) | with_reducible refine Below.drew ?_ | with_reducible refine below_drewN ?_ _))) (hb2.mono (by (first | omega | (simp only [World.size_alloc, World.size_setCell, World.size_drew]; omega) | (simp; done) | (simp; omega)))); have HOW2 := Lib.hid (HOW.out.below hb3 (Nat.le_refl _)); have HB2 := Lib.hid (HB.out.trans (hb3.mono HB.out.size)); clear hb2 hb3))
          go_roundw
          case rel =>
            refine ⟨k + 1, by omega, by go_num, ?_, HB2.out⟩
            rw [← mix_same _ _ _ (by rw [HM.out, HYE.out])]
            exact HOW2.out
          case measure => simp [intOf]; omega
      · have HJ := Lib.hid (show isJa (ins l k) = false by simpa using hj)
        have e5 : (((ins l k).code : Int) == 5) = false := by
          have : ¬ (ins l k).code = 5 := by simpa [isJa] using hj
          rw [beq_eq_false_iff_ne]; omega
        clear hj
        have HM := Lib.hid (show giveAt l k = ins l k by unfold giveAt; rw [HJ.out]; rfl)
        have HEND := Lib.hid (fun W (h : RdP W (some ⟨b, o, none⟩) l) => rend_any _ cap l k W h HG.out hlt)
        generalize endOf l k = e at *
        generalize hye : ins l k = y at *
        have HYE := Lib.hid hye
        clear hye
        go_wp2_with (go_at_call 102; refine (HEND.out _ (HLW.out.below (B := wr.heap.size) (by (repeat (first | with_reducible exact Below.refl _ _ | with_reducible assumption | ((with_reducible refine Below.setCell ?_ ?hp _); case hp => (first | omega | (simp only [World.size_alloc, World.size_setCell, World.size_drew]; omega) | (simp; done) | (simp; omega))) | ((with_reducible refine Below.alloc ?_ ?hp _); case hp => (first | omega | (simp only [World.size_alloc, World.size_setCell, World.size_drew]; omega) | (simp; done) | (simp; omega))) | with_reducible refine Below.drew ?_ | with_reducible refine below_drewN ?_ _))) (Nat.le_refl _))).mono ?_; rintro e' w' ⟨rfl, rfl⟩)
        go_roundw
        case rel =>
          refine ⟨k + 1, by omega, by go_num, ?_, by have hB := HB.out; (repeat (first | with_reducible exact Below.refl _ _ | with_reducible assumption | ((with_reducible refine Below.setCell ?_ ?hp _); case hp => (first | omega | (simp only [World.size_alloc, World.size_setCell, World.size_drew]; omega) | (simp; done) | (simp; omega))) | ((with_reducible refine Below.alloc ?_ ?hp _); case hp => (first | omega | (simp only [World.size_alloc, World.size_setCell, World.size_drew]; omega) | (simp; done) | (simp; omega))) | with_reducible refine Below.drew ?_ | with_reducible refine below_drewN ?_ _))⟩
          rw [← mix_same _ _ _ (by rw [HM.out, HYE.out])]
          exact HOW.out.below (B := wr.heap.size) (by (repeat (first | with_reducible exact Below.refl _ _ | with_reducible assumption | ((with_reducible refine Below.setCell ?_ ?hp _); case hp => (first | omega | (simp only [World.size_alloc, World.size_setCell, World.size_drew]; omega) | (simp; done) | (simp; omega))) | ((with_reducible refine Below.alloc ?_ ?hp _); case hp => (first | omega | (simp only [World.size_alloc, World.size_setCell, World.size_drew]; omega) | (simp; done) | (simp; omega))) | with_reducible refine Below.drew ?_ | with_reducible refine below_drewN ?_ _))) (Nat.le_refl _)
        case measure => simp [intOf]; omega
    · have hk' : k = l.length := by omega
      subst hk'
      go_wp2
      go_ret
      exact ⟨_, _, rfl, by have := HOW.out; rw [mix_all] at this; exact this, HB.out⟩
end Go.Proofs.Ytfjbanfibmpalaa

/- Contracts: (prune.program).level, wicketgateref22.third. -/
set_option linter.unusedVariables false
set_option linter.unusedSimpArgs false
namespace Go.Proofs.Ytfjbanfibmpalaa
open Go.RowKit Go.Shelf

set_option maxRecDepth 100000 in
set_option maxHeartbeats 1000000 in
theorem level_any (A : Option Addr) (cap : Nat) (l : List Insn) (w : World) (hl : RdP w A l) (hg : Good l) :
    Calls Try.prog 94 #[.slice A l.length cap] w fun e w' => ∃ R c, e = .returned (.slice R l.length c) ∧ EI.Own 36 w' w.heap.size R c (levelL l) ∧ Below w.heap.size w w' := by
  have hlen := hg.len
  have HG := Lib.hid hg
  have HL := Lib.hid hl
  obtain ⟨b, o, rfl, hb, _⟩ := hl.cells (i := 0) (by omega)
  clear hg hl
  go_enter Try.func94, Try.ntmps94
  go_wp2_with (go_at_call 134; refine (clonep_any _ cap l w HL.out.enc (by omega)).mono ?_; rintro e w1 ⟨R, c, rfl, ho, hb1⟩; obtain ⟨g, rfl, hg1, hg2⟩ := ho.form (by intro e; rw [e] at hlen; simp at hlen); have HO := Lib.hid ho; have HB1 := Lib.hid hb1; clear ho hb1)
  go_loopw [10] (fun i wr => ∃ k : Nat, k ≤ l.length ∧ i = .int .i64 k ∧ EI.Own 36 wr w.heap.size (some ⟨g, 0, none⟩) c (mix (levelAt l) l k) ∧ Below w.heap.size w wr) (fun i _ => l.length - (intOf i).toNat)
  case atStart => exact ⟨0, by omega, rfl, by rw [mix_zero]; exact HO.out, HB1.out⟩
  case round =>
    obtain ⟨k, hk, rfl, ho, hB⟩ := hrel
    have hgw := ho.lt.2
    have HOW := Lib.hid ho
    have HB := Lib.hid hB
    have HLW := Lib.hid (HL.out.below hB (Nat.le_refl _))
    have hbw : b < wr.heap.size := by have := hB.size; omega
    have hww : w.heap.size ≤ wr.heap.size := hB.size
    clear ho hB HO HB1 hg2
    by_cases hlt : k < l.length
    · obtain ⟨b1, o1, hbo, _, hcy⟩ := HLW.out.cells hlt
      cases hbo
      obtain ⟨y0, y1, y2, y3⟩ := hcy
      have hkm : k < (mix (levelAt l) l k).length := by rw [mix_len]; exact hlt
      have HX := Lib.hid (HG.out.okAt hlt)
      have q1 := HX.out.jt
      have q2 := HX.out.jf
      by_cases ht : isTest (ins l k) = true
      · have HT := Lib.hid ht
        clear ht
        by_cases he : (ins l k).jt = (ins l k).jf
        · have ee : (((ins l k).jt : Int) == ((ins l k).jf : Int)) = true := by rw [beq_iff_eq]; omega
          have HM := Lib.hid (show levelAt l k = ⟨5, 0, 0, (ins l k).jt⟩ by unfold levelAt; rw [HT.out, he]; simp)
          clear he
          obtain ⟨z0, z1, z2, z3⟩ := own_iat HOW.out k hkm
          obtain ⟨f0, f1, f2, f3⟩ := own_frozen4 HOW.out k
          generalize hye : ins l k = y at *
          have HYE := Lib.hid hye
          clear hye
          go_wp2_with (go_at_call 139; refine (tests_at _ cap l k _ (HLW.out.below (B := wr.heap.size) (by (repeat (first | with_reducible exact Below.refl _ _ | with_reducible assumption | ((with_reducible refine Below.setCell ?_ ?hp _); case hp => (first | omega | (simp only [World.size_alloc, World.size_setCell, World.size_drew]; omega) | (simp; done) | (simp; omega))) | ((with_reducible refine Below.alloc ?_ ?hp _); case hp => (first | omega | (simp only [World.size_alloc, World.size_setCell, World.size_drew]; omega) | (simp; done) | (simp; omega))) | with_reducible refine Below.drew ?_ | with_reducible refine below_drewN ?_ _))) (Nat.le_refl _)) hlt).mono ?_; rw [HYE.out, HT.out]; rintro e' w2 ⟨rfl, hb2⟩; have hb3 : Below wr.heap.size wr w2 := Below.trans (by (repeat (first | with_reducible exact Below.refl _ _ | with_reducible assumption | ((with_reducible refine Below.setCell ?_ ?hp _); case hp => (first | omega | (simp only [World.size_alloc, World.size_setCell, World.size_drew]; omega) | (simp; done) | (simp; omega))) | ((with_reducible refine Below.alloc ?_ ?hp _); case hp => (first | omega | (simp only [World.size_alloc, World.size_setCell, World.size_drew]; omega) | (simp; done) | (simp; omega))) | with_reducible refine Below.drew ?_ | with_reducible refine below_drewN ?_ _))) (hb2.mono (by (first | omega | (simp only [World.size_alloc, World.size_setCell, World.size_drew]; omega) | (simp; done) | (simp; omega)))); have HOW2 := Lib.hid (HOW.out.below hb3 (Nat.le_refl _)); have HB2 := Lib.hid (HB.out.trans (hb3.mono HB.out.size)); clear hb3; (obtain ⟨hb2_c, hb2_f⟩ := bcell hb2; have hb2_z := (hb2).size; have hb2_0 : Below wr.heap.size wr _ := Below.trans (by (repeat (first | with_reducible exact Below.refl _ _ | with_reducible assumption | ((with_reducible refine Below.setCell ?_ ?hp _); case hp => (first | omega | (simp only [World.size_alloc, World.size_setCell, World.size_drew]; omega) | (simp; done) | (simp; omega))) | ((with_reducible refine Below.alloc ?_ ?hp _); case hp => (first | omega | (simp only [World.size_alloc, World.size_setCell, World.size_drew]; omega) | (simp; done) | (simp; omega))) | with_reducible refine Below.drew ?_ | with_reducible refine below_drewN ?_ _))) ((hb2).mono (by (first | omega | (simp only [World.size_alloc, World.size_setCell, World.size_drew]; omega) | (simp; done) | (simp; omega)))); (try simp only [World.size_alloc, World.size_setCell, World.size_drew] at hb2_z hb2_c hb2_f); clear hb2); (have hb2_q0 := hb2_c (wr.heap.size) 0 (by omega); simp [go_sem] at hb2_q0; have hb2_q1 := hb2_c (wr.heap.size) 1 (by omega); simp [go_sem] at hb2_q1; have hb2_q2 := hb2_c (wr.heap.size) 2 (by omega); simp [go_sem] at hb2_q2; have hb2_q3 := hb2_c (wr.heap.size) 3 (by omega); simp [go_sem] at hb2_q3))
          go_roundw
          case rel =>
            refine ⟨k + 1, by omega, by go_num, ?_, by have hB2 := HB2.out; (repeat (first | with_reducible exact Below.refl _ _ | with_reducible assumption | ((with_reducible refine Below.setCell ?_ ?hp _); case hp => (first | omega | (simp only [World.size_alloc, World.size_setCell, World.size_drew]; omega) | (simp; done) | (simp; omega))) | ((with_reducible refine Below.alloc ?_ ?hp _); case hp => (first | omega | (simp only [World.size_alloc, World.size_setCell, World.size_drew]; omega) | (simp; done) | (simp; omega))) | with_reducible refine Below.drew ?_ | with_reducible refine below_drewN ?_ _))⟩
            rw [← mix_set, HM.out]
            exact own_put HOW2.out k hkm ⟨5, 0, 0, y.jt⟩
          case measure => simp [intOf]; omega
        · have ee : (((ins l k).jt : Int) == ((ins l k).jf : Int)) = false := by rw [beq_eq_false_iff_ne]; omega
          have HM := Lib.hid (show levelAt l k = ins l k by unfold levelAt; rw [HT.out]; simp [he])
          clear he
          generalize hye : ins l k = y at *
          have HYE := Lib.hid hye
          clear hye
          go_wp2_with (go_at_call 139; refine (tests_at _ cap l k _ (HLW.out.below (B := wr.heap.size) (by (repeat (first | with_reducible exact Below.refl _ _ | with_reducible assumption | ((with_reducible refine Below.setCell ?_ ?hp _); case hp => (first | omega | (simp only [World.size_alloc, World.size_setCell, World.size_drew]; omega) | (simp; done) | (simp; omega))) | ((with_reducible refine Below.alloc ?_ ?hp _); case hp => (first | omega | (simp only [World.size_alloc, World.size_setCell, World.size_drew]; omega) | (simp; done) | (simp; omega))) | with_reducible refine Below.drew ?_ | with_reducible refine below_drewN ?_ _))) (Nat.le_refl _)) hlt).mono ?_; rw [HYE.out, HT.out]; rintro e' w2 ⟨rfl, hb2⟩; have hb3 : Below wr.heap.size wr w2 := Below.trans (by (repeat (first | with_reducible exact Below.refl _ _ | with_reducible assumption | ((with_reducible refine Below.setCell ?_ ?hp _); case hp => (first | omega | (simp only [World.size_alloc, World.size_setCell, World.size_drew]; omega) | (simp; done) | (simp; omega))) | ((with_reducible refine Below.alloc ?_ ?hp _); case hp => (first | omega | (simp only [World.size_alloc, World.size_setCell, World.size_drew]; omega) | (simp; done) | (simp; omega))) | with_reducible refine Below.drew ?_ | with_reducible refine below_drewN ?_ _))) (hb2.mono (by (first | omega | (simp only [World.size_alloc, World.size_setCell, World.size_drew]; omega) | (simp; done) | (simp; omega)))); have HOW2 := Lib.hid (HOW.out.below hb3 (Nat.le_refl _)); have HB2 := Lib.hid (HB.out.trans (hb3.mono HB.out.size)); clear hb3; (obtain ⟨hb2_c, hb2_f⟩ := bcell hb2; have hb2_z := (hb2).size; have hb2_0 : Below wr.heap.size wr _ := Below.trans (by (repeat (first | with_reducible exact Below.refl _ _ | with_reducible assumption | ((with_reducible refine Below.setCell ?_ ?hp _); case hp => (first | omega | (simp only [World.size_alloc, World.size_setCell, World.size_drew]; omega) | (simp; done) | (simp; omega))) | ((with_reducible refine Below.alloc ?_ ?hp _); case hp => (first | omega | (simp only [World.size_alloc, World.size_setCell, World.size_drew]; omega) | (simp; done) | (simp; omega))) | with_reducible refine Below.drew ?_ | with_reducible refine below_drewN ?_ _))) ((hb2).mono (by (first | omega | (simp only [World.size_alloc, World.size_setCell, World.size_drew]; omega) | (simp; done) | (simp; omega)))); (try simp only [World.size_alloc, World.size_setCell, World.size_drew] at hb2_z hb2_c hb2_f); clear hb2); (have hb2_q0 := hb2_c (wr.heap.size) 0 (by omega); simp [go_sem] at hb2_q0; have hb2_q1 := hb2_c (wr.heap.size) 1 (by omega); simp [go_sem] at hb2_q1; have hb2_q2 := hb2_c (wr.heap.size) 2 (by omega); simp [go_sem] at hb2_q2; have hb2_q3 := hb2_c (wr.heap.size) 3 (by omega); simp [go_sem] at hb2_q3))
          go_roundw
          case rel =>
            refine ⟨k + 1, by omega, by go_num, ?_, by have hB2 := HB2.out; (repeat (first | with_reducible exact Below.refl _ _ | with_reducible assumption | ((with_reducible refine Below.setCell ?_ ?hp _); case hp => (first | omega | (simp only [World.size_alloc, World.size_setCell, World.size_drew]; omega) | (simp; done) | (simp; omega))) | ((with_reducible refine Below.alloc ?_ ?hp _); case hp => (first | omega | (simp only [World.size_alloc, World.size_setCell, World.size_drew]; omega) | (simp; done) | (simp; omega))) | with_reducible refine Below.drew ?_ | with_reducible refine below_drewN ?_ _))⟩
            rw [← mix_same _ _ _ (by rw [HM.out, HYE.out])]
            exact HOW2.out
          case measure => simp [intOf]; omega
      · have HT := Lib.hid (show isTest (ins l k) = false by simpa using ht)
        clear ht
        have HM := Lib.hid (show levelAt l k = ins l k by unfold levelAt; rw [HT.out]; rfl)
        generalize hye : ins l k = y at *
        have HYE := Lib.hid hye
        clear hye
        go_wp2_with (go_at_call 139; refine (tests_at _ cap l k _ (HLW.out.below (B := wr.heap.size) (by (repeat (first | with_reducible exact Below.refl _ _ | with_reducible assumption | ((with_reducible refine Below.setCell ?_ ?hp _); case hp => (first | omega | (simp only [World.size_alloc, World.size_setCell, World.size_drew]; omega) | (simp; done) | (simp; omega))) | ((with_reducible refine Below.alloc ?_ ?hp _); case hp => (first | omega | (simp only [World.size_alloc, World.size_setCell, World.size_drew]; omega) | (simp; done) | (simp; omega))) | with_reducible refine Below.drew ?_ | with_reducible refine below_drewN ?_ _))) (Nat.le_refl _)) hlt).mono ?_; rw [HYE.out, HT.out]; rintro e' w2 ⟨rfl, hb2⟩; have hb3 : Below wr.heap.size wr w2 := Below.trans (by (repeat (first | with_reducible exact Below.refl _ _ | with_reducible assumption | ((with_reducible refine Below.setCell ?_ ?hp _); case hp => (first | omega | (simp only [World.size_alloc, World.size_setCell, World.size_drew]; omega) | (simp; done) | (simp; omega))) | ((with_reducible refine Below.alloc ?_ ?hp _); case hp => (first | omega | (simp only [World.size_alloc, World.size_setCell, World.size_drew]; omega) | (simp; done) | (simp; omega))) | with_reducible refine Below.drew ?_ | with_reducible refine below_drewN ?_ _))) (hb2.mono (by (first | omega | (simp only [World.size_alloc, World.size_setCell, World.size_drew]; omega) | (simp; done) | (simp; omega)))); have HOW2 := Lib.hid (HOW.out.below hb3 (Nat.le_refl _)); have HB2 := Lib.hid (HB.out.trans (hb3.mono HB.out.size)); clear hb3; (obtain ⟨hb2_c, hb2_f⟩ := bcell hb2; have hb2_z := (hb2).size; have hb2_0 : Below wr.heap.size wr _ := Below.trans (by (repeat (first | with_reducible exact Below.refl _ _ | with_reducible assumption | ((with_reducible refine Below.setCell ?_ ?hp _); case hp => (first | omega | (simp only [World.size_alloc, World.size_setCell, World.size_drew]; omega) | (simp; done) | (simp; omega))) | ((with_reducible refine Below.alloc ?_ ?hp _); case hp => (first | omega | (simp only [World.size_alloc, World.size_setCell, World.size_drew]; omega) | (simp; done) | (simp; omega))) | with_reducible refine Below.drew ?_ | with_reducible refine below_drewN ?_ _))) ((hb2).mono (by (first | omega | (simp only [World.size_alloc, World.size_setCell, World.size_drew]; omega) | (simp; done) | (simp; omega)))); (try simp only [World.size_alloc, World.size_setCell, World.size_drew] at hb2_z hb2_c hb2_f); clear hb2); (have hb2_q0 := hb2_c (wr.heap.size) 0 (by omega); simp [go_sem] at hb2_q0; have hb2_q1 := hb2_c (wr.heap.size) 1 (by omega); simp [go_sem] at hb2_q1; have hb2_q2 := hb2_c (wr.heap.size) 2 (by omega); simp [go_sem] at hb2_q2; have hb2_q3 := hb2_c (wr.heap.size) 3 (by omega); simp [go_sem] at hb2_q3))
        go_roundw
        case rel =>
          refine ⟨k + 1, by omega, by go_num, ?_, by have hB2 := HB2.out; (repeat (first | with_reducible exact Below.refl _ _ | with_reducible assumption | ((with_reducible refine Below.setCell ?_ ?hp _); case hp => (first | omega | (simp only [World.size_alloc, World.size_setCell, World.size_drew]; omega) | (simp; done) | (simp; omega))) | ((with_reducible refine Below.alloc ?_ ?hp _); case hp => (first | omega | (simp only [World.size_alloc, World.size_setCell, World.size_drew]; omega) | (simp; done) | (simp; omega))) | with_reducible refine Below.drew ?_ | with_reducible refine below_drewN ?_ _))⟩
          rw [← mix_same _ _ _ (by rw [HM.out, HYE.out])]
          exact HOW2.out
        case measure => simp [intOf]; omega
    · have hk' : k = l.length := by omega
      subst hk'
      go_wp2
      go_ret
      exact ⟨_, _, rfl, by have := HOW.out; rw [mix_all] at this; exact this, HB.out⟩

set_option maxRecDepth 100000 in
set_option maxHeartbeats 1000000 in
theorem third_any (A : Option Addr) (cap : Nat) (l : List Insn) (w : World) (hl : RdP w A l) (hg : Good l) :
    Calls Try.prog 60 #[.slice A l.length cap] w fun e w' => ∃ R c, e = .returned (.slice R l.length c) ∧ EI.Own 36 w' w.heap.size R c (levelL l) ∧ Below w.heap.size w w' := by
  have hlen := hg.len
  have HG := Lib.hid hg
  have HL := Lib.hid hl
  obtain ⟨b, o, rfl, hb, _⟩ := hl.cells (i := 0) (by omega)
  clear hg hl
  go_enter Try.func60, Try.ntmps60
  go_wp2_with (go_at_call 101; refine (copied_any _ cap l w HL.out.enc (by omega)).mono ?_; rintro e w1 ⟨R, c, rfl, ho, hb1⟩; obtain ⟨g, rfl, hg1, hg2⟩ := ho.form (by intro e; rw [e] at hlen; simp at hlen); have HO := Lib.hid ho; have HB1 := Lib.hid hb1; clear ho hb1)
  go_loopw [10] (fun i wr => ∃ k : Nat, k ≤ l.length ∧ i = .int .i64 k ∧ EI.Own 36 wr w.heap.size (some ⟨g, 0, none⟩) c (mix (levelAt l) l k) ∧ Below w.heap.size w wr) (fun i _ => l.length - (intOf i).toNat)
  case atStart => exact ⟨0, by omega, rfl, by rw [mix_zero]; exact HO.out, HB1.out⟩
  case round =>
    obtain ⟨k, hk, rfl, ho, hB⟩ := hrel
    have hgw := ho.lt.2
    have HOW := Lib.hid ho
    have HB := Lib.hid hB
    have HLW := Lib.hid (HL.out.below hB (Nat.le_refl _))
    have hbw : b < wr.heap.size := by have := hB.size; omega
    have hww : w.heap.size ≤ wr.heap.size := hB.size
    clear ho hB HO HB1 hg2
    by_cases hlt : k < l.length
    · obtain ⟨b1, o1, hbo, _, hcy⟩ := HLW.out.cells hlt
      cases hbo
      obtain ⟨y0, y1, y2, y3⟩ := hcy
      have hkm : k < (mix (levelAt l) l k).length := by rw [mix_len]; exact hlt
      have HX := Lib.hid (HG.out.okAt hlt)
      have q1 := HX.out.jt
      have q2 := HX.out.jf
      by_cases ht : isTest (ins l k) = true
      · have HT := Lib.hid ht
        clear ht
        by_cases he : (ins l k).jt = (ins l k).jf
        · have ee : (((ins l k).jt : Int) == ((ins l k).jf : Int)) = true := by rw [beq_iff_eq]; omega
          have HM := Lib.hid (show levelAt l k = ⟨5, 0, 0, (ins l k).jt⟩ by unfold levelAt; rw [HT.out, he]; simp)
          clear he
          obtain ⟨z0, z1, z2, z3⟩ := own_iat HOW.out k hkm
          obtain ⟨f0, f1, f2, f3⟩ := own_frozen4 HOW.out k
          generalize hye : ins l k = y at *
          have HYE := Lib.hid hye
          clear hye
          go_wp2_with (go_at_call 100; refine (rtests_any y HX.out _).mono ?_; rw [HT.out]; rintro e' w2 ⟨rfl, hb2⟩; have hb3 : Below wr.heap.size wr w2 := Below.trans (by (repeat (first | with_reducible exact Below.refl _ _ | with_reducible assumption | ((with_reducible refine Below.setCell ?_ ?hp _); case hp => (first | omega | (simp only [World.size_alloc, World.size_setCell, World.size_drew]; omega) | (simp; done) | (simp; omega))) | ((with_reducible refine Below.alloc ?_ ?hp _); case hp => (first | omega | (simp only [World.size_alloc, World.size_setCell, World.size_drew]; omega) | (simp; done) | (simp; omega))) | with_reducible refine Below.drew ?_ | with_reducible refine below_drewN ?_ _))) (hb2.mono (by (first | omega | (simp only [World.size_alloc, World.size_setCell, World.size_drew]; omega) | (simp; done) | (simp; omega)))); have HOW2 := Lib.hid (HOW.out.below hb3 (Nat.le_refl _)); have HB2 := Lib.hid (HB.out.trans (hb3.mono HB.out.size)); clear hb3; (obtain ⟨hb2_c, hb2_f⟩ := bcell hb2; have hb2_z := (hb2).size; have hb2_0 : Below wr.heap.size wr _ := Below.trans (by (repeat (first | with_reducible exact Below.refl _ _ | with_reducible assumption | ((with_reducible refine Below.setCell ?_ ?hp _); case hp => (first | omega | (simp only [World.size_alloc, World.size_setCell, World.size_drew]; omega) | (simp; done) | (simp; omega))) | ((with_reducible refine Below.alloc ?_ ?hp _); case hp => (first | omega | (simp only [World.size_alloc, World.size_setCell, World.size_drew]; omega) | (simp; done) | (simp; omega))) | with_reducible refine Below.drew ?_ | with_reducible refine below_drewN ?_ _))) ((hb2).mono (by (first | omega | (simp only [World.size_alloc, World.size_setCell, World.size_drew]; omega) | (simp; done) | (simp; omega)))); (try simp only [World.size_alloc, World.size_setCell, World.size_drew] at hb2_z hb2_c hb2_f); clear hb2); (have hb2_q0 := hb2_c (wr.heap.size) 0 (by omega); simp [go_sem] at hb2_q0; have hb2_q1 := hb2_c (wr.heap.size) 1 (by omega); simp [go_sem] at hb2_q1; have hb2_q2 := hb2_c (wr.heap.size) 2 (by omega); simp [go_sem] at hb2_q2; have hb2_q3 := hb2_c (wr.heap.size) 3 (by omega); simp [go_sem] at hb2_q3))
          go_roundw
          case rel =>
            refine ⟨k + 1, by omega, by go_num, ?_, by have hB2 := HB2.out; (repeat (first | with_reducible exact Below.refl _ _ | with_reducible assumption | ((with_reducible refine Below.setCell ?_ ?hp _); case hp => (first | omega | (simp only [World.size_alloc, World.size_setCell, World.size_drew]; omega) | (simp; done) | (simp; omega))) | ((with_reducible refine Below.alloc ?_ ?hp _); case hp => (first | omega | (simp only [World.size_alloc, World.size_setCell, World.size_drew]; omega) | (simp; done) | (simp; omega))) | with_reducible refine Below.drew ?_ | with_reducible refine below_drewN ?_ _))⟩
            rw [← mix_set, HM.out]
            exact own_put HOW2.out k hkm ⟨5, 0, 0, y.jt⟩
          case measure => simp [intOf]; omega
        · have ee : (((ins l k).jt : Int) == ((ins l k).jf : Int)) = false := by rw [beq_eq_false_iff_ne]; omega
          have HM := Lib.hid (show levelAt l k = ins l k by unfold levelAt; rw [HT.out]; simp [he])
          clear he
          generalize hye : ins l k = y at *
          have HYE := Lib.hid hye
          clear hye
          go_wp2_with (go_at_call 100; refine (rtests_any y HX.out _).mono ?_; rw [HT.out]; rintro e' w2 ⟨rfl, hb2⟩; have hb3 : Below wr.heap.size wr w2 := Below.trans (by (repeat (first | with_reducible exact Below.refl _ _ | with_reducible assumption | ((with_reducible refine Below.setCell ?_ ?hp _); case hp => (first | omega | (simp only [World.size_alloc, World.size_setCell, World.size_drew]; omega) | (simp; done) | (simp; omega))) | ((with_reducible refine Below.alloc ?_ ?hp _); case hp => (first | omega | (simp only [World.size_alloc, World.size_setCell, World.size_drew]; omega) | (simp; done) | (simp; omega))) | with_reducible refine Below.drew ?_ | with_reducible refine below_drewN ?_ _))) (hb2.mono (by (first | omega | (simp only [World.size_alloc, World.size_setCell, World.size_drew]; omega) | (simp; done) | (simp; omega)))); have HOW2 := Lib.hid (HOW.out.below hb3 (Nat.le_refl _)); have HB2 := Lib.hid (HB.out.trans (hb3.mono HB.out.size)); clear hb3; (obtain ⟨hb2_c, hb2_f⟩ := bcell hb2; have hb2_z := (hb2).size; have hb2_0 : Below wr.heap.size wr _ := Below.trans (by (repeat (first | with_reducible exact Below.refl _ _ | with_reducible assumption | ((with_reducible refine Below.setCell ?_ ?hp _); case hp => (first | omega | (simp only [World.size_alloc, World.size_setCell, World.size_drew]; omega) | (simp; done) | (simp; omega))) | ((with_reducible refine Below.alloc ?_ ?hp _); case hp => (first | omega | (simp only [World.size_alloc, World.size_setCell, World.size_drew]; omega) | (simp; done) | (simp; omega))) | with_reducible refine Below.drew ?_ | with_reducible refine below_drewN ?_ _))) ((hb2).mono (by (first | omega | (simp only [World.size_alloc, World.size_setCell, World.size_drew]; omega) | (simp; done) | (simp; omega)))); (try simp only [World.size_alloc, World.size_setCell, World.size_drew] at hb2_z hb2_c hb2_f); clear hb2); (have hb2_q0 := hb2_c (wr.heap.size) 0 (by omega); simp [go_sem] at hb2_q0; have hb2_q1 := hb2_c (wr.heap.size) 1 (by omega); simp [go_sem] at hb2_q1; have hb2_q2 := hb2_c (wr.heap.size) 2 (by omega); simp [go_sem] at hb2_q2; have hb2_q3 := hb2_c (wr.heap.size) 3 (by omega); simp [go_sem] at hb2_q3))
          go_roundw
          case rel =>
            refine ⟨k + 1, by omega, by go_num, ?_, by have hB2 := HB2.out; (repeat (first | with_reducible exact Below.refl _ _ | with_reducible assumption | ((with_reducible refine Below.setCell ?_ ?hp _); case hp => (first | omega | (simp only [World.size_alloc, World.size_setCell, World.size_drew]; omega) | (simp; done) | (simp; omega))) | ((with_reducible refine Below.alloc ?_ ?hp _); case hp => (first | omega | (simp only [World.size_alloc, World.size_setCell, World.size_drew]; omega) | (simp; done) | (simp; omega))) | with_reducible refine Below.drew ?_ | with_reducible refine below_drewN ?_ _))⟩
            rw [← mix_same _ _ _ (by rw [HM.out, HYE.out])]
            exact HOW2.out
          case measure => simp [intOf]; omega
      · have HT := Lib.hid (show isTest (ins l k) = false by simpa using ht)
        clear ht
        have HM := Lib.hid (show levelAt l k = ins l k by unfold levelAt; rw [HT.out]; rfl)
        generalize hye : ins l k = y at *
        have HYE := Lib.hid hye
        clear hye
        go_wp2_with (go_at_call 100; refine (rtests_any y HX.out _).mono ?_; rw [HT.out]; rintro e' w2 ⟨rfl, hb2⟩; have hb3 : Below wr.heap.size wr w2 := Below.trans (by (repeat (first | with_reducible exact Below.refl _ _ | with_reducible assumption | ((with_reducible refine Below.setCell ?_ ?hp _); case hp => (first | omega | (simp only [World.size_alloc, World.size_setCell, World.size_drew]; omega) | (simp; done) | (simp; omega))) | ((with_reducible refine Below.alloc ?_ ?hp _); case hp => (first | omega | (simp only [World.size_alloc, World.size_setCell, World.size_drew]; omega) | (simp; done) | (simp; omega))) | with_reducible refine Below.drew ?_ | with_reducible refine below_drewN ?_ _))) (hb2.mono (by (first | omega | (simp only [World.size_alloc, World.size_setCell, World.size_drew]; omega) | (simp; done) | (simp; omega)))); have HOW2 := Lib.hid (HOW.out.below hb3 (Nat.le_refl _)); have HB2 := Lib.hid (HB.out.trans (hb3.mono HB.out.size)); clear hb3; (obtain ⟨hb2_c, hb2_f⟩ := bcell hb2; have hb2_z := (hb2).size; have hb2_0 : Below wr.heap.size wr _ := Below.trans (by (repeat (first | with_reducible exact Below.refl _ _ | with_reducible assumption | ((with_reducible refine Below.setCell ?_ ?hp _); case hp => (first | omega | (simp only [World.size_alloc, World.size_setCell, World.size_drew]; omega) | (simp; done) | (simp; omega))) | ((with_reducible refine Below.alloc ?_ ?hp _); case hp => (first | omega | (simp only [World.size_alloc, World.size_setCell, World.size_drew]; omega) | (simp; done) | (simp; omega))) | with_reducible refine Below.drew ?_ | with_reducible refine below_drewN ?_ _))) ((hb2).mono (by (first | omega | (simp only [World.size_alloc, World.size_setCell, World.size_drew]; omega) | (simp; done) | (simp; omega)))); (try simp only [World.size_alloc, World.size_setCell, World.size_drew] at hb2_z hb2_c hb2_f); clear hb2); (have hb2_q0 := hb2_c (wr.heap.size) 0 (by omega); simp [go_sem] at hb2_q0; have hb2_q1 := hb2_c (wr.heap.size) 1 (by omega); simp [go_sem] at hb2_q1; have hb2_q2 := hb2_c (wr.heap.size) 2 (by omega); simp [go_sem] at hb2_q2; have hb2_q3 := hb2_c (wr.heap.size) 3 (by omega); simp [go_sem] at hb2_q3))
        go_roundw
        case rel =>
          refine ⟨k + 1, by omega, by go_num, ?_, by have hB2 := HB2.out; (repeat (first | with_reducible exact Below.refl _ _ | with_reducible assumption | ((with_reducible refine Below.setCell ?_ ?hp _); case hp => (first | omega | (simp only [World.size_alloc, World.size_setCell, World.size_drew]; omega) | (simp; done) | (simp; omega))) | ((with_reducible refine Below.alloc ?_ ?hp _); case hp => (first | omega | (simp only [World.size_alloc, World.size_setCell, World.size_drew]; omega) | (simp; done) | (simp; omega))) | with_reducible refine Below.drew ?_ | with_reducible refine below_drewN ?_ _))⟩
          rw [← mix_same _ _ _ (by rw [HM.out, HYE.out])]
          exact HOW2.out
        case measure => simp [intOf]; omega
    · have hk' : k = l.length := by omega
      subst hk'
      go_wp2
      go_ret
      exact ⟨_, _, rfl, by have := HOW.out; rw [mix_all] at this; exact this, HB.out⟩

end Go.Proofs.Ytfjbanfibmpalaa

/- Contract: wicketgateref22.leads. -/
set_option linter.unusedVariables false
set_option linter.unusedSimpArgs false
namespace Go.Proofs.Ytfjbanfibmpalaa
open Go.RowKit Go.Shelf

set_option maxHeartbeats 400000 in
theorem leads_any (A : Option Addr) (cap : Nat) (l : List Insn) (i d : Nat) (w : World) (hl : RdP w A l) (hg : Good l) (hi : i + 1 + d < l.length) :
    Calls Try.prog 103 #[.slice A l.length cap, .int .i64 i, .int .u8 d] w fun e w' => e = .returned (.int .u8 (lead1 l i d)) ∧ w = w' := by
  have hlen := hg.len
  have h1 := endOf_lt hg hi
  have h2 := endOf_ge hg hi
  have HE := Lib.hid (lead1_eq hg i d hi)
  have HR := Lib.hid (rend_any A cap l (i + 1 + d) w hl hg hi)
  clear hl hg
  generalize endOf l (i + 1 + d) = n at *
  obtain ⟨m, rfl⟩ : ∃ m, n = i + 1 + m := ⟨n - i - 1, by omega⟩
  have e2 : i + 1 + m - i - 1 = m := by omega
  rw [e2] at HE
  go_enter Try.func103, Try.ntmps103
  go_wp2_with (go_at_call 102; refine HR.out.mono ?_; rintro e w' ⟨rfl, rfl⟩)
  go_ret
  refine ⟨?_, rfl⟩
  rw [HE.out]
  show Ending.returned (Value.int _ _) = _
  congr 2
  first | rfl | omega
end Go.Proofs.Ytfjbanfibmpalaa

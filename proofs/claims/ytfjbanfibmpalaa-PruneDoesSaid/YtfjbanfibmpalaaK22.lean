/- Words: a whole instruction written into a row of one's own. Contracts: (prune.program).give, .level; wicketgateref22.end, .first, .third. -/
import Derived.Test.YtfjbanfibmpalaaK21
set_option linter.unusedVariables false
set_option linter.unusedSimpArgs false
namespace Go.Proofs.Ytfjbanfibmpalaa
open Go.RowKit Go.Shelf

/-- A list whose first k have been made anew. -/
def mix (f : Nat → Insn) (l : List Insn) (k : Nat) : List Insn := (List.range l.length).map (fun j => if j < k then f j else ins l j)

theorem mix_len (f : Nat → Insn) (l : List Insn) (k : Nat) : (mix f l k).length = l.length := by simp [mix]
theorem mix_zero (f : Nat → Insn) (l : List Insn) : mix f l 0 = l := by
  refine List.ext_getElem (by simp [mix]) ?_
  intro i h1 h2
  simp [mix, ins, h2]
theorem mix_all (f : Nat → Insn) (l : List Insn) : mix f l l.length = (List.range l.length).map f := by
  refine List.map_congr_left (fun q hq => ?_)
  rw [if_pos (List.mem_range.1 hq)]
theorem mix_set (f : Nat → Insn) (l : List Insn) (k : Nat) : (mix f l k).set k (f k) = mix f l (k + 1) := by
  refine List.ext_getElem (by simp [mix]) ?_
  intro i h1 h2
  rw [List.getElem_set]
  simp only [mix, List.getElem_map, List.getElem_range]
  by_cases h : k = i
  · subst h; simp
  · rw [if_neg h]
    by_cases h3 : i < k
    · rw [if_pos h3, if_pos (by omega)]
    · rw [if_neg h3, if_neg (by omega)]
theorem mix_same (f : Nat → Insn) (l : List Insn) (k : Nat) (h : f k = ins l k) : mix f l k = mix f l (k + 1) := by
  refine List.map_congr_left (fun q _ => ?_)
  by_cases h3 : q < k
  · rw [if_pos h3, if_pos (by omega)]
  · rw [if_neg h3]
    by_cases h4 : q = k
    · subst h4; rw [if_pos (by omega), h]
    · rw [if_neg (by omega)]
theorem mix_get (f : Nat → Insn) (l : List Insn) (k : Nat) (h : k < (mix f l k).length) : (mix f l k)[k] = ins l k := by
  simp [mix]

/-- Where an instruction of a row of one's own lies. -/
theorem own_iat {w : World} {base g c : Nat} {l : List Insn} (h : EI.Own 36 w base (some ⟨g, 0, none⟩) c l) (i : Nat) (hi : i < l.length) : IAt w g (i * 4) (l[i]'hi) := by
  have := at_insn h.at_ i hi
  simpa using this

theorem own_frozen4 {w : World} {base g c : Nat} {l : List Insn} (h : EI.Own 36 w base (some ⟨g, 0, none⟩) c l) (i : Nat) :
    w.frozen? ⟨g, i * 4, none⟩ = false ∧ w.frozen? ⟨g, i * 4 + 1, none⟩ = false ∧ w.frozen? ⟨g, i * 4 + 2, none⟩ = false ∧ w.frozen? ⟨g, i * 4 + 3, none⟩ = false :=
  ⟨h.frozen _, h.frozen _, h.frozen _, h.frozen _⟩

/-- A whole instruction is written. -/
theorem own_put {w : World} {base g c : Nat} {l : List Insn} (h : EI.Own 36 w base (some ⟨g, 0, none⟩) c l) (i : Nat) (hi : i < l.length) (y : Insn) :
    EI.Own 36 ((((w.setCell ⟨g, i * 4, none⟩ (.int .u16 y.code)).setCell ⟨g, i * 4 + 1, none⟩ (.int .u8 y.jt)).setCell ⟨g, i * 4 + 2, none⟩ (.int .u8 y.jf)).setCell ⟨g, i * 4 + 3, none⟩ (.int .u32 y.k)) base (some ⟨g, 0, none⟩) c (l.set i y) := by
  have h1 := h.set i hi 0 (by decide) ⟨y.code, l[i].jt, l[i].jf, l[i].k⟩ (.int .u16 y.code) rfl (i * 4) rfl
  have h2 := h1.set i (by simpa using hi) 1 (by decide) ⟨y.code, y.jt, l[i].jf, l[i].k⟩ (.int .u8 y.jt) (by rw [List.getElem_set_self]; rfl) (i * 4 + 1) rfl
  have h3 := h2.set i (by simpa using hi) 2 (by decide) ⟨y.code, y.jt, y.jf, l[i].k⟩ (.int .u8 y.jf) (by rw [List.getElem_set_self]; rfl) (i * 4 + 2) rfl
  have h4 := h3.set i (by simpa using hi) 3 (by decide) y (.int .u32 y.k) (by rw [List.getElem_set_self]; rfl) (i * 4 + 3) rfl
  simpa only [List.set_set] using h4

/-- One field is written. -/
theorem own_put1 {w : World} {base g c : Nat} {l : List Insn} (h : EI.Own 36 w base (some ⟨g, 0, none⟩) c l) (i : Nat) (hi : i < l.length) (v : Nat) :
    EI.Own 36 (w.setCell ⟨g, i * 4 + 1, none⟩ (.int .u8 v)) base (some ⟨g, 0, none⟩) c (l.set i { l[i] with jt := v }) :=
  h.set i hi 1 (by decide) { l[i] with jt := v } (.int .u8 v) rfl _ rfl
theorem own_put2 {w : World} {base g c : Nat} {l : List Insn} (h : EI.Own 36 w base (some ⟨g, 0, none⟩) c l) (i : Nat) (hi : i < l.length) (v : Nat) :
    EI.Own 36 (w.setCell ⟨g, i * 4 + 2, none⟩ (.int .u8 v)) base (some ⟨g, 0, none⟩) c (l.set i { l[i] with jf := v }) :=
  h.set i hi 2 (by decide) { l[i] with jf := v } (.int .u8 v) rfl _ rfl
theorem own_put3 {w : World} {base g c : Nat} {l : List Insn} (h : EI.Own 36 w base (some ⟨g, 0, none⟩) c l) (i : Nat) (hi : i < l.length) (v : Nat) :
    EI.Own 36 (w.setCell ⟨g, i * 4 + 3, none⟩ (.int .u32 v)) base (some ⟨g, 0, none⟩) c (l.set i { l[i] with k := v }) :=
  h.set i hi 3 (by decide) { l[i] with k := v } (.int .u32 v) rfl _ rfl

set_option maxRecDepth 100000 in
set_option maxHeartbeats 1000000 in
theorem give_any (A : Option Addr) (cap : Nat) (l : List Insn) (w : World) (hl : RdP w A l) (hg : Good l) :
    Calls Try.prog 92 #[.slice A l.length cap] w fun e w' => ∃ R c, e = .returned (.slice R l.length c) ∧ EI.Own 36 w' w.heap.size R c (giveL l) ∧ Below w.heap.size w w' := by
  have hlen := hg.len
  have HG := Lib.hid hg
  have HL := Lib.hid hl
  obtain ⟨b, o, rfl, hb, _⟩ := hl.cells (i := 0) (by omega)
  clear hg hl
  go_enter Try.func92, Try.ntmps92
  go_wp2_with (go_at_call 134; refine (clonep_any _ cap l w HL.out.enc (by omega)).mono ?_; rintro e w1 ⟨R, c, rfl, ho, hb1⟩; obtain ⟨g, rfl, hg1, hg2⟩ := ho.form (by intro e; rw [e] at hlen; simp at hlen); have HO := Lib.hid ho; have HB1 := Lib.hid hb1; clear ho hb1)
  go_loopw [10] (fun i wr => ∃ k : Nat, k ≤ l.length ∧ i = .int .i64 k ∧ EI.Own 36 wr w.heap.size (some ⟨g, 0, none⟩) c (mix (giveAt l) l k) ∧ Below w.heap.size w wr) (fun i _ => l.length - (intOf i).toNat)
  case atStart => exact ⟨0, by omega, rfl, by rw [mix_zero]; exact HO.out, HB1.out⟩
  case round =>
    obtain ⟨k, hk, rfl, ho, hB⟩ := hrel
    have hgw := ho.lt.2
    have HOW := Lib.hid ho
    have HB := Lib.hid hB
    have HLW := Lib.hid (HL.out.below hB (Nat.le_refl _))
    have hbw : b < wr.heap.size := by have := hB.size; omega
    clear ho hB HO HB1 hg2
    by_cases hlt : k < l.length
    · have he := endOf_lt HG.out hlt
      have HEND := Lib.hid (end_any _ cap l wr HLW.out HG.out _ k (Nat.le_refl _) hlt)
      have HJMP := Lib.hid (jumps_any _ cap l k wr HLW.out hlt)
      by_cases hj : isJa (ins l k) = true
      · have HJ := Lib.hid hj
        clear hj
        have HRT := Lib.hid (returns_at _ cap l (endOf l k) wr HLW.out HG.out he)
        by_cases hr : isRet (ins l (endOf l k)).code = true
        · have HR := Lib.hid hr
          clear hr
          have HM := Lib.hid (show giveAt l k = ins l (endOf l k) by unfold giveAt; rw [HJ.out, HR.out]; rfl)
          have hcx := HLW.out.cells he
          obtain ⟨b', o', hbo, _, hcx⟩ := hcx
          cases hbo
          obtain ⟨x0, x1, x2, x3⟩ := hcx
          have hkm : k < (mix (giveAt l) l k).length := by rw [mix_len]; exact hlt
          obtain ⟨z0, z1, z2, z3⟩ := own_iat HOW.out k hkm
          obtain ⟨f0, f1, f2, f3⟩ := own_frozen4 HOW.out k
          generalize endOf l k = e at *
          generalize hxe : ins l e = x at *
          have HXE := Lib.hid hxe
          clear hxe
          go_wp2_with (first
            | (go_at_call 135; refine HEND.out.mono ?_; rintro e' w' ⟨rfl, rfl⟩)
            | (go_at_call 136; refine HJMP.out.mono ?_; rw [HJ.out]; rintro e' w' ⟨rfl, rfl⟩)
            | (go_at_call 137; refine HRT.out.mono ?_; rw [HR.out]; rintro e' w2 ⟨rfl, hb2⟩; have HOW2 := Lib.hid (HOW.out.below hb2 (Nat.le_refl _)); have HB2 := Lib.hid (HB.out.trans (hb2.mono HB.out.size)); (obtain ⟨hb2_c, hb2_f⟩ := bcell hb2; have hb2_z := (hb2).size; have hb2_0 : Below wr.heap.size wr _ := Below.trans (by (repeat (first | with_reducible exact Below.refl _ _ | with_reducible assumption | ((with_reducible refine Below.setCell ?_ ?hp _); case hp => (first | omega | (simp only [World.size_alloc, World.size_setCell, World.size_drew]; omega) | (simp; done) | (simp; omega))) | ((with_reducible refine Below.alloc ?_ ?hp _); case hp => (first | omega | (simp only [World.size_alloc, World.size_setCell, World.size_drew]; omega) | (simp; done) | (simp; omega))) | with_reducible refine Below.drew ?_ | with_reducible refine below_drewN ?_ _))) ((hb2).mono (by (first | omega | (simp only [World.size_alloc, World.size_setCell, World.size_drew]; omega) | (simp; done) | (simp; omega)))); (try simp only [World.size_alloc, World.size_setCell, World.size_drew] at hb2_z hb2_c hb2_f); clear hb2)))
          go_roundw
          case rel =>
            refine ⟨k + 1, by omega, by go_num, ?_, by have hB2 := HB2.out; (repeat (first | with_reducible exact Below.refl _ _ | with_reducible assumption | ((with_reducible refine Below.setCell ?_ ?hp _); case hp => (first | omega | (simp only [World.size_alloc, World.size_setCell, World.size_drew]; omega) | (simp; done) | (simp; omega))) | ((with_reducible refine Below.alloc ?_ ?hp _); case hp => (first | omega | (simp only [World.size_alloc, World.size_setCell, World.size_drew]; omega) | (simp; done) | (simp; omega))) | with_reducible refine Below.drew ?_ | with_reducible refine below_drewN ?_ _))⟩
            rw [← mix_set, HM.out]
            exact own_put HOW2.out k hkm x
          case measure => simp [intOf]; omega
        · have HR := Lib.hid (show isRet (ins l (endOf l k)).code = false by simpa using hr)
          clear hr
          have HM := Lib.hid (show giveAt l k = ins l k by unfold giveAt; rw [HJ.out, HR.out]; rfl)
          generalize endOf l k = e at *
          go_wp2_with (first
            | (go_at_call 135; refine HEND.out.mono ?_; rintro e' w' ⟨rfl, rfl⟩)
            | (go_at_call 136; refine HJMP.out.mono ?_; rw [HJ.out]; rintro e' w' ⟨rfl, rfl⟩)
            | (go_at_call 137; refine HRT.out.mono ?_; rw [HR.out]; rintro e' w2 ⟨rfl, hb2⟩; have HOW2 := Lib.hid (HOW.out.below hb2 (Nat.le_refl _)); have HB2 := Lib.hid (HB.out.trans (hb2.mono HB.out.size)); clear hb2))
          go_roundw
          case rel =>
            refine ⟨k + 1, by omega, by go_num, ?_, HB2.out⟩
            rw [← mix_same _ _ _ HM.out]
            exact HOW2.out
          case measure => simp [intOf]; omega
      · have HJ := Lib.hid (show isJa (ins l k) = false by simpa using hj)
        clear hj
        have HM := Lib.hid (show giveAt l k = ins l k by unfold giveAt; rw [HJ.out]; rfl)
        generalize endOf l k = e at *
        go_wp2_with (first
          | (go_at_call 135; refine HEND.out.mono ?_; rintro e' w' ⟨rfl, rfl⟩)
          | (go_at_call 136; refine HJMP.out.mono ?_; rw [HJ.out]; rintro e' w' ⟨rfl, rfl⟩))
        go_roundw
        case rel =>
          refine ⟨k + 1, by omega, by go_num, ?_, HB.out⟩
          rw [← mix_same _ _ _ HM.out]
          exact HOW.out
        case measure => simp [intOf]; omega
    · have hk' : k = l.length := by omega
      subst hk'
      go_wp2
      go_ret
      exact ⟨_, _, rfl, by have := HOW.out; rw [mix_all] at this; exact this, HB.out⟩
end Go.Proofs.Ytfjbanfibmpalaa

/- PD -/
import Derived.Test.YtfjbanfibmpalaaPC
import Derived.Test.YtfjbanfibmpalaaKE
import Derived.Test.YtfjbanfibmpalaaPA

/- Contracts: (prune.program).stays, and what it tells one behind the other. -/
set_option linter.unusedVariables false
set_option linter.unusedSimpArgs false
namespace Go.Proofs.Ytfjbanfibmpalaa
open Go.RowKit Go.Shelf
attribute [local go_sem] Oper.semAt_some

theorem enters_stays (args : Array Value) (w : World) : (callFunc 158 args).run Try.prog w = .ok (.enter 158 args) w := enters_of Try.func158 (by kernel_rfl) rfl args w

set_option maxHeartbeats 400000 in
theorem stays_any (A : Option Addr) (cap n : Nat) (w : World) :
    Calls Try.prog 140 #[.slice A n cap] w fun e w' => e = .returned (.func (.func 158) #[] #[.pointer (some ⟨w.heap.size, 0, none⟩)]) ∧ w.alloc (.cells #[.slice A n cap] 146) = w' := by
  go_enter Try.func140, Try.ntmps140
  go_wp2
  go_ret
  exact ⟨rfl, rfl⟩

def keeps (l : List Insn) (i : Nat) : Bool := decide (0 < (ins l i).k) || !isJa (ins l i)
theorem stays_keeps (l : List Insn) : stays l = (reach l).filter (keeps l) := rfl
/-- How many of the first k that are reached stay. -/
def cnt (l : List Insn) (k : Nat) : Nat := (((reach l).take k).filter (keeps l)).length
theorem cnt_succ (l : List Insn) (k : Nat) (h : k < (reach l).length) : cnt l (k + 1) = cnt l k + if keeps l (nth (reach l) k) then 1 else 0 := by
  have : nth (reach l) k = (reach l)[k] := by simp [nth, h]
  unfold cnt
  rw [List.take_succ_eq_append_getElem h, List.filter_append, List.length_append, this]
  congr 1
  by_cases hk : keeps l (reach l)[k] = true <;> simp [hk]
theorem cnt_all (l : List Insn) : cnt l (reach l).length = (stays l).length := by unfold cnt; rw [List.take_length]; rfl
theorem cnt_get (l : List Insn) (k : Nat) (h : k < (reach l).length) (hk : keeps l (nth (reach l) k) = true) : ∃ hlt : cnt l k < (stays l).length, (stays l)[cnt l k] = nth (reach l) k := by
  have e : nth (reach l) k = (reach l)[k] := by simp [nth, h]
  rw [e] at hk
  have hs : stays l = ((reach l).take k).filter (keeps l) ++ (reach l)[k] :: ((reach l).drop (k + 1)).filter (keeps l) := by
    have : reach l = (reach l).take k ++ (reach l)[k] :: (reach l).drop (k + 1) := by rw [← List.drop_eq_getElem_cons h, List.take_append_drop]
    rw [stays_keeps]
    conv => lhs; rw [this]
    rw [List.filter_append, List.filter_cons_of_pos hk]
  have hlt : cnt l k < (stays l).length := by rw [hs, List.length_append]; unfold cnt; simp
  refine ⟨hlt, ?_⟩
  rw [e]
  have : (stays l)[cnt l k]? = some (reach l)[k] := by
    rw [hs]; unfold cnt
    rw [List.getElem?_append_right (Nat.le_refl _), Nat.sub_self]; rfl
  rw [List.getElem?_eq_getElem hlt] at this
  injection this
theorem nth_lt (l : List Insn) (k : Nat) (h : k < (reach l).length) : nth (reach l) k < l.length := by
  have : nth (reach l) k = (reach l)[k] := by simp [nth, h]
  rw [this]; exact reach_lt l _ (List.getElem_mem h)

set_option maxRecDepth 100000 in
set_option maxHeartbeats 1000000 in
theorem stays_iter (A : Option Addr) (cap : Nat) (l : List Insn) (P z0 n0 : Nat) (w0 : World) (hl : RdP w0 A l) (hg : Good l) (hP : P < n0) (hz : z0 ≤ n0) (hb0 : ∀ b o, A = some ⟨b, o, none⟩ → b < z0) (hPc : w0.cell? ⟨P, 0, none⟩ = some (.slice A l.length cap)) :
    IterS Try.prog 158 #[.pointer (some ⟨P, 0, none⟩)] (ints (stays l)) (fun k => k < z0 ∨ k = P) n0 w0 := by
  intro y W P0 J hW hn0 hP1 hPJ hJ hY hJ0
  have hlen := hg.len
  obtain ⟨b, o, rfl, hb, _⟩ := hl.cells (i := 0) (by omega)
  have hbz := hb0 b o rfl
  have hbn : b < n0 := by omega
  have HG := Lib.hid hg
  have HL : Hid (RdP W (some ⟨b, o, none⟩) l) := Lib.hid ⟨hl.small, hl.ok, fun hn => by
    obtain ⟨b', o', e, hlt, hc⟩ := hl.at_ hn
    cases e
    exact ⟨b, o, rfl, by omega, fun i hi => (hc i hi).keep fun o => hW.cell (p := ⟨b, o, none⟩) hbn⟩⟩
  have hp := (hW.cell (p := ⟨P, 0, none⟩) hP).trans hPc
  clear hl hg hPc hb0
  have HY := Lib.hid hY
  have HJ := Lib.hid (And.intro hP1 hPJ)
  have HJJ := Lib.hid hJ
  have HJ0 := Lib.hid hJ0
  clear hY hJ hP1 hPJ hW hJ0
  refine callsIn_of_wp Try.func158 rfl trivial ?_ rfl
  simp only [Try.ntmps158, List.size_toArray, List.length_cons, List.length_nil, Nat.reduceAdd, Nat.reduceSub, Array.replicate_succ, Array.replicate_zero, List.push_toArray, List.append_toArray, List.nil_append, List.cons_append]
  have hwf : ∀ k, Fence.wide.fn k := fun _ => trivial
  have hwd : Fence.wide.depth = none := rfl
  have hPW : P < W.heap.size := by omega
  have hbW : b < W.heap.size := by omega
  have hrl := reach_len l
  gi_wp2_with (gi_at_call 40; refine (callsIn_wide.2 (reach_good _ cap l W HL.out HG.out.checked)).mono ?_; rintro e w1 ⟨R, c, rfl, ho, hb1⟩; have HO := Lib.hid ho; have HB1 := Lib.hid hb1; clear ho hb1)
  have hs1 := HB1.out.size
  have hJ1 := HJ.out.2 w1 (HJ.out.1 _ _ HJ0.out HB1.out) hs1
  have HJ1 := Lib.hid hJ1
  clear hJ1
  generalize hK : w1.heap.size = K at *
  gi_loopw [14] (fun i wr => ∃ k : Nat, k ≤ (reach l).length ∧ i = .int .i64 k ∧ J K (cnt l k) wr ∧ KpS (fun k => k < z0 ∨ k = P) W.heap.size K w1 wr) (fun i _ => (reach l).length - (intOf i).toNat)
  case atStart => exact ⟨0, by omega, rfl, HJ1.out, KpS.refl _ _ _ _⟩
  case round =>
    obtain ⟨k, hk, rfl, hj, hkp⟩ := hrel
    have HJK := Lib.hid hj
    have HKP := Lib.hid hkp
    clear hj hkp HJ1
    have hKw : K ≤ wr.heap.size := by have := HKP.out.size; omega
    by_cases hlt : k < (reach l).length
    · obtain ⟨rg, rfl, hrg1, hrg2⟩ := HO.out.form (by intro e; rw [e] at hlt; simp at hlt)
      have hcell := (World.cell?_of_block (w := w1) (a := ⟨rg, 0 + k, none⟩) (HKP.out.block rg (.inr ⟨hrg1, by omega⟩) (by omega))).trans (ints_cell HO.out.at_ k hlt)
      rw [Nat.zero_add] at hcell
      have hit := nth_lt l k hlt
      have HCS := Lib.hid (cnt_succ l k hlt)
      have HCG := Lib.hid (cnt_get l k hlt)
      generalize hi : nth (reach l) k = i at *
      clear hi
      have HLW : Hid (RdP wr (some ⟨b, o, none⟩) l) := Lib.hid ⟨HL.out.small, HL.out.ok, fun hn => by
        obtain ⟨b', o', e, hlt', hc⟩ := HL.out.at_ hn
        cases e
        exact ⟨b, o, rfl, by omega, fun i hi => (hc i hi).keep fun o => (World.cell?_of_block (w := w1) (HKP.out.block b (.inl (.inl hbz)) (by omega))).trans (HB1.out.cell (p := ⟨b, o, none⟩) hbW)⟩⟩
      have hpw : wr.cell? ⟨P, 0, none⟩ = some (.slice (some ⟨b, o, none⟩) l.length cap) := (World.cell?_of_block (w := w1) (a := ⟨P, 0, none⟩) (HKP.out.block P (.inl (.inr rfl)) (by omega))).trans ((HB1.out.cell (p := ⟨P, 0, none⟩) hPW).trans hp)
      obtain ⟨b1, o1, hbo, _, hcx⟩ := HLW.out.cells hit
      cases hbo
      obtain ⟨x0, x1, x2, x3⟩ := hcx
      have i1 : (0 : Int) ≤ (i : Int) := by omega
      have i2 : (i : Int) < (l.length : Int) := by omega
      by_cases hkeep : keeps l i = true
      · obtain ⟨hc1, hc2⟩ := HCG.out hkeep
        have hcs := HCS.out
        rw [if_pos hkeep] at hcs
        have HC := Lib.hid hcs
        have hlen2 : cnt l k < (ints (stays l)).length := by simp [ints]; exact hc1
        have hyi : (ints (stays l))[cnt l k]'hlen2 = #[.int .i64 (i : Int)] := by simp [ints, hc2]
        obtain ⟨fn, tmps, assign, body, hy, hR⟩ := HY.out K (cnt l k) hlen2 wr HJK.out hs1 hKw
        rw [hyi] at hy
        have HRR := Lib.hid hR
        clear hR hcs hyi hlen2 hc2
        unfold keeps at hkeep
        by_cases hk0 : 0 < (ins l i).k
        · have e1 : decide (0 < (ins l i).k) = true := by rw [decide_eq_true_eq]; omega
          clear hkeep
          generalize ins l i = x at *
          gi_wp2
          refine HRR.out.mono ?_
          rintro e B ⟨rfl, hJB, hkp2⟩
          have HJB := Lib.hid hJB
          have HKP2 := Lib.hid hkp2
          clear hJB hkp2 hy
          gi_wp2
          refine ⟨⟨k + 1, by omega, by go_num, by rw [HC.out]; exact HJB.out, HKP.out.trans HKP2.out⟩, ?_⟩
          simp [intOf]; omega
        · have e1 : decide (0 < (ins l i).k) = false := by rw [decide_eq_false_iff_not]; omega
          have hk1 : (!isJa (ins l i)) = true := by simpa [hk0] using hkeep
          have HJ : Hid (isJa (ins l i) = false) := Lib.hid (by simpa using hk1)
          clear hkeep hk1
          have HJMP := Lib.hid (jumps_any _ cap l i wr HLW.out hit)
          generalize ins l i = x at *
          gi_wp2_with (gi_at_call 136; refine (callsIn_wide.2 HJMP.out).mono ?_; rw [HJ.out]; rintro e' w' ⟨rfl, rfl⟩)
          refine HRR.out.mono ?_
          rintro e B ⟨rfl, hJB, hkp2⟩
          have HJB := Lib.hid hJB
          have HKP2 := Lib.hid hkp2
          clear hJB hkp2 hy
          gi_wp2
          refine ⟨⟨k + 1, by omega, by go_num, by rw [HC.out]; exact HJB.out, HKP.out.trans HKP2.out⟩, ?_⟩
          simp [intOf]; omega
      · have hcs := HCS.out
        rw [if_neg hkeep] at hcs
        have HC := Lib.hid hcs
        clear hcs
        unfold keeps at hkeep
        have hk0 : ¬ 0 < (ins l i).k := by intro e; apply hkeep; simp [e]
        have e1 : decide (0 < (ins l i).k) = false := by rw [decide_eq_false_iff_not]; omega
        have HJ : Hid (isJa (ins l i) = true) := Lib.hid (by
          cases hj : isJa (ins l i)
          · exact absurd (by simp [hj]) hkeep
          · rfl)
        clear hkeep hk0
        have HJMP := Lib.hid (jumps_any _ cap l i wr HLW.out hit)
        generalize ins l i = x at *
        gi_wp2_with (gi_at_call 136; refine (callsIn_wide.2 HJMP.out).mono ?_; rw [HJ.out]; rintro e' w' ⟨rfl, rfl⟩)
        refine ⟨⟨k + 1, by omega, by go_num, by rw [HC.out]; exact HJK.out, HKP.out⟩, ?_⟩
        simp [intOf]; omega
    · have hk' : k = (reach l).length := by omega
      subst hk'
      have HCA := Lib.hid (cnt_all l)
      gi_wp2
      go_end0
      refine ⟨⟨_, rfl⟩, K, hs1, hKw, ?_⟩
      have := HJK.out
      rw [HCA.out] at this
      simpa [ints] using this
end Go.Proofs.Ytfjbanfibmpalaa

/- Plain: how many stay, counted. Contracts: (prune.program).leave$1; (prune.program).leave. -/
set_option linter.unusedVariables false
set_option linter.unusedSimpArgs false
namespace Go.Proofs.Ytfjbanfibmpalaa
open Go.RowKit Go.Shelf
attribute [local go_sem ↓] Go.wp_at_zero Go.wp_at_succ

set_option maxHeartbeats 400000 in
theorem by_any (l : List Insn) (ag ac T I i d : Nat) (w : World) (hn : i + 1 + d ≤ l.length) (hlen : l.length ≤ 64) (hmono : ahead (stay l) i < ahead (stay l) (i + 1 + d))
    (hT : w.cell? ⟨T, 0, none⟩ = some (.slice (some ⟨ag, 0, none⟩) (l.length + 1) ac)) (hI : w.cell? ⟨I, 0, none⟩ = some (.int .i64 i))
    (h1 : w.cell? ⟨ag, i, none⟩ = some (.int .i64 (ahead (stay l) i : Int))) (h2 : w.cell? ⟨ag, i + 1 + d, none⟩ = some (.int .i64 (ahead (stay l) (i + 1 + d) : Int))) :
    Calls Try.prog 141 #[.int .i64 d, .pointer (some ⟨T, 0, none⟩), .pointer (some ⟨I, 0, none⟩)] w fun e w' => e = .returned (.int .i64 ((ahead (stay l) (i + 1 + d) - ahead (stay l) i - 1 : Nat) : Int)) ∧ ∃ m, w' = w.drewN m := by
  have b1 := ahead_le (stay l) (i + 1 + d)
  generalize ahead (stay l) i = p at *
  generalize ahead (stay l) (i + 1 + d) = q at *
  obtain ⟨r, rfl⟩ : ∃ r, q = p + 1 + r := ⟨q - p - 1, by omega⟩
  have HE := Lib.hid (show p + 1 + r - p - 1 = r by omega)
  have i1 : (0 : Int) ≤ (i : Int) + 1 + d := by omega
  have i2 : (i : Int) + 1 + d < ((l.length + 1 : Nat) : Int) := by omega
  have i3 : ((i : Int) + 1 + d).toNat = i + 1 + d := by omega
  have i4 : (0 : Int) ≤ (i : Int) := by omega
  have i5 : (i : Int) < ((l.length + 1 : Nat) : Int) := by omega
  go_enter Try.func141, Try.ntmps141
  go_wp2
  go_quiet (fail)
  go_wp2
  go_ret
  refine ⟨?_, _, rfl⟩
  rw [HE.out]
  show Ending.returned (Value.int _ _) = _
  congr 2
  omega

/-- How often a place is counted by the first i that stay. -/
def tally (l : List Insn) (i j : Nat) : Nat := ((stays l).take i).countP (fun q => q + 1 == j)
theorem tally_zero (l : List Insn) (j : Nat) : tally l 0 j = 0 := by simp [tally]
theorem tally_succ (l : List Insn) (i j : Nat) (hi : i < (stays l).length) : tally l (i + 1) j = if j = nth (stays l) i + 1 then tally l i j + 1 else tally l i j := by
  have e : nth (stays l) i = (stays l)[i] := by simp [nth, hi]
  unfold tally
  rw [e, List.take_succ_eq_append_getElem hi, List.countP_append]
  by_cases h : j = (stays l)[i] + 1
  · rw [if_pos h]; subst h; simp
  · rw [if_neg h, List.countP_singleton, if_neg]
    · rfl
    · simp; omega
theorem tally_all (l : List Insn) (i : Nat) : tally l (stays l).length (i + 1) = (if stay l i then 1 else 0) ∧ tally l (stays l).length 0 = 0 := by
  unfold tally
  rw [List.take_length]
  constructor
  · have hin : i ∈ stays l ↔ stay l i = true := by
      rw [stays_eq]
      simp
      intro h; exact (stay_R h).1
    have hnd : (stays l).Nodup := by rw [stays_eq]; exact List.nodup_range.filter _
    have e : (stays l).countP (fun q => q + 1 == i + 1) = (stays l).count i := by
      unfold List.count
      refine List.countP_congr (fun q _ => ?_)
      simp
    rw [e]
    by_cases h : stay l i = true
    · rw [if_pos h, hnd.count, if_pos (hin.2 h)]
    · rw [if_neg h, hnd.count, if_neg (fun q => h (hin.1 q))]
  · rw [List.countP_eq_zero]; intro q _; simp
theorem tally_le (l : List Insn) (i j : Nat) : tally l i j ≤ i := by
  unfold tally
  exact Nat.le_trans List.countP_le_length (by rw [List.length_take]; omega)
theorem stays_len (l : List Insn) : (stays l).length ≤ l.length := by
  have : (stays l).length = (leaveL l).length := by unfold leaveL; simp
  rw [this, leaveL_len]; exact ahead_le _ _
theorem stays_nth {l : List Insn} {i : Nat} (h : i < (stays l).length) : stay l (nth (stays l) i) = true ∧ nth (stays l) i < l.length ∧ ahead (stay l) (nth (stays l) i) = i := by
  have e : nth (stays l) i = (stays l)[i] := by simp [nth, h]
  have hm := List.getElem_mem h
  have hs : stay l (stays l)[i] = true := by
    have : (stays l)[i] ∈ (List.range l.length).filter (stay l) := by rw [← stays_eq]; exact hm
    exact (List.mem_filter.1 this).2
  have hlt := (stay_R hs).1
  rw [e]
  refine ⟨hs, hlt, ?_⟩
  have hlen : i < ahead (stay l) l.length := by
    have : (stays l).length = ahead (stay l) l.length := by rw [stays_eq, filt_len]
    omega
  obtain ⟨j, hj, hsj, ha⟩ := filt_from (stay l) hlen
  have hg := filt_get (stay l) l.length j hj hsj
  rw [ha, ← stays_eq, List.getElem?_eq_getElem h] at hg
  injection hg with hg
  rw [hg]; exact ha
end Go.Proofs.Ytfjbanfibmpalaa

/- PF -/
import Derived.Test.YtfjbanfibmpalaaPE
import Derived.Test.YtfjbanfibmpalaaKF

/- Contracts: wicketgateref22.fourth. -/
set_option linter.unusedVariables false
set_option linter.unusedSimpArgs false
namespace Go.Proofs.Ytfjbanfibmpalaa
open Go.RowKit Go.Shelf
attribute [local go_sem ↓] Go.wp_at_zero Go.wp_at_succ

/-- What of the first k places is left. -/
def fourthTo (l : List Insn) (k : Nat) : List Insn := ((List.range k).filter (stay l)).map (moved l)
def fourthL (l : List Insn) : List Insn := fourthTo l l.length
theorem fourthTo_succ (l : List Insn) (k : Nat) : fourthTo l (k + 1) = if stay l k then fourthTo l k ++ [moved l k] else fourthTo l k := by
  unfold fourthTo
  rw [List.range_succ, List.filter_append, List.map_append]
  by_cases h : stay l k = true <;> simp [h]
theorem fourthTo_len (l : List Insn) (k : Nat) : (fourthTo l k).length = ahead (stay l) k := by
  unfold fourthTo; rw [List.length_map, filt_len]
theorem fourth_leave (l : List Insn) : (fourthL l).map bare = leaveL l := by
  unfold fourthL fourthTo leaveL
  rw [stays_eq, List.map_map]; rfl

/-- Which of the first k that are reached stay. -/
def stayTo (l : List Insn) (k q : Nat) : Bool := ((reach l).take k).contains q && keeps l q
theorem stayTo_zero (l : List Insn) (q : Nat) : stayTo l 0 q = false := by simp [stayTo]
theorem stayTo_all (l : List Insn) (q : Nat) : stayTo l (reach l).length q = stay l q := by unfold stayTo; rw [List.take_length]; rfl
theorem reach_nodup (l : List Insn) : (reach l).Nodup := by rw [reach_eq]; exact List.nodup_range.filter _
theorem stayTo_succ (l : List Insn) (k q : Nat) (h : k < (reach l).length) : stayTo l (k + 1) q = if q = nth (reach l) k then keeps l (nth (reach l) k) else stayTo l k q := by
  unfold stayTo
  rw [contains_take _ _ _ h]
  by_cases e : q = nth (reach l) k
  · rw [if_pos e, e]; simp
  · rw [if_neg e]
    have : (q == nth (reach l) k) = false := by simpa using e
    rw [this, Bool.or_false]

/-- What the reference's fourth pass has of its own. -/
structure FI (w : World) (sg n : Nat) (f : Nat → Bool) (W : World) : Prop where
  bools : EB.Own 4 W w.heap.size (some ⟨sg, 0, none⟩) n (marks n f)
  below : Below w.heap.size w W

theorem FI.step {w W W' : World} {sg n : Nat} {f : Nat → Bool} (h : FI w sg n f W) (hb : Below W.heap.size W W') : FI w sg n f W' :=
  ⟨h.bools.below hb (Nat.le_refl _), h.below.trans (hb.mono h.below.size)⟩
theorem FI.put {w W : World} {sg n : Nat} {f : Nat → Bool} (h : FI w sg n f W) (i : Nat) (hi : i < n) (b : Bool) : FI w sg n (fun q => if q = i then b else f q) (W.setCell ⟨sg, i, none⟩ (.bool b)) :=
  ⟨marks_put h.bools i hi b, h.below.setCell (h.bools.lt).1 _⟩
theorem FI.congr {w W : World} {sg n : Nat} {f f' : Nat → Bool} (h : FI w sg n f W) (hf : ∀ q, q < n → f q = f' q) : FI w sg n f' W :=
  ⟨by rw [← marks_congr n f f' hf]; exact h.bools, h.below⟩

theorem FI.grown {w W W' : World} {sg n : Nat} {f : Nat → Bool} {row : Option Nat} (h : FI w sg n f W) (hg : W.grownBy W' row) (hr : ∀ k, row = some k → sg < k) : FI w sg n f W' := by
  refine ⟨⟨h.bools.1, h.bools.2.imp id ?_⟩, h.below.grown hg h.below.size (fun k hk => by have := hr k hk; have := h.bools.lt.1; omega)⟩
  rintro ⟨g, cap, cur, e1, e2, e3, r⟩
  have eg : sg = g := by injection e1 with a; injection a with a; injection a
  exact ⟨g, cap, cur, e1, e2, (hg.block g (Array.getElem?_eq_some_iff.1 e3).1 (fun e => by have := hr g e.symm; omega)).trans e3, r⟩

theorem bools_zero (n : Nat) : List.replicate n false = marks n (fun _ => false) := by
  refine List.ext_getElem (by simp [marks]) ?_
  intro i h1 h2
  simp [marks]

theorem ahead_fi {w W : World} {sg n : Nat} {f : Nat → Bool} (h : FI w sg n f W) (hn : n ≤ 1000) (i d : Nat) (hi : i + 1 + d ≤ n) :
    Calls Try.prog 99 #[.slice (some ⟨sg, 0, none⟩) n n, .int .i64 ((i : Int) + 1 + d)] W fun e w' => e = .returned (.int .i64 (ahead f (i + 1 + d) : Int)) ∧ W = w' := by
  have := rahead_any sg n n (i + 1 + d) f W hn hi (fun j hj => marks_cell h.bools j hj)
  rw [show ((i + 1 + d : Nat) : Int) = (i : Int) + 1 + d by omega] at this
  exact this

set_option maxRecDepth 100000 in
set_option maxHeartbeats 2000000 in
theorem fourth_any (A : Option Addr) (cap : Nat) (l : List Insn) (w : World) (hl : RdP w A l) (hg : Good l) :
    Calls Try.prog 59 #[.slice A l.length cap] w fun e w' => ∃ R c, e = .returned (.slice R (fourthL l).length c) ∧ EI.Own 36 w' w.heap.size R c (fourthL l) ∧ Below w.heap.size w w' := by
  have hlen := hg.len
  have HG := Lib.hid hg
  have HL := Lib.hid hl
  obtain ⟨b, o, rfl, hb, _⟩ := hl.cells (i := 0) (by omega)
  obtain ⟨ib, hib, hz0, hz1, hz2⟩ := info_parts info_bool
  have HI := Lib.hid (And.intro hib (And.intro hz0 (And.intro hz1 hz2)))
  have hrl := reach_len l
  have HRN := Lib.hid (fun k => nth_lt l k)
  clear hg hl hib hz0 hz1 hz2
  go_enter Try.func59, Try.ntmps59
  go_wp2_with (first
    | (go_at_call 98; refine (rreach_good _ cap l w HL.out HG.out.checked).mono ?_; rintro e w1 ⟨Rr, cr, rfl, ho, hb1⟩; have HR := Lib.hid ho; have HB1 := Lib.hid hb1; have hs1 := hb1.size; clear ho hb1)
    | (at_make; refine wpList_make_full _ rfl _ _ 152 rfl w.heap.size 4 ib (.bool false) 1 Try.underlying152 HI.out.1 HI.out.2.1 HI.out.2.2.1 _ _ _ _ l.length rfl rfl rfl rfl (by rw [HI.out.2.2.2]; omega) (by unfold maxLen; omega) hs1 ?_; intro w2 hown2 hg2; have HG2 := Lib.hid hg2; have ho2 := make_own1 EB .bool (fun _ => rfl) rfl false rfl hown2; rw [bools_zero] at ho2; have HO2 := Lib.hid ho2; clear hg2 hown2 ho2))
  have hB12 : Below w1.heap.size w1 w2 := (Below.refl _ _).grown HG2.out (Nat.le_refl _) (fun k hk => by cases hk)
  have HF0 := Lib.hid (show FI w w1.heap.size l.length (stayTo l 0) w2 from ⟨by have := HO2.out; exact (show EB.Own _ _ _ _ _ _ from by rw [← marks_congr l.length (fun _ => false) (stayTo l 0) (fun q _ => (stayTo_zero l q).symm)]; exact this), HB1.out.trans (hB12.mono hs1)⟩)
  have HRR := Lib.hid (HR.out.below hB12 (Nat.le_refl _))
  have hsz2 : w1.heap.size < w2.heap.size := HO2.out.lt.2
  have hrg : ∀ g, Rr = some ⟨g, 0, none⟩ → g < w1.heap.size := fun g e => by have h := HR.out; subst e; exact h.lt.2
  have HRG := Lib.hid hrg
  clear hB12 HG2 HO2 HR HB1 hrg
  generalize hsg : w1.heap.size = sg at *
  go_loopw [18] (fun i wr => ∃ k : Nat, k ≤ (reach l).length ∧ i = .int .i64 k ∧ FI w sg l.length (stayTo l k) wr ∧ EN.Own 3 wr w.heap.size Rr cr (reach l)) (fun i _ => (reach l).length - (intOf i).toNat)
  case atStart => exact ⟨0, Nat.zero_le _, rfl, HF0.out, HRR.out⟩
  case round =>
    obtain ⟨k, hk, rfl, hfi, hrow⟩ := hrel
    have HFI := Lib.hid hfi
    have HROW := Lib.hid hrow
    have hsgw := hfi.bools.lt.2
    clear hfi hrow HF0 HRR
    by_cases hlt : k < (reach l).length
    · obtain ⟨rg, rfl, hrg1, hrg2⟩ := HROW.out.form (by intro e; rw [e] at hlt; simp at hlt)
      have hcell := ints_cell HROW.out.at_ k hlt
      rw [Nat.zero_add] at hcell
      have hit := HRN.out k hlt
      have HSS := Lib.hid (fun q => stayTo_succ l k q hlt)
      have hne := HRG.out rg rfl
      generalize hi : nth (reach l) k = i at *
      clear hi
      have HLW := Lib.hid (HL.out.below HFI.out.below (Nat.le_refl _))
      obtain ⟨b1, o1, hbo, _, hcx⟩ := HLW.out.cells hit
      cases hbo
      obtain ⟨x0, x1, x2, x3⟩ := hcx
      have hsc := marks_cell HFI.out.bools i hit
      have hsf := HFI.out.bools.frozen i
      have i1 : (0 : Int) ≤ (i : Int) := by omega
      have i2 : (i : Int) < (l.length : Int) := by omega
      have HK : ∀ b, keeps l i = b → Hid (FI w sg l.length (stayTo l (k + 1)) (wr.setCell ⟨sg, i, none⟩ (.bool b)) ∧ EN.Own 3 (wr.setCell ⟨sg, i, none⟩ (.bool b)) w.heap.size (some ⟨rg, 0, none⟩) cr (reach l)) := fun b hb =>
        Lib.hid ⟨(HFI.out.put i hit b).congr (fun q _ => by rw [HSS.out, hb]), HROW.out.setCell_ne (fun g e => by cases e; show sg ≠ rg; omega) _⟩
      have hkk : keeps l i = (decide (0 < (ins l i).k) || !isJa (ins l i)) := rfl
      have HKK := Lib.hid (And.intro HK hkk)
      clear HK hkk
      generalize ins l i = x at *
      by_cases hj : isJa x = true
      · have hc : x.code = 5 := by simpa [isJa] using hj
        have e5 : ((x.code : Int) == 5) = true := by rw [beq_iff_eq]; omega
        by_cases hk0 : x.k = 0
        · have e0 : ((x.k : Int) == 0) = true := by rw [beq_iff_eq]; omega
          have HR1 := HKK.out.1 false (by rw [HKK.out.2, hj, hk0]; rfl)
          clear hj hk0 hc
          go_wp2
          go_roundw
          case rel => exact ⟨k + 1, by omega, by go_num, HR1.out.1, HR1.out.2⟩
          case measure => simp [intOf]; omega
        · have e0 : ((x.k : Int) == 0) = false := by rw [beq_eq_false_iff_ne]; omega
          have HR1 := HKK.out.1 true (by rw [HKK.out.2]; simp; left; omega)
          clear hj hk0 hc
          go_wp2
          go_roundw
          case rel => exact ⟨k + 1, by omega, by go_num, HR1.out.1, HR1.out.2⟩
          case measure => simp [intOf]; omega
      · have hc : ¬ x.code = 5 := by simpa [isJa] using hj
        have e5 : ((x.code : Int) == 5) = false := by rw [beq_eq_false_iff_ne]; omega
        have HR1 := HKK.out.1 true (by rw [HKK.out.2]; simp; right; simpa using hj)
        clear hj hc
        go_wp2
        go_roundw
        case rel => exact ⟨k + 1, by omega, by go_num, HR1.out.1, HR1.out.2⟩
        case measure => simp [intOf]; omega
    · have hk' : k = (reach l).length := by omega
      subst hk'
      have HFS := Lib.hid (HFI.out.congr (f' := stay l) (fun q _ => stayTo_all l q))
      clear HFI HROW
      obtain ⟨wo, rfl⟩ : ∃ wo : World, wo = wr := ⟨_, rfl⟩
      go_wp2
      go_loopw [7, 43] (fun v i wr => ∃ (k : Nat) (R : Option Addr) (c : Nat), k ≤ l.length ∧ i = .int .i64 k ∧ v = .slice R (fourthTo l k).length c ∧ FI w sg l.length (stay l) wr ∧ EI.Own 36 wr (sg + 1) R c (fourthTo l k)) (fun _ i _ => l.length - (intOf i).toNat)
      case atStart => exact ⟨0, none, 0, Nat.zero_le _, rfl, rfl, HFS.out, Enc.Own.nil⟩
      case round =>
        obtain ⟨k, R, c, hk, rfl, rfl, hfi, hown⟩ := hrel
        have HFI := Lib.hid hfi
        have HOWN := Lib.hid hown
        have hsgw := hfi.bools.lt.2
        have hfl := fourthTo_len l k
        have hal := ahead_le (stay l) k
        have HLW := Lib.hid (HL.out.below hfi.below (Nat.le_refl _))
        clear hfi hown HFS
        by_cases hlt : k < l.length
        · obtain ⟨b1, o1, hbo, hbw, hcx⟩ := HLW.out.cells hlt
          cases hbo
          obtain ⟨x0, x1, x2, x3⟩ := hcx
          have hsc := marks_cell HFI.out.bools k hlt
          have i1 : (0 : Int) ≤ (k : Int) := by omega
          have i2 : (k : Int) < (l.length : Int) := by omega
          have HFT := Lib.hid (fourthTo_succ l k)
          have HOK := Lib.hid (HG.out.okAt hlt)
          by_cases hst : stay l k = true
          · rw [hst] at hsc
            have HST := Lib.hid hst
            clear hst
            by_cases hj : isJa (ins l k) = true
            · have hja := HG.out.ja hlt hj
              have HMV := Lib.hid (moved_ja hj)
              have HA := Lib.hid (fun W (h : FI w sg l.length (stay l) W) => ahead_fi h (by omega) k (ins l k).k (by omega))
              have hmono := ahead_lt HST.out (show k < k + 1 + (ins l k).k by omega)
              have hle := ahead_le (stay l) (k + 1 + (ins l k).k)
              have e5 : (((ins l k).code : Int) == 5) = true := by
                have : (ins l k).code = 5 := by simpa [isJa] using hj
                rw [beq_iff_eq]; omega
              clear hj
              rw [← hfl] at hmono HMV hal
              clear hfl
              generalize hy : ins l k = y at *
              clear hy
              generalize fourthTo l k = out at *
              generalize ahead (stay l) (k + 1 + y.k) = at1 at *
              obtain ⟨dd, rfl⟩ : ∃ dd, at1 = out.length + 1 + dd := ⟨at1 - out.length - 1, by omega⟩
              rw [show out.length + 1 + dd - out.length - 1 = dd by omega] at HMV
              go_wp2_with (first
                | (go_at_call 99; refine (HA.out _ (HFI.out.step (by (repeat (first | with_reducible exact Below.refl _ _ | with_reducible assumption | ((with_reducible refine Below.setCell ?_ ?hp _); case hp => (first | omega | (simp only [World.size_alloc, World.size_setCell, World.size_drew]; omega) | (simp; done) | (simp; omega))) | ((with_reducible refine Below.alloc ?_ ?hp _); case hp => (first | omega | (simp only [World.size_alloc, World.size_setCell, World.size_drew]; omega) | (simp; done) | (simp; omega))) | with_reducible refine Below.drew ?_ | with_reducible refine below_drewN ?_ _))))).mono ?_; rintro e' w' ⟨rfl, rfl⟩)
                | (at_builtin; refine wpList_append_L EI 36 24 rfl (.tmp 101) (.tmp 103) rfl _ 8 Try.underlying24 info_insn rfl (by decide) _ (sg + 1) R c out rfl (HOWN.out.below (B := wr.heap.size) (by (repeat (first | with_reducible exact Below.refl _ _ | with_reducible assumption | ((with_reducible refine Below.setCell ?_ ?hp _); case hp => (first | omega | (simp only [World.size_alloc, World.size_setCell, World.size_drew]; omega) | (simp; done) | (simp; omega))) | ((with_reducible refine Below.alloc ?_ ?hp _); case hp => (first | omega | (simp only [World.size_alloc, World.size_setCell, World.size_drew]; omega) | (simp; done) | (simp; omega))) | with_reducible refine Below.drew ?_ | with_reducible refine below_drewN ?_ _))) (Nat.le_refl _)) (some ⟨wr.heap.size + 1, 0, none⟩) 1 [⟨y.code, y.jt, y.jf, dd⟩] rfl (Enc.Rd.one_at EI _ _ _ _ (by simp [EI, Insn.cells] <;> omega) _ (by simp)) (by show out.length + 1 ≤ _; omega) (by decide) (by simp <;> omega) ?_; intro R3 c3 w3 hown3 hg3 hat3; have HO3 := Lib.hid hown3; have HF3 := Lib.hid ((HFI.out.step (by (repeat (first | with_reducible exact Below.refl _ _ | with_reducible assumption | ((with_reducible refine Below.setCell ?_ ?hp _); case hp => (first | omega | (simp only [World.size_alloc, World.size_setCell, World.size_drew]; omega) | (simp; done) | (simp; omega))) | ((with_reducible refine Below.alloc ?_ ?hp _); case hp => (first | omega | (simp only [World.size_alloc, World.size_setCell, World.size_drew]; omega) | (simp; done) | (simp; omega))) | with_reducible refine Below.drew ?_ | with_reducible refine below_drewN ?_ _)))).grown hg3 (fun q hq => by have := (World.ownsRow.lt HOWN.out q hq).1; omega)); clear hown3 hg3 hat3))
              go_roundw
              case rel =>
                refine ⟨k + 1, R3, c3, by omega, by go_num, ?_, HF3.out, ?_⟩
                · rw [HFT.out, HST.out, HMV.out, if_pos rfl, List.length_append]; rfl
                · rw [HFT.out, HST.out, HMV.out, if_pos rfl]; exact HO3.out
              case measure => simp [intOf]; omega
            · have HJ := Lib.hid (show isJa (ins l k) = false by simpa using hj)
              have e5 : (((ins l k).code : Int) == 5) = false := by
                have : ¬ (ins l k).code = 5 := by simpa [isJa] using hj
                rw [beq_eq_false_iff_ne]; omega
              clear hj
              by_cases ht : isTest (ins l k) = true
              · have HT := Lib.hid ht
                have hts := HG.out.test hlt ht
                have HMV := Lib.hid (moved_test ht)
                have HA1 := Lib.hid (fun W (h : FI w sg l.length (stay l) W) => ahead_fi h (by omega) k (ins l k).jt (by omega))
                have HA2 := Lib.hid (fun W (h : FI w sg l.length (stay l) W) => ahead_fi h (by omega) k (ins l k).jf (by omega))
                have hm1 := ahead_lt HST.out (show k < k + 1 + (ins l k).jt by omega)
                have hm2 := ahead_lt HST.out (show k < k + 1 + (ins l k).jf by omega)
                have hb1 := moved_bound (l := l) k (ins l k).jt
                have hb2 := moved_bound (l := l) k (ins l k).jf
                have q1 := HOK.out.jt
                have q2 := HOK.out.jf
                clear ht
                rw [← hfl] at hm1 hm2 HMV hal hb1 hb2
                clear hfl
                generalize hy : ins l k = y at *
                clear hy
                generalize fourthTo l k = out at *
                generalize ahead (stay l) (k + 1 + y.jt) = at1 at *
                generalize ahead (stay l) (k + 1 + y.jf) = at2 at *
                obtain ⟨d1, rfl⟩ : ∃ dd, at1 = out.length + 1 + dd := ⟨at1 - out.length - 1, by omega⟩
                obtain ⟨d2, rfl⟩ : ∃ dd, at2 = out.length + 1 + dd := ⟨at2 - out.length - 1, by omega⟩
                rw [show out.length + 1 + d1 - out.length - 1 = d1 by omega] at HMV hb1
                rw [show out.length + 1 + d2 - out.length - 1 = d2 by omega] at HMV hb2
                go_wp2_with (go_at_call 100; refine (rtests_any y HOK.out _).mono ?_; rw [HT.out]; rintro e' w2 ⟨rfl, hb2⟩; have HB2 := Lib.hid (Below.trans (show Below wr.heap.size wr _ by (repeat (first | with_reducible exact Below.refl _ _ | with_reducible assumption | ((with_reducible refine Below.setCell ?_ ?hp _); case hp => (first | omega | (simp only [World.size_alloc, World.size_setCell, World.size_drew]; omega) | (simp; done) | (simp; omega))) | ((with_reducible refine Below.alloc ?_ ?hp _); case hp => (first | omega | (simp only [World.size_alloc, World.size_setCell, World.size_drew]; omega) | (simp; done) | (simp; omega))) | with_reducible refine Below.drew ?_ | with_reducible refine below_drewN ?_ _))) (hb2.mono (by (first | omega | (simp only [World.size_alloc, World.size_setCell, World.size_drew]; omega) | (simp; done) | (simp; omega))))); (obtain ⟨hb2_c, hb2_f⟩ := bcell hb2; have hb2_z := (hb2).size; have hb2_0 : Below wr.heap.size wr _ := Below.trans (by (repeat (first | with_reducible exact Below.refl _ _ | with_reducible assumption | ((with_reducible refine Below.setCell ?_ ?hp _); case hp => (first | omega | (simp only [World.size_alloc, World.size_setCell, World.size_drew]; omega) | (simp; done) | (simp; omega))) | ((with_reducible refine Below.alloc ?_ ?hp _); case hp => (first | omega | (simp only [World.size_alloc, World.size_setCell, World.size_drew]; omega) | (simp; done) | (simp; omega))) | with_reducible refine Below.drew ?_ | with_reducible refine below_drewN ?_ _))) ((hb2).mono (by (first | omega | (simp only [World.size_alloc, World.size_setCell, World.size_drew]; omega) | (simp; done) | (simp; omega)))); (try simp only [World.size_alloc, World.size_setCell, World.size_drew] at hb2_z hb2_c hb2_f); clear hb2); (have hb2_q0 := hb2_c (wr.heap.size) 0 (by omega); simp [go_sem] at hb2_q0; have hb2_q1 := hb2_c (wr.heap.size) 1 (by omega); simp [go_sem] at hb2_q1; have hb2_q2 := hb2_c (wr.heap.size) 2 (by omega); simp [go_sem] at hb2_q2; have hb2_q3 := hb2_c (wr.heap.size) 3 (by omega); simp [go_sem] at hb2_q3))
                have HF2 := Lib.hid (HFI.out.step HB2.out)
                have HOWN2 := Lib.hid (HOWN.out.below HB2.out (Nat.le_refl _))
                have hz2 : wr.heap.size < w2.heap.size := by omega
                clear x0 x1 x2 x3
                have HS0 := Lib.hid (show w2.drew.cell? ⟨wr.heap.size, 2, none⟩ = some (.int .u8 y.jf) by simpa using hb2_q2)
                have hwf : ∀ k, Fence.wide.fn k := fun _ => trivial
                have hwd : Fence.wide.depth = none := rfl
                refine wp_region_noPanic ?_
                refine (wpIn_wide (n := 0)).1 ?_
                (refine region_at 26 (fun w' => w'.cell? ⟨wr.heap.size, 2, none⟩ = some (.int .u8 y.jf)) (fun _ => trivial) (by kernel_rfl) (by kernel_rfl) (by kernel_rfl) (by kernel_rfl) (by kernel_rfl) (by kernel_rfl) (fun _ _ _ _ h => h) ?_)
                (refine At.take 0 (v := .slice (some ⟨sg, 0, none⟩) l.length l.length) rfl (by decide) (by kernel_rfl) (by kernel_rfl) HS0.out (Or.inl ⟨by rfl, fun w hw => (by go_simp; try (simp (disch := omega) only [IntWalk.i64_in, IntWalk.u8_in, IntWalk.u16_in, IntWalk.u32_in, IntWalk.u64_in]); try omega)⟩) ?_; simp only [Act.put, List.setIfInBounds_toArray, List.set_cons_zero, List.set_cons_succ])
                (refine At.take 1 (v := .int .i64 k) rfl (by decide) (by kernel_rfl) (by kernel_rfl) HS0.out (Or.inl ⟨by rfl, fun w hw => (by go_simp; try (simp (disch := omega) only [IntWalk.i64_in, IntWalk.u8_in, IntWalk.u16_in, IntWalk.u32_in, IntWalk.u64_in]); try omega)⟩) ?_; simp only [Act.put, List.setIfInBounds_toArray, List.set_cons_zero, List.set_cons_succ])
                (refine At.take 2 (v := .int .i64 ((k : Int) + 1)) rfl (by decide) (by kernel_rfl) (by kernel_rfl) HS0.out (Or.inl ⟨by rfl, fun w hw => (by go_simp; try (simp (disch := omega) only [IntWalk.i64_in, IntWalk.u8_in, IntWalk.u16_in, IntWalk.u32_in, IntWalk.u64_in]); try omega)⟩) ?_; simp only [Act.put, List.setIfInBounds_toArray, List.set_cons_zero, List.set_cons_succ])
                (refine At.take 3 (v := .pointer (some ⟨wr.heap.size, 1, none⟩)) rfl (by decide) (by kernel_rfl) (by kernel_rfl) HS0.out (Or.inl ⟨by rfl, fun w hw => (by go_simp; try (simp (disch := omega) only [IntWalk.i64_in, IntWalk.u8_in, IntWalk.u16_in, IntWalk.u32_in, IntWalk.u64_in]); try omega)⟩) ?_; simp only [Act.put, List.setIfInBounds_toArray, List.set_cons_zero, List.set_cons_succ])
                (refine At.take 8 (v := .int .i64 (out.length : Int)) rfl (by decide) (by kernel_rfl) (by kernel_rfl) HS0.out (Or.inl ⟨by rfl, fun w hw => (by go_simp; try (simp (disch := omega) only [IntWalk.i64_in, IntWalk.u8_in, IntWalk.u16_in, IntWalk.u32_in, IntWalk.u64_in]); try omega)⟩) ?_; simp only [Act.put, List.setIfInBounds_toArray, List.set_cons_zero, List.set_cons_succ])
                (refine At.take 12 (v := .slice (some ⟨sg, 0, none⟩) l.length l.length) rfl (by decide) (by kernel_rfl) (by kernel_rfl) HS0.out (Or.inl ⟨by rfl, fun w hw => (by go_simp; try (simp (disch := omega) only [IntWalk.i64_in, IntWalk.u8_in, IntWalk.u16_in, IntWalk.u32_in, IntWalk.u64_in]); try omega)⟩) ?_; simp only [Act.put, List.setIfInBounds_toArray, List.set_cons_zero, List.set_cons_succ])
                (refine At.take 13 (v := .int .i64 k) rfl (by decide) (by kernel_rfl) (by kernel_rfl) HS0.out (Or.inl ⟨by rfl, fun w hw => (by go_simp; try (simp (disch := omega) only [IntWalk.i64_in, IntWalk.u8_in, IntWalk.u16_in, IntWalk.u32_in, IntWalk.u64_in]); try omega)⟩) ?_; simp only [Act.put, List.setIfInBounds_toArray, List.set_cons_zero, List.set_cons_succ])
                (refine At.take 14 (v := .int .i64 ((k : Int) + 1)) rfl (by decide) (by kernel_rfl) (by kernel_rfl) HS0.out (Or.inl ⟨by rfl, fun w hw => (by go_simp; try (simp (disch := omega) only [IntWalk.i64_in, IntWalk.u8_in, IntWalk.u16_in, IntWalk.u32_in, IntWalk.u64_in]); try omega)⟩) ?_; simp only [Act.put, List.setIfInBounds_toArray, List.set_cons_zero, List.set_cons_succ])
                (refine At.take 15 (v := .pointer (some ⟨wr.heap.size, 2, none⟩)) rfl (by decide) (by kernel_rfl) (by kernel_rfl) HS0.out (Or.inl ⟨by rfl, fun w hw => (by go_simp; try (simp (disch := omega) only [IntWalk.i64_in, IntWalk.u8_in, IntWalk.u16_in, IntWalk.u32_in, IntWalk.u64_in]); try omega)⟩) ?_; simp only [Act.put, List.setIfInBounds_toArray, List.set_cons_zero, List.set_cons_succ])
                (refine At.take 20 (v := .int .i64 (out.length : Int)) rfl (by decide) (by kernel_rfl) (by kernel_rfl) HS0.out (Or.inl ⟨by rfl, fun w hw => (by go_simp; try (simp (disch := omega) only [IntWalk.i64_in, IntWalk.u8_in, IntWalk.u16_in, IntWalk.u32_in, IntWalk.u64_in]); try omega)⟩) ?_; simp only [Act.put, List.setIfInBounds_toArray, List.set_cons_zero, List.set_cons_succ])
                (refine At.take 16 (v := .int .u8 y.jf) rfl (by decide) (by kernel_rfl) (by kernel_rfl) HS0.out (Or.inl ⟨by rfl, fun w hw => (by go_simp; try (simp (disch := omega) only [IntWalk.i64_in, IntWalk.u8_in, IntWalk.u16_in, IntWalk.u32_in, IntWalk.u64_in]); try omega)⟩) ?_; simp only [Act.put, List.setIfInBounds_toArray, List.set_cons_zero, List.set_cons_succ])
                (refine At.take 17 (v := .int .i64 y.jf) rfl (by decide) (by kernel_rfl) (by kernel_rfl) HS0.out (Or.inl ⟨by rfl, fun w hw => (by go_simp; try (simp (disch := omega) only [IntWalk.i64_in, IntWalk.u8_in, IntWalk.u16_in, IntWalk.u32_in, IntWalk.u64_in]); try omega)⟩) ?_; simp only [Act.put, List.setIfInBounds_toArray, List.set_cons_zero, List.set_cons_succ])
                (refine At.take 18 (v := .int .i64 ((k : Int) + 1 + y.jf)) rfl (by decide) (by kernel_rfl) (by kernel_rfl) HS0.out (Or.inl ⟨by rfl, fun w hw => (by go_simp; try (simp (disch := omega) only [IntWalk.i64_in, IntWalk.u8_in, IntWalk.u16_in, IntWalk.u32_in, IntWalk.u64_in]); try omega)⟩) ?_; simp only [Act.put, List.setIfInBounds_toArray, List.set_cons_zero, List.set_cons_succ])
                (refine At.force 4 rfl (by decide) (by kernel_rfl) ?_)
                gi_wp2
                refine thenS_normal HS0.out (fun _ => ?_)
                (refine At.take 5 (v := .int .i64 y.jt) rfl (by decide) (by kernel_rfl) (by kernel_rfl) HS0.out (Or.inl ⟨by rfl, fun w hw => (by go_simp; try (simp (disch := omega) only [IntWalk.i64_in, IntWalk.u8_in, IntWalk.u16_in, IntWalk.u32_in, IntWalk.u64_in]); try omega)⟩) ?_; simp only [Act.put, List.setIfInBounds_toArray, List.set_cons_zero, List.set_cons_succ])
                (refine At.take 6 (v := .int .i64 ((k : Int) + 1 + y.jt)) rfl (by decide) (by kernel_rfl) (by kernel_rfl) HS0.out (Or.inl ⟨by rfl, fun w hw => (by go_simp; try (simp (disch := omega) only [IntWalk.i64_in, IntWalk.u8_in, IntWalk.u16_in, IntWalk.u32_in, IntWalk.u64_in]); try omega)⟩) ?_; simp only [Act.put, List.setIfInBounds_toArray, List.set_cons_zero, List.set_cons_succ])
                (refine At.force 7 rfl (by decide) (by kernel_rfl) ?_)
                gi_wp2_with (gi_at_call 99; refine (callsIn_wide.2 (HA1.out _ (HF2.out.step (by (repeat (first | with_reducible exact Below.refl _ _ | with_reducible assumption | ((with_reducible refine Below.setCell ?_ ?hp _); case hp => (first | omega | (simp only [World.size_alloc, World.size_setCell, World.size_drew]; omega) | (simp; done) | (simp; omega))) | ((with_reducible refine Below.alloc ?_ ?hp _); case hp => (first | omega | (simp only [World.size_alloc, World.size_setCell, World.size_drew]; omega) | (simp; done) | (simp; omega))) | with_reducible refine Below.drew ?_ | with_reducible refine below_drewN ?_ _)))))).mono ?_; rintro e' w' ⟨rfl, rfl⟩)
                refine thenS_normal HS0.out (fun _ => ?_)
                (refine At.take 9 (v := .int .i64 ((d1 : Int) + 1)) rfl (by decide) (by kernel_rfl) (by kernel_rfl) HS0.out (Or.inl ⟨by rfl, fun w hw => (by go_simp; try (simp (disch := omega) only [IntWalk.i64_in, IntWalk.u8_in, IntWalk.u16_in, IntWalk.u32_in, IntWalk.u64_in]); try omega)⟩) ?_; simp only [Act.put, List.setIfInBounds_toArray, List.set_cons_zero, List.set_cons_succ])
                (refine At.take 10 (v := .int .i64 d1) rfl (by decide) (by kernel_rfl) (by kernel_rfl) HS0.out (Or.inl ⟨by rfl, fun w hw => (by go_simp; try (simp (disch := omega) only [IntWalk.i64_in, IntWalk.u8_in, IntWalk.u16_in, IntWalk.u32_in, IntWalk.u64_in]); try omega)⟩) ?_; simp only [Act.put, List.setIfInBounds_toArray, List.set_cons_zero, List.set_cons_succ])
                (refine At.take 11 (v := .int .u8 d1) rfl (by decide) (by kernel_rfl) (by kernel_rfl) HS0.out (Or.inl ⟨by rfl, fun w hw => (by go_simp; try (simp (disch := omega) only [IntWalk.i64_in, IntWalk.u8_in, IntWalk.u16_in, IntWalk.u32_in, IntWalk.u64_in]); try omega)⟩) ?_; simp only [Act.put, List.setIfInBounds_toArray, List.set_cons_zero, List.set_cons_succ])
                (refine At.take 24 (v := .pointer (some ⟨wr.heap.size, 1, none⟩)) rfl (by decide) (by kernel_rfl) (by kernel_rfl) HS0.out (Or.inl ⟨by rfl, fun w hw => (by go_simp; try (simp (disch := omega) only [IntWalk.i64_in, IntWalk.u8_in, IntWalk.u16_in, IntWalk.u32_in, IntWalk.u64_in]); try omega)⟩) ?_; simp only [Act.put, List.setIfInBounds_toArray, List.set_cons_zero, List.set_cons_succ])
                (refine At.force 19 rfl (by decide) (by kernel_rfl) ?_)
                gi_wp2_with (gi_at_call 99; refine (callsIn_wide.2 (HA2.out _ (HF2.out.step (by (repeat (first | with_reducible exact Below.refl _ _ | with_reducible assumption | ((with_reducible refine Below.setCell ?_ ?hp _); case hp => (first | omega | (simp only [World.size_alloc, World.size_setCell, World.size_drew]; omega) | (simp; done) | (simp; omega))) | ((with_reducible refine Below.alloc ?_ ?hp _); case hp => (first | omega | (simp only [World.size_alloc, World.size_setCell, World.size_drew]; omega) | (simp; done) | (simp; omega))) | with_reducible refine Below.drew ?_ | with_reducible refine below_drewN ?_ _)))))).mono ?_; rintro e' w' ⟨rfl, rfl⟩)
                refine thenS_normal HS0.out (fun _ => ?_)
                (refine At.take 21 (v := .int .i64 ((d2 : Int) + 1)) rfl (by decide) (by kernel_rfl) (by kernel_rfl) HS0.out (Or.inl ⟨by rfl, fun w hw => (by go_simp; try (simp (disch := omega) only [IntWalk.i64_in, IntWalk.u8_in, IntWalk.u16_in, IntWalk.u32_in, IntWalk.u64_in]); try omega)⟩) ?_; simp only [Act.put, List.setIfInBounds_toArray, List.set_cons_zero, List.set_cons_succ])
                (refine At.take 22 (v := .int .i64 d2) rfl (by decide) (by kernel_rfl) (by kernel_rfl) HS0.out (Or.inl ⟨by rfl, fun w hw => (by go_simp; try (simp (disch := omega) only [IntWalk.i64_in, IntWalk.u8_in, IntWalk.u16_in, IntWalk.u32_in, IntWalk.u64_in]); try omega)⟩) ?_; simp only [Act.put, List.setIfInBounds_toArray, List.set_cons_zero, List.set_cons_succ])
                (refine At.take 23 (v := .int .u8 d2) rfl (by decide) (by kernel_rfl) (by kernel_rfl) HS0.out (Or.inl ⟨by rfl, fun w hw => (by go_simp; try (simp (disch := omega) only [IntWalk.i64_in, IntWalk.u8_in, IntWalk.u16_in, IntWalk.u32_in, IntWalk.u64_in]); try omega)⟩) ?_; simp only [Act.put, List.setIfInBounds_toArray, List.set_cons_zero, List.set_cons_succ])
                (refine At.force 25 rfl (by decide) (by kernel_rfl) ?_)
                gi_wp2
                refine thenS_normal (by simpa [go_sem] using hb2_q2) (fun _ => ?_)
                refine At.tail (by kernel_rfl) ?_
                simp only [List.drop_succ_cons, List.drop_zero]
                gi_wp2
                refine NoPanic.normal ?_
                have m0 : (((w2.setCell ⟨wr.heap.size, 1, none⟩ (.int .u8 d1)).setCell ⟨wr.heap.size, 2, none⟩ (.int .u8 d2)).drew).cell? ⟨wr.heap.size, 0, none⟩ = some (.int .u16 y.code) := by simpa [go_sem] using hb2_q0
                have m1 : (((w2.setCell ⟨wr.heap.size, 1, none⟩ (.int .u8 d1)).setCell ⟨wr.heap.size, 2, none⟩ (.int .u8 d2)).drew).cell? ⟨wr.heap.size, 1, none⟩ = some (.int .u8 d1) := by simp [go_sem, hb2_q1]
                have m2 : (((w2.setCell ⟨wr.heap.size, 1, none⟩ (.int .u8 d1)).setCell ⟨wr.heap.size, 2, none⟩ (.int .u8 d2)).drew).cell? ⟨wr.heap.size, 2, none⟩ = some (.int .u8 d2) := by simp [go_sem, hb2_q2]
                have m3 : (((w2.setCell ⟨wr.heap.size, 1, none⟩ (.int .u8 d1)).setCell ⟨wr.heap.size, 2, none⟩ (.int .u8 d2)).drew).cell? ⟨wr.heap.size, 3, none⟩ = some (.int .u32 y.k) := by simpa [go_sem] using hb2_q3
                have HB5 := Lib.hid (show Below wr.heap.size wr (((w2.setCell ⟨wr.heap.size, 1, none⟩ (.int .u8 d1)).setCell ⟨wr.heap.size, 2, none⟩ (.int .u8 d2)).drew) from ((HB2.out.setCell (Nat.le_refl _) _).setCell (Nat.le_refl _) _).drew)
                have hz5 : wr.heap.size < (((w2.setCell ⟨wr.heap.size, 1, none⟩ (.int .u8 d1)).setCell ⟨wr.heap.size, 2, none⟩ (.int .u8 d2)).drew).heap.size := by simp; omega
                generalize ((w2.setCell ⟨wr.heap.size, 1, none⟩ (.int .u8 d1)).setCell ⟨wr.heap.size, 2, none⟩ (.int .u8 d2)).drew = W5 at *
                have HF5 := Lib.hid (HFI.out.step HB5.out)
                have HOWN5 := Lib.hid (HOWN.out.below HB5.out (Nat.le_refl _))
                go_wp2_with (at_builtin; refine wpList_append_L EI 36 24 rfl (.tmp 101) (.tmp 103) rfl _ 8 Try.underlying24 info_insn rfl (by decide) _ (sg + 1) R c out rfl (HOWN5.out.below (B := W5.heap.size) (by (repeat (first | with_reducible exact Below.refl _ _ | with_reducible assumption | ((with_reducible refine Below.setCell ?_ ?hp _); case hp => (first | omega | (simp only [World.size_alloc, World.size_setCell, World.size_drew]; omega) | (simp; done) | (simp; omega))) | ((with_reducible refine Below.alloc ?_ ?hp _); case hp => (first | omega | (simp only [World.size_alloc, World.size_setCell, World.size_drew]; omega) | (simp; done) | (simp; omega))) | with_reducible refine Below.drew ?_ | with_reducible refine below_drewN ?_ _))) (Nat.le_refl _)) (some ⟨W5.heap.size, 0, none⟩) 1 [⟨y.code, d1, d2, y.k⟩] rfl (Enc.Rd.one_at EI _ _ _ _ (by simp [EI, Insn.cells] <;> omega) _ (by simp)) (by show out.length + 1 ≤ _; omega) (by decide) (by simp <;> omega) ?_; intro R3 c3 w3 hown3 hg3 hat3; have HO3 := Lib.hid hown3; have HF3 := Lib.hid ((HF5.out.step (by (repeat (first | with_reducible exact Below.refl _ _ | with_reducible assumption | ((with_reducible refine Below.setCell ?_ ?hp _); case hp => (first | omega | (simp only [World.size_alloc, World.size_setCell, World.size_drew]; omega) | (simp; done) | (simp; omega))) | ((with_reducible refine Below.alloc ?_ ?hp _); case hp => (first | omega | (simp only [World.size_alloc, World.size_setCell, World.size_drew]; omega) | (simp; done) | (simp; omega))) | with_reducible refine Below.drew ?_ | with_reducible refine below_drewN ?_ _)))).grown hg3 (fun q hq => by have := (World.ownsRow.lt HOWN.out q hq).1; omega)); clear hown3 hg3 hat3)
                go_roundw
                case rel =>
                  refine ⟨k + 1, R3, c3, by omega, by go_num, ?_, HF3.out, ?_⟩
                  · rw [HFT.out, HST.out, HMV.out, if_pos rfl, List.length_append]; rfl
                  · rw [HFT.out, HST.out, HMV.out, if_pos rfl]; exact HO3.out
                case measure => simp [intOf]; omega
              · have HT := Lib.hid (show isTest (ins l k) = false by simpa using ht)
                clear ht
                have HMV := Lib.hid (moved_else HJ.out HT.out)
                rw [← hfl] at hal
                clear hfl
                generalize hy : ins l k = y at *
                clear hy
                generalize fourthTo l k = out at *
                go_wp2_with (first
                  | (go_at_call 100; refine (rtests_any y HOK.out _).mono ?_; rw [HT.out]; rintro e' w2 ⟨rfl, hb2⟩; have HB2 := Lib.hid (Below.trans (show Below wr.heap.size wr _ by (repeat (first | with_reducible exact Below.refl _ _ | with_reducible assumption | ((with_reducible refine Below.setCell ?_ ?hp _); case hp => (first | omega | (simp only [World.size_alloc, World.size_setCell, World.size_drew]; omega) | (simp; done) | (simp; omega))) | ((with_reducible refine Below.alloc ?_ ?hp _); case hp => (first | omega | (simp only [World.size_alloc, World.size_setCell, World.size_drew]; omega) | (simp; done) | (simp; omega))) | with_reducible refine Below.drew ?_ | with_reducible refine below_drewN ?_ _))) (hb2.mono (by (first | omega | (simp only [World.size_alloc, World.size_setCell, World.size_drew]; omega) | (simp; done) | (simp; omega))))); (obtain ⟨hb2_c, hb2_f⟩ := bcell hb2; have hb2_z := (hb2).size; have hb2_0 : Below wr.heap.size wr _ := Below.trans (by (repeat (first | with_reducible exact Below.refl _ _ | with_reducible assumption | ((with_reducible refine Below.setCell ?_ ?hp _); case hp => (first | omega | (simp only [World.size_alloc, World.size_setCell, World.size_drew]; omega) | (simp; done) | (simp; omega))) | ((with_reducible refine Below.alloc ?_ ?hp _); case hp => (first | omega | (simp only [World.size_alloc, World.size_setCell, World.size_drew]; omega) | (simp; done) | (simp; omega))) | with_reducible refine Below.drew ?_ | with_reducible refine below_drewN ?_ _))) ((hb2).mono (by (first | omega | (simp only [World.size_alloc, World.size_setCell, World.size_drew]; omega) | (simp; done) | (simp; omega)))); (try simp only [World.size_alloc, World.size_setCell, World.size_drew] at hb2_z hb2_c hb2_f); clear hb2); (have hb2_q0 := hb2_c (wr.heap.size) 0 (by omega); simp [go_sem] at hb2_q0; have hb2_q1 := hb2_c (wr.heap.size) 1 (by omega); simp [go_sem] at hb2_q1; have hb2_q2 := hb2_c (wr.heap.size) 2 (by omega); simp [go_sem] at hb2_q2; have hb2_q3 := hb2_c (wr.heap.size) 3 (by omega); simp [go_sem] at hb2_q3); have HF5 := Lib.hid (HFI.out.step HB2.out); have HOWN5 := Lib.hid (HOWN.out.below HB2.out (Nat.le_refl _)))
                  | (at_builtin; refine wpList_append_L EI 36 24 rfl (.tmp 101) (.tmp 103) rfl _ 8 Try.underlying24 info_insn rfl (by decide) _ (sg + 1) R c out rfl (HOWN5.out.below (B := w2.heap.size) (by (repeat (first | with_reducible exact Below.refl _ _ | with_reducible assumption | ((with_reducible refine Below.setCell ?_ ?hp _); case hp => (first | omega | (simp only [World.size_alloc, World.size_setCell, World.size_drew]; omega) | (simp; done) | (simp; omega))) | ((with_reducible refine Below.alloc ?_ ?hp _); case hp => (first | omega | (simp only [World.size_alloc, World.size_setCell, World.size_drew]; omega) | (simp; done) | (simp; omega))) | with_reducible refine Below.drew ?_ | with_reducible refine below_drewN ?_ _))) (Nat.le_refl _)) (some ⟨w2.heap.size, 0, none⟩) 1 [y] rfl (Enc.Rd.one_at EI _ _ _ _ (by simp [EI, Insn.cells] <;> omega) _ (by simp)) (by show out.length + 1 ≤ _; omega) (by decide) (by simp <;> omega) ?_; intro R3 c3 w3 hown3 hg3 hat3; have HO3 := Lib.hid hown3; have HF3 := Lib.hid ((HF5.out.step (by (repeat (first | with_reducible exact Below.refl _ _ | with_reducible assumption | ((with_reducible refine Below.setCell ?_ ?hp _); case hp => (first | omega | (simp only [World.size_alloc, World.size_setCell, World.size_drew]; omega) | (simp; done) | (simp; omega))) | ((with_reducible refine Below.alloc ?_ ?hp _); case hp => (first | omega | (simp only [World.size_alloc, World.size_setCell, World.size_drew]; omega) | (simp; done) | (simp; omega))) | with_reducible refine Below.drew ?_ | with_reducible refine below_drewN ?_ _)))).grown hg3 (fun q hq => by have := (World.ownsRow.lt HOWN.out q hq).1; omega)); clear hown3 hg3 hat3))
                go_roundw
                case rel =>
                  refine ⟨k + 1, R3, c3, by omega, by go_num, ?_, HF3.out, ?_⟩
                  · rw [HFT.out, HST.out, HMV.out, if_pos rfl, List.length_append]; rfl
                  · rw [HFT.out, HST.out, HMV.out, if_pos rfl]; exact HO3.out
                case measure => simp [intOf]; omega
          · have hst' : stay l k = false := by simpa using hst
            rw [hst'] at hsc
            have HST := Lib.hid hst'
            clear hst hst'
            go_wp2
            go_roundw
            case rel =>
              refine ⟨k + 1, R, c, by omega, by go_num, ?_, HFI.out.step (by (repeat (first | with_reducible exact Below.refl _ _ | with_reducible assumption | ((with_reducible refine Below.setCell ?_ ?hp _); case hp => (first | omega | (simp only [World.size_alloc, World.size_setCell, World.size_drew]; omega) | (simp; done) | (simp; omega))) | ((with_reducible refine Below.alloc ?_ ?hp _); case hp => (first | omega | (simp only [World.size_alloc, World.size_setCell, World.size_drew]; omega) | (simp; done) | (simp; omega))) | with_reducible refine Below.drew ?_ | with_reducible refine below_drewN ?_ _))), ?_⟩
              · rw [HFT.out, HST.out]; rfl
              · rw [HFT.out, HST.out]; exact HOWN.out.below (B := wr.heap.size) (by (repeat (first | with_reducible exact Below.refl _ _ | with_reducible assumption | ((with_reducible refine Below.setCell ?_ ?hp _); case hp => (first | omega | (simp only [World.size_alloc, World.size_setCell, World.size_drew]; omega) | (simp; done) | (simp; omega))) | ((with_reducible refine Below.alloc ?_ ?hp _); case hp => (first | omega | (simp only [World.size_alloc, World.size_setCell, World.size_drew]; omega) | (simp; done) | (simp; omega))) | with_reducible refine Below.drew ?_ | with_reducible refine below_drewN ?_ _))) (Nat.le_refl _)
            case measure => simp [intOf]; omega
        · have hk' : k = l.length := by omega
          subst hk'
          go_wp2
          go_ret
          exact ⟨R, c, rfl, HOWN.out.mono (by have := HFI.out.bools.lt.1; omega), HFI.out.below⟩
end Go.Proofs.Ytfjbanfibmpalaa

/- Contracts: wicketgateref22.Once, wicketgateref22.Prune. -/
set_option linter.unusedVariables false
set_option linter.unusedSimpArgs false
namespace Go.Proofs.Ytfjbanfibmpalaa
open Go.RowKit Go.Shelf
attribute [local go_sem ↓] Go.wp_at_zero Go.wp_at_succ

theorem fourth_ok {l : List Insn} (h : Good l) : ∀ x ∈ fourthL l, x.Ok := by
  intro x hx
  unfold fourthL fourthTo at hx
  obtain ⟨i, hi, rfl⟩ := List.mem_map.1 hx
  exact moved_ok h (List.mem_range.1 (List.mem_filter.1 hi).1)
theorem map_bare (f : List Insn) : (List.range f.length).map (fun i => bare (ins f i)) = f.map bare := by
  refine List.ext_getElem (by simp) ?_
  intro i h1 h2
  have hi : i < f.length := by simpa using h1
  simp [ins, hi]

set_option maxRecDepth 100000 in
set_option maxHeartbeats 1000000 in
theorem ronce_any (A : Option Addr) (cap : Nat) (l : List Insn) (w : World) (hl : RdP w A l) (hg : Good l) :
    Calls Try.prog 24 #[.slice A l.length cap] w fun e w' => ∃ R c, e = .returned (.slice R (onceL l).length c) ∧ EI.Own 36 w' w.heap.size R c (onceL l) ∧ Below w.heap.size w w' := by
  have g1 := give_good hg
  have g2 := lead_good g1
  have g3 := level_good g2
  have n1 := giveL_len l
  have n2 := leadL_len (giveL l)
  have n3 := levelL_len (leadL (giveL l))
  have HG1 := Lib.hid g1
  have HG2 := Lib.hid g2
  have HG3 := Lib.hid g3
  have C1 := Lib.hid (first_any A cap l w hl hg)
  have C2 := Lib.hid (fun R c W (h : RdP W R (giveL l)) => second_any R c (giveL l) W h g1)
  have C3 := Lib.hid (fun R c W (h : RdP W R (leadL (giveL l))) => third_any R c (leadL (giveL l)) W h g2)
  have C4 := Lib.hid (fun R c W (h : RdP W R (levelL (leadL (giveL l)))) => fourth_any R c (levelL (leadL (giveL l))) W h g3)
  rw [n1] at C2
  rw [n2, n1] at C3
  rw [n3, n2, n1] at C4
  have HO := Lib.hid (show onceL l = (fourthL (levelL (leadL (giveL l)))).map bare by rw [fourth_leave]; rfl)
  have hok := fourth_ok g3
  have hfl : (fourthL (levelL (leadL (giveL l)))).length ≤ 64 := by
    have h1 := (leave_good g3).1.len
    rw [← fourth_leave, List.length_map] at h1
    exact h1.2
  clear hg hl g1 g2 g3 n1 n2 n3
  go_enter Try.func24, Try.ntmps24
  have HOK := Lib.hid hok
  clear hok
  generalize hfo : fourthL (levelL (leadL (giveL l))) = fo at *
  have HFO := Lib.hid hfo
  clear hfo
  go_wp2_with (first
    | (go_at_call 62; refine C1.out.mono ?_; rintro e w1 ⟨R1, c1, rfl, ho, hb1⟩; have HO1 := Lib.hid ho; have HB1 := Lib.hid hb1; clear ho hb1)
    | (go_at_call 61; refine (C2.out R1 c1 w1 (HG1.out.rdp HO1.out)).mono ?_; rintro e w2 ⟨R2, c2, rfl, ho, hb2⟩; have HO2 := Lib.hid ho; have HB2 := Lib.hid (HB1.out.trans (hb2.mono HB1.out.size)); clear ho hb2)
    | (go_at_call 60; refine (C3.out R2 c2 w2 (HG2.out.rdp HO2.out)).mono ?_; rintro e w3 ⟨R3, c3, rfl, ho, hb3⟩; have HO3 := Lib.hid ho; have HB3 := Lib.hid (HB2.out.trans (hb3.mono HB2.out.size)); clear ho hb3)
    | (go_at_call 59; refine (C4.out R3 c3 w3 (HG3.out.rdp HO3.out)).mono ?_; rintro e w4 ⟨R4, c4, rfl, ho, hb4⟩; have HO4 := Lib.hid (ho.mono HB3.out.size); have HB4 := Lib.hid (HB3.out.trans (hb4.mono HB3.out.size)); clear ho hb4))
  go_loopw [12] (fun i wr => ∃ k : Nat, k ≤ fo.length ∧ i = .int .i64 k ∧ EI.Own 36 wr w.heap.size R4 c4 (mix (fun i => bare (ins fo i)) fo k) ∧ Below w.heap.size w wr) (fun i _ => fo.length - (intOf i).toNat)
  case atStart => exact ⟨0, Nat.zero_le _, rfl, by rw [mix_zero]; exact HO4.out, HB4.out⟩
  case round =>
    obtain ⟨k, hk, rfl, ho, hb⟩ := hrel
    have hml := mix_len (fun i => bare (ins fo i)) fo k
    by_cases hlt : k < fo.length
    · obtain ⟨g, rfl, hg1, hg2⟩ := ho.form (by intro e; rw [e] at hml; simp at hml; omega)
      have hkm : k < (mix (fun i => bare (ins fo i)) fo k).length := by rw [hml]; exact hlt
      obtain ⟨z0, z1, z2, z3⟩ := own_iat ho k hkm
      obtain ⟨f0, f1, f2, f3⟩ := own_frozen4 ho k
      have HMG := Lib.hid (mix_get (fun i => bare (ins fo i)) fo k hkm)
      rw [HMG.out] at z0 z1 z2 z3
      have hx : (ins fo k).Ok := by rw [at_get fo k hlt]; exact HOK.out _ (List.getElem_mem hlt)
      have HX := Lib.hid hx
      have HOW := Lib.hid ho
      have HB := Lib.hid hb
      clear hx ho hb HO4 HB4 hml
      have i1 : (0 : Int) ≤ (k : Int) := by omega
      have i2 : (k : Int) < (fo.length : Int) := by omega
      generalize hy : ins fo k = y at *
      have HY := Lib.hid hy
      clear hy
      go_wp2_with (go_at_call 63; refine (rbare_any y HX.out wr).mono ?_; rintro e w5 ⟨rfl, hb5⟩; have HB5 := Lib.hid hb5; have HOW5 := Lib.hid (HOW.out.below hb5 (Nat.le_refl _)); obtain ⟨f0', f1', f2', f3'⟩ := own_frozen4 HOW5.out k; obtain ⟨z0', z1', z2', z3'⟩ := (own_iat HOW.out k hkm).keep (fun o => hb5.cell (p := ⟨g, o, none⟩) hg2); rw [HMG.out] at z0' z1' z2' z3'; clear hb5)
      go_roundw
      case rel =>
        refine ⟨k + 1, by omega, by go_num, ?_, by have h1 := HB.out.trans (HB5.out.mono HB.out.size); (repeat (first | with_reducible exact Below.refl _ _ | with_reducible assumption | ((with_reducible refine Below.setCell ?_ ?hp _); case hp => (first | omega | (simp only [World.size_alloc, World.size_setCell, World.size_drew]; omega) | (simp; done) | (simp; omega))) | ((with_reducible refine Below.alloc ?_ ?hp _); case hp => (first | omega | (simp only [World.size_alloc, World.size_setCell, World.size_drew]; omega) | (simp; done) | (simp; omega))) | with_reducible refine Below.drew ?_ | with_reducible refine below_drewN ?_ _))⟩
        rw [← mix_set, HY.out]
        exact own_put HOW5.out k hkm (bare y)
      case measure => simp [intOf]; omega
    · have hk' : k = fo.length := by omega
      subst hk'
      have HOW := Lib.hid ho
      have HB := Lib.hid hb
      clear ho hb HO4 HB4
      go_wp2
      go_ret
      have h := HOW.out
      rw [mix_all, map_bare, ← HO.out] at h
      have e : fo.length = (onceL l).length := by rw [HO.out, List.length_map]
      rw [e]
      exact ⟨R4, c4, rfl, h, HB.out⟩

set_option maxRecDepth 100000 in
set_option maxHeartbeats 1000000 in
theorem rprune_any (A : Option Addr) (cap : Nat) (l : List Insn) (w : World) (hl : RdP w A l) (hg : Good l) :
    Calls Try.prog 25 #[.slice A l.length cap] w fun e w' => ∃ R c, e = .returned (.slice R (pruneL l).length c) ∧ EI.Own 36 w' w.heap.size R c (pruneL l) ∧ Below w.heap.size w w' := by
  have HG := Lib.hid hg
  have HL := Lib.hid hl
  clear hg hl
  go_enter Try.func25, Try.ntmps25
  go_wp2
  go_loopg [0] (meas l) (fun k p wr => ∃ (lk : List Insn) (R : Option Addr) (c : Nat), p = .slice R lk.length c ∧ RdP wr R lk ∧ Good lk ∧ meas lk ≤ k ∧ pruneL lk = pruneL l ∧ Below w.heap.size w wr)
  case atStart => exact ⟨l, A, cap, rfl, HL.out, HG.out, Nat.le_refl _, rfl, Below.refl _ _⟩
  case round =>
    obtain ⟨lk, R, c, rfl, hlk, hgk, hmk, hpk, hb⟩ := hrel
    have HGK := Lib.hid hgk
    have HLK := Lib.hid hlk
    have HMK := Lib.hid hmk
    have HPK := Lib.hid hpk
    have HB := Lib.hid hb
    have g1 := once_good hgk
    have HG1 := Lib.hid g1
    have HC := Lib.hid (ronce_any R c lk wr hlk hgk)
    clear hgk hlk hmk hpk hb g1
    by_cases hfix : lk = onceL lk
    · have e1 : decide (lk = onceL lk) = true := decide_eq_true hfix
      have HE := Lib.hid e1
      have HF := Lib.hid hfix
      clear e1 hfix
      go_wp2_with (first
        | (go_at_call 24; refine HC.out.mono ?_; rintro e w1 ⟨R1, c1, rfl, ho, hb1⟩; have HO1 := Lib.hid ho; have HB1 := Lib.hid hb1; clear ho hb1)
        | (go_at_call 22; refine (rsame_any R R1 c c1 lk (onceL lk) w1 (HLK.out.below HB1.out (Nat.le_refl _)) (HG1.out.rdp HO1.out)).mono ?_; rw [HE.out]; rintro e w2 ⟨rfl, hb2⟩; have HO2 := Lib.hid ((HO1.out.below hb2 (Nat.le_refl _)).mono HB.out.size); have HB2 := Lib.hid (HB.out.trans ((HB1.out.trans (hb2.mono HB1.out.size)).mono HB.out.size)); clear hb2))
      go_ret
      have hp : pruneL l = onceL lk := by rw [← HPK.out, prune_fixed HF.out.symm]; exact HF.out
      rw [hp]
      exact ⟨R1, c1, rfl, HO2.out, HB2.out⟩
    · have e1 : decide (lk = onceL lk) = false := decide_eq_false hfix
      have HE := Lib.hid e1
      have HF := Lib.hid (show onceL lk ≠ lk from fun e => hfix e.symm)
      clear e1 hfix
      go_wp2_with (first
        | (go_at_call 24; refine HC.out.mono ?_; rintro e w1 ⟨R1, c1, rfl, ho, hb1⟩; have HO1 := Lib.hid ho; have HB1 := Lib.hid hb1; clear ho hb1)
        | (go_at_call 22; refine (rsame_any R R1 c c1 lk (onceL lk) w1 (HLK.out.below HB1.out (Nat.le_refl _)) (HG1.out.rdp HO1.out)).mono ?_; rw [HE.out]; rintro e w2 ⟨rfl, hb2⟩; have HO2 := Lib.hid (HO1.out.below hb2 (Nat.le_refl _)); have HB2 := Lib.hid (HB.out.trans ((HB1.out.trans (hb2.mono HB1.out.size)).mono HB.out.size)); clear hb2))
      have hm := meas_lt HGK.out HF.out
      go_roundg (meas (onceL lk))
      case measure => have := HMK.out; omega
      case rel => exact ⟨onceL lk, R1, c1, rfl, HG1.out.rdp HO2.out, HG1.out, Nat.le_refl _, by rw [prune_once HGK.out, HPK.out], HB2.out⟩
end Go.Proofs.Ytfjbanfibmpalaa

/- The walk of the law PruneDoes. -/
import Derived.Test.YtfjbanfibmpalaaK42
set_option linter.unusedVariables false
set_option linter.unusedSimpArgs false
namespace Go.Proofs.Ytfjbanfibmpalaa
open Go.RowKit Go.Shelf
attribute [local go_sem ↓] Go.wp_at_zero Go.wp_at_succ

/-- A row of programs that came in. -/
structure InRows (w : World) (A : Option Addr) (n : Nat) : Prop where
  at_ : n ≠ 0 → ∃ b o, A = some ⟨b, o, none⟩ ∧ b < w.heap.size ∧ ∀ i, i < n → ∃ (Ai : Option Addr) (ci : Nat) (li : List Insn), w.cell? ⟨b, o + i, none⟩ = some (.slice Ai li.length ci) ∧ In w Ai ci li

theorem InRows.get {w W : World} {A : Option Addr} {n : Nat} (h : InRows w A n) (hb : Below w.heap.size w W) {i : Nat} (hi : i < n) :
    ∃ b o, A = some ⟨b, o, none⟩ ∧ b < W.heap.size ∧ ∃ (Ai : Option Addr) (ci : Nat) (li : List Insn), W.cell? ⟨b, o + i, none⟩ = some (.slice Ai li.length ci) ∧ In W Ai ci li := by
  obtain ⟨b, o, rfl, hlt, hc⟩ := h.at_ (by omega)
  obtain ⟨Ai, ci, li, h1, h2⟩ := hc i hi
  exact ⟨b, o, rfl, Nat.lt_of_lt_of_le hlt hb.size, Ai, ci, li, (hb.cell (p := ⟨b, o + i, none⟩) hlt).trans h1, h2.later hb⟩

set_option maxRecDepth 100000 in
set_option maxHeartbeats 4000000 in
theorem pdoes_any (A : Option Addr) (n cap : Nat) (w : World) (ha : InRows w A n) (hn : n ≤ 9223372036854775807) :
    Calls Try.prog 3 #[.slice A n cap] w fun e w' => e = .returned (.bool true) ∧ Below w.heap.size w w' := by
  have HIA := Lib.hid ha
  clear ha
  go_enter Try.func3, Try.ntmps3
  go_wp2_with (go_at_call 17; refine (wakes22_any w).mono ?_; rintro e w1 ⟨rfl, hb⟩; have H1 := Lib.hid hb; clear hb)
  go_loopw [19] (fun i wr => ∃ k : Nat, k ≤ n ∧ k ≤ 6 ∧ i = .int .i64 k ∧ Below w.heap.size w wr) (fun i _ => n - (intOf i).toNat)
  case atStart => exact ⟨0, Nat.zero_le _, by omega, rfl, H1.out⟩
  case round =>
    obtain ⟨k, hk, hk6, rfl, hbw⟩ := hrel
    have HBW := Lib.hid hbw
    by_cases hlt : k < n
    · obtain ⟨rb, ro, rfl, hrb, Ai, ci, li, hcell, hin⟩ := HIA.out.get hbw hlt
      have i1 : (0 : Int) ≤ (k : Int) := by omega
      have i2 : (k : Int) < (n : Int) := by omega
      by_cases hk7 : k = 6
      · subst hk7
        go_wp2
        go_ret
        exact ⟨rfl, HBW.out⟩
      · have e6 : ((k : Int) == 6) = false := by rw [beq_eq_false_iff_ne]; omega
        have HIN := Lib.hid hin
        have HFX := Lib.hid (fun W (h : In W Ai ci li) => few_in Ai ci li W h)
        have HTX := Lib.hid (fun w' base R c (h : EI.Own 36 w' base R c (li.take 65)) => take_rdp hin.rd h)
        have hgood := fun (h : (check (li.take 65)).2 = 0) => take_good hin h
        have HGD := Lib.hid hgood
        have hk8 : k + 1 ≤ 6 := by omega
        clear hbw hin hgood H1 hk7
        generalize li.take 65 = l at *
        by_cases hc : (check l).2 = 0
        · have HG := Lib.hid (HGD.out hc)
          have HCG := Lib.hid hc
          have HG1 := Lib.hid (once_good (HGD.out hc))
          have HG2 := Lib.hid (prune_facts (HGD.out hc)).1
          have hna := (once_good (HGD.out hc)).len
          have hnb := (prune_facts (HGD.out hc)).1.len
          clear hc
          generalize hd : decide (l = onceL l) = d
          have HD := Lib.hid hd
          clear hd
          obtain ⟨wo, rfl⟩ : ∃ wo : World, wo = wr := ⟨_, rfl⟩
          have HTAIL : True := trivial
          cases d
          all_goals
            have tk1 : True := trivial
            go_wp2_with (first
              | (go_at_call 18; have _t := tk1; refine (HFX.out wo HIN.out).mono ?_;  rintro e v1 ⟨Rl, cl, rfl, ho, hb⟩; have HBW1 := Lib.hid (HBW.out.trans (hb.mono HBW.out.size)); have HL1 := Lib.hid (HTX.out _ _ _ _ ho); have HIN2 := Lib.hid (HIN.out.later hb); clear ho; clear hb tk1; have tk2 : True := trivial)
              | (go_at_call 18; have _t := tk2; refine (HFX.out v1 HIN2.out).mono ?_;  rintro e v2 ⟨Rw, cw, rfl, ho, hb⟩; have HL2 := Lib.hid (HL1.out.below hb (Nat.le_refl _)); have HBW2 := Lib.hid (HBW1.out.trans (hb.mono HBW1.out.size)); have HS2 := Lib.hid (HTX.out _ _ _ _ ho); clear ho; clear hb tk2; have tk3 : True := trivial)
              | (go_at_call 19; have _t := tk3; refine (ponce_good Rl cl l v2 HL2.out HG.out).mono ?_;  rintro e v3 ⟨Ra, ca, rfl, ho, hb⟩; have HL3 := Lib.hid (HL2.out.below hb (Nat.le_refl _)); have HS3 := Lib.hid (HS2.out.below hb (Nat.le_refl _)); have HBW3 := Lib.hid (HBW2.out.trans (hb.mono HBW2.out.size)); have HOA3 := Lib.hid ho; have HZ3 := Lib.hid hb; clear ho; clear hb tk3; have tk4 : True := trivial)
              | (go_at_call 20; have _t := tk4; refine (pprune_good Rl cl l v3 HL3.out HG.out).mono ?_;  rintro e v4 ⟨Rb, cb, rfl, ho, hb⟩; have HL4 := Lib.hid (HL3.out.below hb (Nat.le_refl _)); have HS4 := Lib.hid (HS3.out.below hb (Nat.le_refl _)); have HOA4 := Lib.hid (HOA3.out.below hb (Nat.le_refl _)); have HBW4 := Lib.hid (HBW3.out.trans (hb.mono HBW3.out.size)); have HOB4 := Lib.hid ho; have HZ4 := Lib.hid (HZ3.out.trans (hb.mono HZ3.out.size)); clear ho; clear hb tk4; have tk5 : True := trivial)
              | (go_at_call 21; have _t := tk5; refine (rcheck_any Rw cw l v4 HS4.out).mono ?_; rw [HCG.out]; rintro e v5 ⟨rfl, hb⟩; have HL5 := Lib.hid (HL4.out.below hb (Nat.le_refl _)); have HS5 := Lib.hid (HS4.out.below hb (Nat.le_refl _)); have HOA5 := Lib.hid (HOA4.out.below hb (Nat.le_refl _)); have HOB5 := Lib.hid (HOB4.out.below hb (Nat.le_refl _)); have HBW5 := Lib.hid (HBW4.out.trans (hb.mono HBW4.out.size)); have HZ5 := Lib.hid (HZ4.out.trans (hb.mono HZ4.out.size)); clear hb tk5; have tk6 : True := trivial)
              | (go_at_call 22; have _t := tk6; refine (rsame_any Rl Rw cl cw l l v5 HL5.out HS5.out).mono ?_; rw [decide_eq_true rfl]; rintro e v6 ⟨rfl, hb⟩; have HL6 := Lib.hid (HL5.out.below hb (Nat.le_refl _)); have HS6 := Lib.hid (HS5.out.below hb (Nat.le_refl _)); have HOA6 := Lib.hid (HOA5.out.below hb (Nat.le_refl _)); have HOB6 := Lib.hid (HOB5.out.below hb (Nat.le_refl _)); have HBW6 := Lib.hid (HBW5.out.trans (hb.mono HBW5.out.size)); have HZ6 := Lib.hid (HZ5.out.trans (hb.mono HZ5.out.size)); clear hb tk6; have tk7 : True := trivial)
              | (go_at_call 24; have _t := tk7; refine (ronce_any Rw cw l v6 HS6.out HG.out).mono ?_;  rintro e v7 ⟨Ro, co, rfl, ho, hb⟩; have HL7 := Lib.hid (HL6.out.below hb (Nat.le_refl _)); have HS7 := Lib.hid (HS6.out.below hb (Nat.le_refl _)); have HOA7 := Lib.hid (HOA6.out.below hb (Nat.le_refl _)); have HOB7 := Lib.hid (HOB6.out.below hb (Nat.le_refl _)); have HBW7 := Lib.hid (HBW6.out.trans (hb.mono HBW6.out.size)); have HRO7 := Lib.hid (HG1.out.rdp ho); clear ho; have HZ7 := Lib.hid (HZ6.out.trans (hb.mono HZ6.out.size)); clear hb tk7; have tk8 : True := trivial)
              | (go_at_call 22; have _t := tk8; refine (rsame_any Ra Ro ca co (onceL l) (onceL l) v7 (HG1.out.rdp HOA7.out) HRO7.out).mono ?_; rw [decide_eq_true rfl]; rintro e v8 ⟨rfl, hb⟩; have HL8 := Lib.hid (HL7.out.below hb (Nat.le_refl _)); have HS8 := Lib.hid (HS7.out.below hb (Nat.le_refl _)); have HOA8 := Lib.hid (HOA7.out.below hb (Nat.le_refl _)); have HOB8 := Lib.hid (HOB7.out.below hb (Nat.le_refl _)); have HRO8 := Lib.hid (HRO7.out.below hb (Nat.le_refl _)); have HBW8 := Lib.hid (HBW7.out.trans (hb.mono HBW7.out.size)); have HZ8 := Lib.hid (HZ7.out.trans (hb.mono HZ7.out.size)); clear hb tk8; have tk9 : True := trivial)
              | (go_at_call 25; have _t := tk9; refine (rprune_any Rw cw l v8 HS8.out HG.out).mono ?_;  rintro e v9 ⟨Rp, cp, rfl, ho, hb⟩; have HL9 := Lib.hid (HL8.out.below hb (Nat.le_refl _)); have HS9 := Lib.hid (HS8.out.below hb (Nat.le_refl _)); have HOA9 := Lib.hid (HOA8.out.below hb (Nat.le_refl _)); have HOB9 := Lib.hid (HOB8.out.below hb (Nat.le_refl _)); have HRO9 := Lib.hid (HRO8.out.below hb (Nat.le_refl _)); have HBW9 := Lib.hid (HBW8.out.trans (hb.mono HBW8.out.size)); have HRP9 := Lib.hid (HG2.out.rdp ho); clear ho; have HZ9 := Lib.hid (HZ8.out.trans (hb.mono HZ8.out.size)); clear hb tk9; have tk10 : True := trivial)
              | (go_at_call 22; have _t := tk10; refine (rsame_any Rb Rp cb cp (pruneL l) (pruneL l) v9 (HG2.out.rdp HOB9.out) HRP9.out).mono ?_; rw [decide_eq_true rfl]; rintro e v10 ⟨rfl, hb⟩; have HL10 := Lib.hid (HL9.out.below hb (Nat.le_refl _)); have HS10 := Lib.hid (HS9.out.below hb (Nat.le_refl _)); have HOA10 := Lib.hid (HOA9.out.below hb (Nat.le_refl _)); have HOB10 := Lib.hid (HOB9.out.below hb (Nat.le_refl _)); have HRO10 := Lib.hid (HRO9.out.below hb (Nat.le_refl _)); have HRP10 := Lib.hid (HRP9.out.below hb (Nat.le_refl _)); have HBW10 := Lib.hid (HBW9.out.trans (hb.mono HBW9.out.size)); have HZ10 := Lib.hid (HZ9.out.trans (hb.mono HZ9.out.size)); clear hb tk10; have tk11 : True := trivial)
              | (go_at_call 23; have _t := tk11; refine (pruned_good Rl cl l v10 HL10.out HG.out).mono ?_; rw [HD.out]; rintro e v11 ⟨rfl, hb⟩; have HL11 := Lib.hid (HL10.out.below hb (Nat.le_refl _)); have HS11 := Lib.hid (HS10.out.below hb (Nat.le_refl _)); have HOA11 := Lib.hid (HOA10.out.below hb (Nat.le_refl _)); have HOB11 := Lib.hid (HOB10.out.below hb (Nat.le_refl _)); have HRO11 := Lib.hid (HRO10.out.below hb (Nat.le_refl _)); have HRP11 := Lib.hid (HRP10.out.below hb (Nat.le_refl _)); have HBW11 := Lib.hid (HBW10.out.trans (hb.mono HBW10.out.size)); have HZ11 := Lib.hid (HZ10.out.trans (hb.mono HZ10.out.size)); clear hb tk11; have tk12 : True := trivial)
              | (go_at_call 24; have _t := tk12; refine (ronce_any Rw cw l v11 HS11.out HG.out).mono ?_;  rintro e v12 ⟨Ro2, co2, rfl, ho, hb⟩; have HL12 := Lib.hid (HL11.out.below hb (Nat.le_refl _)); have HS12 := Lib.hid (HS11.out.below hb (Nat.le_refl _)); have HOA12 := Lib.hid (HOA11.out.below hb (Nat.le_refl _)); have HOB12 := Lib.hid (HOB11.out.below hb (Nat.le_refl _)); have HRO12 := Lib.hid (HRO11.out.below hb (Nat.le_refl _)); have HRP12 := Lib.hid (HRP11.out.below hb (Nat.le_refl _)); have HBW12 := Lib.hid (HBW11.out.trans (hb.mono HBW11.out.size)); have HRQ12 := Lib.hid (HG1.out.rdp ho); clear ho; have HZ12 := Lib.hid (HZ11.out.trans (hb.mono HZ11.out.size)); clear hb tk12; have tk13 : True := trivial)
              | (go_at_call 22; have _t := tk13; refine (rsame_any Rw Ro2 cw co2 l (onceL l) v12 HS12.out HRQ12.out).mono ?_; rw [HD.out]; rintro e v13 ⟨rfl, hb⟩; have HL13 := Lib.hid (HL12.out.below hb (Nat.le_refl _)); have HS13 := Lib.hid (HS12.out.below hb (Nat.le_refl _)); have HOA13 := Lib.hid (HOA12.out.below hb (Nat.le_refl _)); have HOB13 := Lib.hid (HOB12.out.below hb (Nat.le_refl _)); have HRO13 := Lib.hid (HRO12.out.below hb (Nat.le_refl _)); have HRP13 := Lib.hid (HRP12.out.below hb (Nat.le_refl _)); have HRQ13 := Lib.hid (HRQ12.out.below hb (Nat.le_refl _)); have HBW13 := Lib.hid (HBW12.out.trans (hb.mono HBW12.out.size)); have HZ13 := Lib.hid (HZ12.out.trans (hb.mono HZ12.out.size)); clear hb tk13; have tk14 : True := trivial))
            obtain ⟨ga, rfl, hga1, hga2⟩ := HOA3.out.form (by intro e; rw [e] at hna; simp at hna)
            obtain ⟨gb, rfl, hgb1, hgb2⟩ := HOB4.out.form (by intro e; rw [e] at hnb; simp at hnb)
            have hv23 : v2.heap.size ≤ v3.heap.size := HZ3.out.size
            go_loopw [94] (fun i wr2 => ∃ (q : Nat) (la : List Insn), q ≤ (onceL l).length ∧ i = .int .i64 q ∧ la.length = (onceL l).length ∧ EI.Own 36 wr2 v2.heap.size (some ⟨ga, 0, none⟩) ca la ∧ EI.Own 36 wr2 v3.heap.size (some ⟨gb, 0, none⟩) cb (pruneL l) ∧ Below v2.heap.size v2 wr2) (fun i _ => (onceL l).length - (intOf i).toNat)
            case atStart => exact ⟨0, onceL l, Nat.zero_le _, rfl, rfl, HOA13.out, HOB13.out, HZ13.out⟩
            case round =>
              obtain ⟨q, la, hq, rfl, hla, hoa, hob, hz⟩ := hrel
              have HLA := Lib.hid hla
              have HOAW := Lib.hid hoa
              have HOBW := Lib.hid hob
              have HZW := Lib.hid hz
              by_cases hql : q < (onceL l).length
              · have hqa : q < la.length := by omega
                obtain ⟨z0, z1, z2, z3⟩ := own_iat hoa q hqa
                obtain ⟨y0, y1, y2, y3⟩ := own_frozen4 hoa q
                have j1 : (0 : Int) ≤ (q : Int) := by omega
                have j2 : (q : Int) < ((onceL l).length : Int) := by omega
                clear hla hoa hob hz
                go_wp2
                go_roundw
                case rel => exact ⟨q + 1, _, by omega, by go_num, by rw [List.length_set]; exact HLA.out, own_put3 HOAW.out q hqa 99, HOBW.out.setCell_ne (fun g e => by cases e; show ga ≠ gb; omega) _, HZW.out.setCell hga1 _⟩
                case measure => simp [intOf]; omega
              · have hq' : q = (onceL l).length := by omega
                subst hq'
                clear hla hoa hob hz
                obtain ⟨wo2, rfl⟩ : ∃ wo2 : World, wo2 = wr := ⟨_, rfl⟩
                go_wp2
                go_loopw [104] (fun i wr3 => ∃ (q : Nat) (lb : List Insn), q ≤ (pruneL l).length ∧ i = .int .i64 q ∧ lb.length = (pruneL l).length ∧ EI.Own 36 wr3 v3.heap.size (some ⟨gb, 0, none⟩) cb lb ∧ Below v2.heap.size v2 wr3) (fun i _ => (pruneL l).length - (intOf i).toNat)
                case atStart => exact ⟨0, pruneL l, Nat.zero_le _, rfl, rfl, HOBW.out, HZW.out⟩
                case round =>
                  obtain ⟨q, lb, hq, rfl, hlb, hob, hz⟩ := hrel
                  have HLB := Lib.hid hlb
                  have HOB2 := Lib.hid hob
                  have HZ2 := Lib.hid hz
                  by_cases hql : q < (pruneL l).length
                  · have hqa : q < lb.length := by omega
                    obtain ⟨z0, z1, z2, z3⟩ := own_iat hob q hqa
                    obtain ⟨y0, y1, y2, y3⟩ := own_frozen4 hob q
                    have j1 : (0 : Int) ≤ (q : Int) := by omega
                    have j2 : (q : Int) < ((pruneL l).length : Int) := by omega
                    clear hlb hob hz
                    go_wp2
                    go_roundw
                    case rel => exact ⟨q + 1, _, by omega, by go_num, by rw [List.length_set]; exact HLB.out, own_put3 HOB2.out q hqa 99, HZ2.out.setCell (by show _ ≤ gb; omega) _⟩
                    case measure => simp [intOf]; omega
                  · have hq' : q = (pruneL l).length := by omega
                    subst hq'
                    clear hlb hob hz
                    go_wp2_with (go_at_call 22; refine (rsame_any Rl Rw cl cw l l wr (HL2.out.below HZ2.out (Nat.le_refl _)) (HS2.out.below HZ2.out (Nat.le_refl _))).mono ?_; rw [decide_eq_true rfl]; rintro e vE ⟨rfl, hb⟩; have HE := Lib.hid (HBW2.out.trans ((HZ2.out.trans (hb.mono HZ2.out.size)).mono HBW2.out.size)); clear hb)
                    go_roundw
                    case rel => exact ⟨k + 1, by omega, by omega, by go_num, HE.out⟩
                    case measure => simp [intOf]; omega
        · have e0 : ((check l).2 != 0) = true := by simpa using hc
          have e1 : ((check l).2 != (check l).2) = false := by simp
          have HC := Lib.hid hc
          clear hc
          have tk1 : True := trivial
          go_wp2_with (first
            | (go_at_call 18; have _t := tk1; refine (HFX.out wr HIN.out).mono ?_;  rintro e v1 ⟨Rl, cl, rfl, ho, hb⟩; have HBW1 := Lib.hid (HBW.out.trans (hb.mono HBW.out.size)); have HL1 := Lib.hid (HTX.out _ _ _ _ ho); have HIN2 := Lib.hid (HIN.out.later hb); clear ho; clear hb tk1; have tk2 : True := trivial)
            | (go_at_call 18; have _t := tk2; refine (HFX.out v1 HIN2.out).mono ?_;  rintro e v2 ⟨Rw, cw, rfl, ho, hb⟩; have HL2 := Lib.hid (HL1.out.below hb (Nat.le_refl _)); have HBW2 := Lib.hid (HBW1.out.trans (hb.mono HBW1.out.size)); have HS2 := Lib.hid (HTX.out _ _ _ _ ho); clear ho; clear hb tk2; have tk3 : True := trivial)
            | (go_at_call 19; have _t := tk3; refine (ponce_bad Rl cl l v2 HL2.out HC.out).mono ?_;  rintro e v3 ⟨rfl, hb⟩; have HL3 := Lib.hid (HL2.out.below hb (Nat.le_refl _)); have HS3 := Lib.hid (HS2.out.below hb (Nat.le_refl _)); have HBW3 := Lib.hid (HBW2.out.trans (hb.mono HBW2.out.size)); clear hb tk3; have tk4 : True := trivial)
            | (go_at_call 20; have _t := tk4; refine (pprune_bad Rl cl l v3 HL3.out HC.out).mono ?_;  rintro e v4 ⟨rfl, hb⟩; have HL4 := Lib.hid (HL3.out.below hb (Nat.le_refl _)); have HS4 := Lib.hid (HS3.out.below hb (Nat.le_refl _)); have HBW4 := Lib.hid (HBW3.out.trans (hb.mono HBW3.out.size)); clear hb tk4; have tk5 : True := trivial)
            | (go_at_call 21; have _t := tk5; refine (rcheck_any Rw cw l v4 HS4.out).mono ?_;  rintro e v5 ⟨rfl, hb⟩; have HL5 := Lib.hid (HL4.out.below hb (Nat.le_refl _)); have HS5 := Lib.hid (HS4.out.below hb (Nat.le_refl _)); have HBW5 := Lib.hid (HBW4.out.trans (hb.mono HBW4.out.size)); clear hb tk5; have tk6 : True := trivial)
            | (go_at_call 22; have _t := tk6; refine (rsame_any Rl Rw cl cw l l v5 HL5.out HS5.out).mono ?_; rw [decide_eq_true rfl]; rintro e v6 ⟨rfl, hb⟩; have HL6 := Lib.hid (HL5.out.below hb (Nat.le_refl _)); have HS6 := Lib.hid (HS5.out.below hb (Nat.le_refl _)); have HBW6 := Lib.hid (HBW5.out.trans (hb.mono HBW5.out.size)); clear hb tk6; have tk7 : True := trivial)
            | (go_at_call 23; have _t := tk7; refine (pruned_bad Rl cl l v6 HL6.out HC.out).mono ?_;  rintro e v7 ⟨rfl, hb⟩; have HL7 := Lib.hid (HL6.out.below hb (Nat.le_refl _)); have HS7 := Lib.hid (HS6.out.below hb (Nat.le_refl _)); have HBW7 := Lib.hid (HBW6.out.trans (hb.mono HBW6.out.size)); clear hb tk7; have tk8 : True := trivial))
          go_roundw
          case rel => exact ⟨k + 1, by omega, by omega, by go_num, HBW7.out⟩
          case measure => simp [intOf]; omega
    · have hk' : k = n := by omega
      subst hk'
      have HBW2 := HBW.out
      go_wp2
      go_ret
      exact ⟨rfl, HBW2⟩
end Go.Proofs.Ytfjbanfibmpalaa

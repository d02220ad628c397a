/- Plain: what is put where nobody comes, and a jump ahead to what stands behind it, change nothing. -/
import Derived.Test.YtfjbanfibmpalaaP6
set_option linter.unusedVariables false
set_option linter.unusedSimpArgs false
namespace Go.Proofs.Ytfjbanfibmpalaa

theorem one_grow {x : Insn} {i n m : Nat} (h : one x i n = 0) (hb : behind i n ≤ behind i m) : one x i m = 0 := by
  obtain ⟨h1, h2, h3, h4, h5, h6, h7⟩ := one_parts h
  exact one_of h1 h2 h3 h4 h5 (by omega) (by omega)

section
variable {l : List Insn} {x : Insn}
theorem ins_app {i : Nat} (h : i < l.length) : ins (l ++ [x]) i = ins l i := by unfold ins; rw [List.getD_eq_getElem?_getD, List.getD_eq_getElem?_getD, List.getElem?_append_left h]
theorem ins_app_last : ins (l ++ [x]) l.length = x := by unfold ins; simp
theorem app_len : (l ++ [x]).length = l.length + 1 := by simp

theorem app_good (h : Good l) (hx : x.Ok) (hr : isRet x.code = true) (hl : l.length < 64) : Good (l ++ [x]) := by
  refine good_of (by rw [app_len]; omega) (by rw [app_len]; omega) ?_ ?_ ?_
  · intro i hi
    rw [app_len] at hi
    rcases Nat.lt_or_ge i l.length with h1 | h1
    · rw [ins_app h1]; exact h.okAt h1
    · obtain rfl : i = l.length := by omega
      rw [ins_app_last]; exact hx
  · intro i hi
    rw [app_len] at hi
    rcases Nat.lt_or_ge i l.length with h1 | h1
    · rw [ins_app h1, app_len]; exact one_grow (h.one h1) (by unfold behind; split <;> split <;> omega)
    · obtain rfl : i = l.length := by omega
      rw [ins_app_last]; exact one_ret _ _ hr
  · rw [app_len, Nat.add_sub_cancel, ins_app_last]; exact hr

theorem app_end (h : Good l) (hg : Good (l ++ [x])) : ∀ n i, l.length - i ≤ n → i < l.length → endOf (l ++ [x]) i = endOf l i
  | 0, i, hn, hi => by omega
  | n + 1, i, hn, hi => by
    have hi' : i < (l ++ [x]).length := by rw [app_len]; omega
    by_cases hj : isJa (ins l i) = true
    · have hk := h.ja hi hj
      rw [endOf_ja h hi hj, endOf_ja hg hi' (by rw [ins_app hi]; exact hj), ins_app hi]
      exact app_end h hg n _ (by omega) hk.1
    · have hj' : isJa (ins l i) = false := by simpa using hj
      rw [endOf_else hi hj', endOf_else hi' (by rw [ins_app hi]; exact hj')]

theorem app_give (h : Good l) (hg : Good (l ++ [x])) (hr : isRet x.code = true) : giveL (l ++ [x]) = giveL l ++ [x] := by
  refine list_ins (by rw [giveL_len, app_len, app_len, giveL_len]) (fun i hi => ?_)
  rw [giveL_len] at hi
  rw [giveL_ins hi]
  rw [app_len] at hi
  rcases Nat.lt_or_ge i l.length with h1 | h1
  · rw [ins_app (by rw [giveL_len]; exact h1), giveL_ins h1]
    unfold giveAt
    rw [app_end h hg _ i (Nat.le_refl _) h1, ins_app h1, ins_app (endOf_lt h h1)]
  · obtain rfl : i = l.length := by omega
    have e : ins (giveL l ++ [x]) l.length = x := by have := ins_app_last (l := giveL l) (x := x); rwa [giveL_len] at this
    rw [e]
    unfold giveAt
    rw [ins_app_last, ret_not_ja hr]; rfl
theorem app_lead (h : Good l) (hg : Good (l ++ [x])) (hr : isRet x.code = true) : leadL (l ++ [x]) = leadL l ++ [x] := by
  refine list_ins (by rw [leadL_len, app_len, app_len, leadL_len]) (fun i hi => ?_)
  rw [leadL_len] at hi
  rw [leadL_ins hi]
  rw [app_len] at hi
  rcases Nat.lt_or_ge i l.length with h1 | h1
  · rw [ins_app (by rw [leadL_len]; exact h1), leadL_ins h1]
    by_cases hj : isJa (ins l i) = true
    · rw [leadAt_ja hj, leadAt_ja (by rw [ins_app h1]; exact hj), ins_app h1, app_end h hg _ i (Nat.le_refl _) h1]
    · by_cases ht : isTest (ins l i) = true
      · have hk := h.test h1 ht
        have hk' := hg.test (i := i) (by rw [app_len]; omega) (by rw [ins_app h1]; exact ht)
        rw [ins_app h1] at hk'
        rw [leadAt_test ht, leadAt_test (by rw [ins_app h1]; exact ht), ins_app h1, lead1_eq h i _ hk.1, lead1_eq h i _ hk.2, lead1_eq hg i _ hk'.1, lead1_eq hg i _ hk'.2, app_end h hg _ _ (Nat.le_refl _) hk.1, app_end h hg _ _ (Nat.le_refl _) hk.2]
      · rw [leadAt_else (l := l) (by simpa using hj) (by simpa using ht), leadAt_else (l := l ++ [x]) (by rw [ins_app h1]; simpa using hj) (by rw [ins_app h1]; simpa using ht), ins_app h1]
  · obtain rfl : i = l.length := by omega
    have e : ins (leadL l ++ [x]) l.length = x := by have := ins_app_last (l := leadL l) (x := x); rwa [leadL_len] at this
    rw [e, leadAt_else (by rw [ins_app_last]; exact ret_not_ja hr) (by rw [ins_app_last]; exact ret_not_test hr), ins_app_last]
theorem app_level (hr : isRet x.code = true) : levelL (l ++ [x]) = levelL l ++ [x] := by
  refine list_ins (by rw [levelL_len, app_len, app_len, levelL_len]) (fun i hi => ?_)
  rw [levelL_len] at hi
  rw [levelL_ins hi]
  rw [app_len] at hi
  rcases Nat.lt_or_ge i l.length with h1 | h1
  · rw [ins_app (by rw [levelL_len]; exact h1), levelL_ins h1]
    unfold levelAt; rw [ins_app h1]
  · obtain rfl : i = l.length := by omega
    have e : ins (levelL l ++ [x]) l.length = x := by have := ins_app_last (l := levelL l) (x := x); rwa [levelL_len] at this
    rw [e, levelAt_else (by rw [ins_app_last, ret_not_test hr]; simp), ins_app_last]

theorem app_met : ∀ j, j ≤ l.length → metAt (l ++ [x]) j = metAt l j
  | 0, _ => rfl
  | j + 1, h => by
    have e : (l ++ [x]).getD j default = l.getD j default := ins_app (x := x) (show j < l.length by omega)
    rw [metAt, metAt, app_met j (by omega), e]
theorem app_stay (h : Good l) (hg : Good (l ++ [x])) : ∀ i, stay (l ++ [x]) i = stay l i := by
  intro i
  rcases Nat.lt_or_ge i l.length with h1 | h1
  · rw [stay_eq h1, stay_eq (by rw [app_len]; omega), ins_app h1]
    unfold R; rw [app_met i (by omega)]
  · rw [stay_out h1]
    rcases Nat.lt_or_ge l.length i with h2 | h2
    · exact stay_out (by rw [app_len]; omega)
    · obtain rfl : i = l.length := by omega
      rw [stay_eq (by rw [app_len]; omega)]
      have : R (l ++ [x]) l.length = false := by
        cases hr : R (l ++ [x]) l.length
        · rfl
        · exfalso
          have hl := h.len
          rcases R_from hr with h0 | ⟨j, hj, _, hk⟩
          · omega
          · rw [ins_app hj] at hk
            have := h.nexts_lt hj _ hk
            omega
      rw [this]; rfl
theorem ahead_congr {f g : Nat → Bool} (h : ∀ i, f i = g i) : ahead f = ahead g := by
  have : f = g := funext h
  rw [this]
theorem app_leave (h : Good l) (hg : Good (l ++ [x])) : leaveL (l ++ [x]) = leaveL l := by
  have hs := app_stay h hg
  have ha := ahead_congr hs
  have hlen : (leaveL (l ++ [x])).length = (leaveL l).length := by
    rw [leaveL_len, leaveL_len, ha, app_len, ahead, stay_out (Nat.le_refl _)]; simp
  refine list_ins hlen (fun p hp => ?_)
  rw [hlen, leaveL_len] at hp
  obtain ⟨i, hi, hst, rfl⟩ := filt_from _ hp
  rw [leaveL_ins hi hst]
  have := leaveL_ins (l := l ++ [x]) (i := i) (by rw [app_len]; omega) (by rw [hs]; exact hst)
  rw [ha] at this
  rw [this]
  unfold moved
  rw [ins_app hi, ha]

theorem app_once (h : Good l) (hx : x.Ok) (hr : isRet x.code = true) (hl : l.length < 64) : onceL (l ++ [x]) = onceL l := by
  have g1 := give_good h
  have g2 := lead_good g1
  have g3 := level_good g2
  unfold onceL
  rw [app_give h (app_good h hx hr hl) hr, app_lead g1 (app_good g1 hx hr (by rw [giveL_len]; exact hl)) hr, app_level hr,
    app_leave g3 (app_good g3 hx hr (by rw [levelL_len, leadL_len, giveL_len]; exact hl))]
theorem app_prune (h : Good l) (hx : x.Ok) (hr : isRet x.code = true) (hl : l.length < 64) : pruneL (l ++ [x]) = pruneL l := by
  rw [← prune_once (app_good h hx hr hl), app_once h hx hr hl, prune_once h]
end

/-! A jump ahead -/
section
variable {l : List Insn} {y : Insn}
theorem cons_zero : ins (y :: l) 0 = y := rfl
theorem cons_succ (i : Nat) : ins (y :: l) (i + 1) = ins l i := rfl
theorem cons_len : (y :: l).length = l.length + 1 := rfl
theorem behind_succ (i n : Nat) : behind (i + 1) (n + 1) = behind i n := by unfold behind; split <;> split <;> omega
theorem one_succ (x : Insn) (i n : Nat) : one x (i + 1) (n + 1) = one x i n := by unfold one; rw [behind_succ]

theorem cons_good (h : Good l) (hy : y.Ok) (hj : isJa y = true) (hk : y.k < l.length) (hl : l.length < 64) : Good (y :: l) := by
  have hl1 := h.len
  refine good_of (by rw [cons_len]; omega) (by rw [cons_len]; omega) ?_ ?_ ?_
  · intro i hi
    cases i with
    | zero => exact hy
    | succ i => exact h.okAt (by rw [cons_len] at hi; omega)
  · intro i hi
    cases i with
    | zero => exact one_ja hj (by rw [cons_len, cons_zero]; omega)
    | succ i => rw [cons_len, one_succ]; exact h.one (by rw [cons_len] at hi; omega)
  · rw [cons_len, Nat.add_sub_cancel, show l.length = (l.length - 1) + 1 by omega, cons_succ]; exact h.last

theorem cons_end (h : Good l) (hg : Good (y :: l)) : ∀ n i, l.length - i ≤ n → i < l.length → endOf (y :: l) (i + 1) = endOf l i + 1
  | 0, i, hn, hi => by omega
  | n + 1, i, hn, hi => by
    have hi' : i + 1 < (y :: l).length := by rw [cons_len]; omega
    by_cases hj : isJa (ins l i) = true
    · have hk := h.ja hi hj
      rw [endOf_ja h hi hj, endOf_ja hg hi' hj, cons_succ, show i + 1 + 1 + (ins l i).k = (i + 1 + (ins l i).k) + 1 by omega]
      exact cons_end h hg n _ (by omega) hk.1
    · have hj' : isJa (ins l i) = false := by simpa using hj
      rw [endOf_else hi hj', endOf_else hi' hj']

theorem cons_give (h : Good l) (hg : Good (y :: l)) : giveL (y :: l) = giveAt (y :: l) 0 :: giveL l := by
  refine list_ins (by rw [giveL_len, cons_len, cons_len, giveL_len]) (fun i hi => ?_)
  rw [giveL_len] at hi
  rw [giveL_ins hi]
  cases i with
  | zero => rfl
  | succ i =>
    have hi' : i < l.length := by rw [cons_len] at hi; omega
    rw [cons_succ, giveL_ins hi']
    unfold giveAt
    rw [cons_succ, cons_end h hg _ i (Nat.le_refl _) hi', cons_succ]
theorem cons_lead (h : Good l) (hg : Good (y :: l)) : leadL (y :: l) = leadAt (y :: l) 0 :: leadL l := by
  refine list_ins (by rw [leadL_len, cons_len, cons_len, leadL_len]) (fun i hi => ?_)
  rw [leadL_len] at hi
  rw [leadL_ins hi]
  cases i with
  | zero => rfl
  | succ i =>
    have hi' : i < l.length := by rw [cons_len] at hi; omega
    rw [cons_succ, leadL_ins hi']
    by_cases hj : isJa (ins l i) = true
    · rw [leadAt_ja hj, leadAt_ja (l := y :: l) (i := i + 1) hj, cons_succ, cons_end h hg _ i (Nat.le_refl _) hi', show endOf l i + 1 - (i + 1) - 1 = endOf l i - i - 1 by omega]
    · by_cases ht : isTest (ins l i) = true
      · have hk := h.test hi' ht
        have hk' := hg.test (i := i + 1) hi ht
        rw [cons_succ] at hk'
        have s1 := cons_end h hg _ _ (Nat.le_refl _) hk.1
        have s2 := cons_end h hg _ _ (Nat.le_refl _) hk.2
        rw [leadAt_test ht, leadAt_test (l := y :: l) (i := i + 1) ht, cons_succ, lead1_eq h i _ hk.1, lead1_eq h i _ hk.2, lead1_eq hg (i + 1) _ hk'.1, lead1_eq hg (i + 1) _ hk'.2]
        rw [show i + 1 + 1 + (ins l i).jt = i + 1 + (ins l i).jt + 1 by omega, show i + 1 + 1 + (ins l i).jf = i + 1 + (ins l i).jf + 1 by omega, s1, s2]
        rw [show ∀ a : Nat, a + 1 - (i + 1) - 1 = a - i - 1 by omega, show ∀ a : Nat, a + 1 - (i + 1) - 1 = a - i - 1 by omega]
      · rw [leadAt_else (l := l) (by simpa using hj) (by simpa using ht), leadAt_else (l := y :: l) (i := i + 1) (by rw [cons_succ]; simpa using hj) (by rw [cons_succ]; simpa using ht), cons_succ]
theorem cons_level : levelL (y :: l) = levelAt (y :: l) 0 :: levelL l := by
  refine list_ins (by rw [levelL_len, cons_len, cons_len, levelL_len]) (fun i hi => ?_)
  rw [levelL_len] at hi
  rw [levelL_ins hi]
  cases i with
  | zero => rfl
  | succ i =>
    have hi' : i < l.length := by rw [cons_len] at hi; omega
    rw [cons_succ, levelL_ins hi']
    rfl
end

/-- Of a program that begins with a return that alone is left. -/
theorem once_ret {g : List Insn} (h : Good g) (hr : isRet (ins g 0).code = true) : leaveL (levelL (leadL g)) = [bare (ins g 0)] := by
  have hl := h.len
  have g2 := lead_good h
  have g3 := level_good g2
  have e0 : ins (levelL (leadL g)) 0 = ins g 0 := by
    have e1 : ins (leadL g) 0 = ins g 0 := by rw [leadL_ins (by omega), leadAt_else (ret_not_ja hr) (ret_not_test hr)]
    rw [levelL_ins (by rw [leadL_len]; omega), levelAt_else (by rw [e1, ret_not_test hr]; simp), e1]
  have hlen : (levelL (leadL g)).length = g.length := by rw [levelL_len, leadL_len]
  generalize levelL (leadL g) = v at *
  have hR : ∀ n i, i ≤ n → 0 < i → R v i = false := by
    intro n
    induction n with
    | zero => intro i h1 h2; omega
    | succ n ih =>
      intro i h1 h2
      cases hi : R v i
      · rfl
      · exfalso
        rcases R_from hi with h0 | ⟨j, hj, hrj, hk⟩
        · omega
        · rcases Nat.eq_zero_or_pos j with rfl | hp
          · rw [e0, nexts_ret hr] at hk; simp at hk
          · rw [ih j (by omega) hp] at hrj; cases hrj
  have hs0 : stay v 0 = true := by
    rw [stay_eq (by omega), e0, ret_not_ja hr, R_zero]; simp
  have hs : ∀ i, 0 < i → stay v i = false := by
    intro i hi
    rcases Nat.lt_or_ge i v.length with h1 | h1
    · rw [stay_eq h1, hR i i (Nat.le_refl _) hi]; rfl
    · exact stay_out h1
  have ha : ∀ n, ahead (stay v) (n + 1) = 1 := by
    intro n
    induction n with
    | zero => rw [ahead, ahead, hs0]; rfl
    | succ n ih => rw [ahead, ih, hs (n + 1) (by omega)]; rfl
  have hn : (leaveL v).length = 1 := by rw [leaveL_len, show v.length = (v.length - 1) + 1 by omega, ha]
  refine list_ins hn (fun i hi => ?_)
  obtain rfl : i = 0 := by omega
  have := leaveL_ins (l := v) (i := 0) (by omega) hs0
  rw [show ahead (stay v) 0 = 0 from rfl] at this
  rw [this, moved_else (by rw [e0]; exact ret_not_ja hr) (by rw [e0]; exact ret_not_test hr), e0]
  rfl

def ja0 : Insn := ⟨5, 0, 0, 0⟩
theorem ja_ok (k : Nat) (h : k < 64) : (⟨5, 0, 0, k⟩ : Insn).Ok := ⟨by show (5 : Nat) < _; omega, by show (0 : Nat) < _; omega, by show (0 : Nat) < _; omega, by show k < _; omega⟩

theorem aheadS (f : Nat → Bool) (i : Nat) : ahead f (i + 1) = ahead f i + if f i then 1 else 0 := rfl
theorem metS (l : List Insn) (j k : Nat) : metAt l (j + 1) k = (metAt l j k || (metAt l j j && (nexts (ins l j) j).contains k)) := by
  rw [metAt]
  cases h : metAt l j j
  · simp
  · simp [ins]
theorem nexts_succ (z : Insn) (j q : Nat) : (nexts z (j + 1)).contains (q + 1) = (nexts z j).contains q := by
  unfold nexts
  repeat' split
  all_goals (rw [Bool.eq_iff_iff]; simp; try omega)

/-- What is left where a jump stands ahead that leads to its next. -/
theorem leave_ja0 {v : List Insn} (h : Good v) (hl : v.length < 64) : leaveL (ja0 :: v) = leaveL v := by
  have hv := h.len
  have hg : Good (ja0 :: v) := cons_good h (ja_ok 0 (by omega)) rfl (by show 0 < _; omega) hl
  have hmet : ∀ j, ∀ k, metAt (ja0 :: v) (j + 1) (k + 1) = metAt v j k := by
    intro j
    induction j with
    | zero =>
      intro k
      have n0 : nexts (ins (ja0 :: v) 0) 0 = [1] := nexts_ja (x := ja0) rfl (by decide)
      rw [metS, n0, Bool.eq_iff_iff]
      simp [metAt]
    | succ j ih =>
      intro k
      rw [metS, metS v, ih, ih, cons_succ, nexts_succ]
  have hR : ∀ i, R (ja0 :: v) (i + 1) = R v i := fun i => hmet i i
  have hs0 : stay (ja0 :: v) 0 = false := by rw [stay_eq (by rw [cons_len]; omega)]; simp [cons_zero, ja0, isJa]
  have hs : ∀ i, stay (ja0 :: v) (i + 1) = stay v i := by
    intro i
    rcases Nat.lt_or_ge i v.length with h1 | h1
    · rw [stay_eq h1, stay_eq (by rw [cons_len]; omega), hR, cons_succ]
    · rw [stay_out h1, stay_out (by rw [cons_len]; omega)]
  have ha : ∀ i, ahead (stay (ja0 :: v)) (i + 1) = ahead (stay v) i := by
    intro i
    induction i with
    | zero => rw [aheadS, hs0]; rfl
    | succ i ih => rw [aheadS, ih, hs]; rfl
  refine list_ins (by rw [leaveL_len, leaveL_len, cons_len, ha]) (fun p hp => ?_)
  rw [leaveL_len, cons_len, ha] at hp
  obtain ⟨i, hi, hst, rfl⟩ := filt_from _ hp
  rw [leaveL_ins hi hst, ← ha, leaveL_ins (by rw [cons_len]; omega) (by rw [hs]; exact hst)]
  unfold moved
  rw [cons_succ, ha, show i + 1 + 1 + (ins v i).k = (i + 1 + (ins v i).k) + 1 by omega, show i + 1 + 1 + (ins v i).jt = (i + 1 + (ins v i).jt) + 1 by omega, show i + 1 + 1 + (ins v i).jf = (i + 1 + (ins v i).jf) + 1 by omega, ha, ha, ha]

/-- What is left where a jump stands ahead that leads to where the next one, a jump, leads. -/
theorem leave_jaE {v : List Insn} (h : Good v) (hl : v.length < 64) (e : Nat) (he : 0 < e) (hj : isJa (ins v 0) = true) (hk : (ins v 0).k = e - 1) :
    (leaveL (⟨5, 0, 0, e⟩ :: v) = leaveL v ∧ 1 < e) ∨ (leaveL (⟨5, 0, 0, e⟩ :: v) = ja0 :: leaveL v ∧ stay v 0 = false) := by
  have hv := h.len
  have hv0 := h.ja (i := 0) (by omega) hj
  rw [hk] at hv0
  have n0 : nexts (ins v 0) 0 = [e] := by rw [nexts_ja hj (by omega), hk]; congr 1; omega
  obtain ⟨c, hc⟩ : ∃ c : Insn, c = ⟨5, 0, 0, e⟩ := ⟨_, rfl⟩
  have hcj : isJa c = true := by rw [hc]; rfl
  have hck : c.k = e := by rw [hc]
  rw [← hc]
  have hg : Good (c :: v) := cons_good h (by rw [hc]; exact ja_ok e (by omega)) hcj (by rw [hck]; omega) hl
  have nc : nexts c 0 = [e + 1] := by rw [nexts_ja hcj (by omega), hck]; congr 1; omega
  -- what has been met behind the first
  have hmet : ∀ j, ∀ k, 0 < k → metAt (c :: v) (j + 2) (k + 1) = metAt v (j + 1) k := by
    intro j
    induction j with
    | zero =>
      intro k hk0
      rw [metS, metS, metS v, cons_zero, nc, n0, Bool.eq_iff_iff, metS, cons_zero, nc]
      simp [metAt]
      omega
    | succ j ih =>
      intro k hk0
      rw [show j + 1 + 2 = (j + 2) + 1 by omega, metS, metS v, ih k hk0, ih (j + 1) (by omega), show j + 2 = (j + 1) + 1 by omega, cons_succ, nexts_succ]
  have hR1 : R (c :: v) 1 = false := by
    unfold R
    rw [metS, cons_zero, nc]
    simp [metAt]; omega
  have hR : ∀ i, 0 < i → R (c :: v) (i + 1) = R v i := by
    intro i hi
    obtain ⟨j, rfl⟩ : ∃ j, i = j + 1 := ⟨i - 1, by omega⟩
    exact hmet j (j + 1) (by omega)
  -- nothing is reached between
  have hbet : ∀ n i, i ≤ n → 0 < i → i < e → R v i = false := by
    intro n
    induction n with
    | zero => intro i h1 h2; omega
    | succ n ih =>
      intro i h1 h2 h3
      cases hi : R v i
      · rfl
      · exfalso
        rcases R_from hi with h0 | ⟨j, hj', hrj, hk'⟩
        · omega
        · rcases Nat.eq_zero_or_pos j with rfl | hp
          · rw [n0] at hk'; simp at hk'; omega
          · rw [ih j (by omega) hp (by omega)] at hrj; cases hrj
  have hs0 : stay (c :: v) 0 = true := by
    rw [stay_eq (by rw [cons_len]; omega), cons_zero, hck, R_zero]; simp; left; exact he
  have hs1 : stay (c :: v) 1 = false := by
    rw [stay_eq (by rw [cons_len]; omega), hR1]; rfl
  have hs : ∀ i, 0 < i → stay (c :: v) (i + 1) = stay v i := by
    intro i hi
    rcases Nat.lt_or_ge i v.length with h1 | h1
    · rw [stay_eq h1, stay_eq (by rw [cons_len]; omega), hR i hi, cons_succ]
    · rw [stay_out h1, stay_out (by rw [cons_len]; omega)]
  have hb : ∀ i, 0 < i → i < e → stay v i = false := by
    intro i hi hie
    rw [stay_eq (by omega), hbet i i (Nat.le_refl _) hi hie]; rfl
  have hsv0 : stay v 0 = decide (1 < e) := by
    rw [stay_eq (by omega), R_zero, hj, hk, Bool.eq_iff_iff]; simp; omega
  -- how many
  have hac : ∀ i, ahead (stay (c :: v)) (i + 2) + (if stay v 0 then 1 else 0) = ahead (stay v) (i + 1) + 1 := by
    intro i
    induction i with
    | zero => rw [show 0 + 2 = (0 + 1) + 1 from rfl, aheadS, aheadS, hs1, hs0, aheadS]; simp [ahead]; omega
    | succ i ih => rw [show i + 1 + 2 = (i + 2) + 1 from rfl, aheadS, aheadS (stay v), show i + 2 = (i + 1) + 1 from rfl, hs (i + 1) (by omega)]; rw [show i + 1 + 1 = i + 2 from rfl]; omega
  have hme : ∀ i, 0 < i → i ≤ e → ahead (stay v) i = if stay v 0 then 1 else 0 := by
    intro i
    induction i with
    | zero => intro h1; omega
    | succ i ih =>
      intro _ h2
      rw [ahead]
      rcases Nat.eq_zero_or_pos i with rfl | hp
      · simp [ahead]
      · rw [ih hp (by omega), hb i hp (by omega)]; simp
  have hce : ahead (stay (c :: v)) (e + 1) = 1 := by
    have h1 := hac (e - 1)
    rw [show e - 1 + 2 = e + 1 by omega, show e - 1 + 1 = e by omega, hme e he (Nat.le_refl _)] at h1
    omega
  have hc0 : bare (moved (c :: v) 0) = ja0 := by
    rw [moved_ja (by rw [cons_zero]; exact hcj), cons_zero, hck, show 0 + 1 + e = e + 1 by omega, hce, bare_ja (by exact hcj), hc]
    rfl
  have hpos : ∀ i, 0 < i → ahead (stay (c :: v)) (i + 1) + (if stay v 0 then 1 else 0) = ahead (stay v) i + 1 := by
    intro i hi
    have := hac (i - 1)
    rw [show i - 1 + 2 = i + 1 by omega, show i - 1 + 1 = i by omega] at this
    exact this
  have hmv : ∀ i, 0 < i → i < v.length → stay v i = true → moved (c :: v) (i + 1) = moved v i := by
    intro i hi hil hst
    have hp := hpos i hi
    have hd : ∀ d, ahead (stay (c :: v)) (i + 1 + 1 + d) - ahead (stay (c :: v)) (i + 1) - 1 = ahead (stay v) (i + 1 + d) - ahead (stay v) i - 1 := by
      intro d
      have h2 := hpos (i + 1 + d) (by omega)
      rw [show i + 1 + d + 1 = i + 1 + 1 + d by omega] at h2
      omega
    unfold moved
    rw [cons_succ, hd, hd, hd]
  have hn := hpos v.length (by omega)
  cases h1 : stay v 0
  · right
    rw [h1] at hn hpos
    simp at hn hpos
    refine ⟨?_, rfl⟩
    refine list_ins (by rw [leaveL_len, cons_len, cons_len, leaveL_len, hn]) (fun p hp => ?_)
    rw [leaveL_len, cons_len, hn] at hp
    cases p with
    | zero =>
      have := leaveL_ins (l := c :: v) (i := 0) (by rw [cons_len]; omega) hs0
      rw [show ahead (stay (c :: v)) 0 = 0 from rfl] at this
      rw [this, hc0]; rfl
    | succ p =>
      obtain ⟨i, hi, hst, hpi⟩ := filt_from (stay v) (n := v.length) (p := p) (by omega)
      have hi0 : 0 < i := by
        rcases Nat.eq_zero_or_pos i with rfl | h0
        · rw [h1] at hst; cases hst
        · exact h0
      rw [cons_succ, ← hpi, leaveL_ins hi hst, ← hpos i hi0, leaveL_ins (by rw [cons_len]; omega) (by rw [hs i hi0]; exact hst), hmv i hi0 hi hst]
  · left
    rw [h1] at hn hpos
    simp at hn hpos
    have he1 : 1 < e := by rw [hsv0] at h1; simpa using h1
    refine ⟨?_, he1⟩
    refine list_ins (by rw [leaveL_len, cons_len, leaveL_len, hn]) (fun p hp => ?_)
    rw [leaveL_len, cons_len, hn] at hp
    obtain ⟨i, hi, hst, rfl⟩ := filt_from (stay v) (n := v.length) hp
    rcases Nat.eq_zero_or_pos i with rfl | hi0
    · have e1 := leaveL_ins (l := c :: v) (i := 0) (by rw [cons_len]; omega) hs0
      have e2 := leaveL_ins (l := v) (i := 0) hi hst
      rw [show ahead (stay (c :: v)) 0 = 0 from rfl] at e1
      rw [show ahead (stay v) 0 = 0 from rfl] at e2 ⊢
      have e3 : ahead (stay v) e = 1 := by rw [hme e he (Nat.le_refl _), h1]; rfl
      rw [e1, e2, hc0, moved_ja hj, hk, show 0 + 1 + (e - 1) = e by omega, e3, bare_ja (by exact hj)]
      obtain ⟨q1, _⟩ := ja_form hj
      rw [show ahead (stay v) 0 = 0 from rfl]
      dsimp only
      rw [q1]
      rfl
    · have := hpos i hi0
      rw [leaveL_ins hi hst, ← this, leaveL_ins (by rw [cons_len]; omega) (by rw [hs i hi0]; exact hst), hmv i hi0 hi hst]

theorem cons_once {l : List Insn} (h : Good l) (hl : l.length < 64) : onceL (ja0 :: l) = onceL l ∨ (onceL (ja0 :: l) = ja0 :: onceL l ∧ onceL l ≠ l) := by
  have hv := h.len
  have hg : Good (ja0 :: l) := cons_good h (ja_ok 0 (by omega)) rfl (by show 0 < _; omega) hl
  have he : endOf (ja0 :: l) 0 = endOf l 0 + 1 := by
    rw [endOf_ja hg (by rw [cons_len]; omega) rfl]
    exact cons_end h hg _ 0 (Nat.le_refl _) (by omega)
  have g1 := give_good h
  have g2 := lead_good g1
  have g3 := level_good g2
  unfold onceL
  rw [cons_give h hg]
  by_cases hr : isRet (ins l (endOf l 0)).code = true
  · left
    have e1 : giveAt (ja0 :: l) 0 = ins l (endOf l 0) := by
      unfold giveAt; rw [he, cons_succ, cons_zero, hr]; rfl
    have e2 : ins (giveL l) 0 = ins l (endOf l 0) := by
      rw [giveL_ins (by omega)]
      unfold giveAt
      rw [hr]
      by_cases hj : isJa (ins l 0) = true
      · rw [hj]; rfl
      · have hj' : isJa (ins l 0) = false := by simpa using hj
        rw [endOf_else (by omega) hj', hj']; rfl
    have gg := give_good hg
    rw [cons_give h hg] at gg
    rw [once_ret g1 (by rw [e2]; exact hr), once_ret gg (by rw [cons_zero, e1]; exact hr), cons_zero, e1, e2]
  · have e1 : giveAt (ja0 :: l) 0 = ja0 := by
      unfold giveAt; rw [he, cons_succ, cons_zero]
      have hr' : isRet (ins l (endOf l 0)).code = false := by simpa using hr
      rw [hr']; rfl
    rw [e1]
    have gl : (giveL l).length = l.length := giveL_len l
    generalize hgen : giveL l = g at *
    have hgg : Good (ja0 :: g) := cons_good g1 (ja_ok 0 (by omega)) rfl (by show 0 < _; omega) (by omega)
    have he2 : endOf (ja0 :: g) 0 = endOf g 0 + 1 := by
      rw [endOf_ja hgg (by rw [cons_len]; omega) rfl]
      exact cons_end g1 hgg _ 0 (Nat.le_refl _) (by omega)
    have e3 : leadAt (ja0 :: g) 0 = ⟨5, 0, 0, endOf g 0⟩ := by
      rw [leadAt_ja (by rfl), he2, cons_zero]
      show (⟨5, 0, 0, _⟩ : Insn) = _
      congr 1
    rw [cons_lead g1 hgg, e3, cons_level]
    have e4 : levelAt (⟨5, 0, 0, endOf g 0⟩ :: leadL g) 0 = ⟨5, 0, 0, endOf g 0⟩ := by
      refine levelAt_else ?_
      rintro ⟨q, _⟩
      rw [cons_zero, ja_not_test (by rfl)] at q
      cases q
    rw [e4]
    have vl : (levelL (leadL g)).length = g.length := by rw [levelL_len, leadL_len]
    by_cases hj : isJa (ins g 0) = true
    · have hgt := endOf_ja_gt g1 (by omega) hj
      have d0 : ins (leadL g) 0 = { ins g 0 with k := endOf g 0 - 0 - 1 } := by rw [leadL_ins (by omega), leadAt_ja hj]
      have v0 : ins (levelL (leadL g)) 0 = { ins g 0 with k := endOf g 0 - 0 - 1 } := by
        rw [levelL_ins (by rw [leadL_len]; omega), levelAt_else, d0]
        rw [d0]
        rintro ⟨q, _⟩
        have q1 : isTest ({ ins g 0 with k := endOf g 0 - 0 - 1 } : Insn) = isTest (ins g 0) := rfl
        rw [q1, ja_not_test hj] at q
        cases q
      rcases leave_jaE g3 (by omega) (endOf g 0) hgt (by rw [v0]; exact hj) (by rw [v0]; show _ - 0 - 1 = _; omega) with ⟨q1, _⟩ | ⟨q1, q2⟩
      · exact .inl q1
      · refine .inr ⟨q1, fun hfix => ?_⟩
        have t := tight_of (l := l) (by unfold onceL; rw [hgen, hfix]; exact Nat.le_refl _)
        have a1 := t.give
        rw [hgen] at a1
        have a2 := t.level
        rw [← a1] at a2
        have a3 := t.all 0 (by omega)
        rw [← a1, ← a2, q2] at a3
        cases a3
    · have hj' : isJa (ins g 0) = false := by simpa using hj
      rw [endOf_else (by omega) hj']
      exact .inl (leave_ja0 g3 (by omega))

theorem cons_prune {l : List Insn} (h : Good l) (hl : l.length < 64) : pruneL (ja0 :: l) = pruneL l := by
  have hc : ∀ l, Good l → l.length < 64 → Good (ja0 :: l) := fun l h hl => cons_good h (ja_ok 0 (by omega)) rfl (by have := h.len; show 0 < _; omega) hl
  refine prune_ind (P := fun l => l.length < 64 → pruneL (ja0 :: l) = pruneL l) ?_ ?_ _ l h (Nat.le_refl _) hl
  · intro l h hfix hl
    rcases cons_once h hl with e | ⟨_, e⟩
    · rw [← prune_once (hc l h hl), e, prune_once h]
    · exact absurd hfix e
  · intro l h _ ih hl
    have hlen := once_len h
    rcases cons_once h hl with e | ⟨e, _⟩
    · rw [← prune_once (hc l h hl), e, prune_once h]
    · rw [← prune_once (hc l h hl), e, ih (by omega), prune_once h]
end Go.Proofs.Ytfjbanfibmpalaa

/- Plain: rounds end; what stays as it is. -/
import Derived.Test.YtfjbanfibmpalaaP5
set_option linter.unusedVariables false
set_option linter.unusedSimpArgs false
namespace Go.Proofs.Ytfjbanfibmpalaa

theorem list_ins {a b : List Insn} (hl : a.length = b.length) (h : ∀ i, i < a.length → ins a i = ins b i) : a = b := by
  refine List.ext_getElem hl (fun i h1 h2 => ?_)
  have := h i h1
  rwa [at_get a i h1, at_get b i h2] at this

def sumTo (f : Nat → Nat) : Nat → Nat
  | 0 => 0
  | n + 1 => sumTo f n + f n
theorem sumTo_le {f g : Nat → Nat} : ∀ {n : Nat}, (∀ i, i < n → f i ≤ g i) → sumTo f n ≤ sumTo g n
  | 0, _ => Nat.le_refl _
  | n + 1, h => by
    have := sumTo_le (n := n) (fun i hi => h i (by omega))
    have := h n (by omega)
    unfold sumTo; omega
theorem sumTo_same {f g : Nat → Nat} : ∀ {n : Nat}, (∀ i, i < n → f i ≤ g i) → sumTo g n ≤ sumTo f n → ∀ i, i < n → f i = g i
  | 0, _, _, i, hi => by omega
  | n + 1, h, hs, i, hi => by
    have h1 := sumTo_le (n := n) (f := f) (g := g) (fun i hi => h i (by omega))
    have h2 := h n (by omega)
    unfold sumTo at hs
    rcases Nat.lt_or_ge i n with h3 | h3
    · exact sumTo_same (n := n) (fun i hi => h i (by omega)) (by omega) i h3
    · obtain rfl : i = n := by omega
      omega
theorem sumTo_congr {f g : Nat → Nat} : ∀ {n : Nat}, (∀ i, i < n → f i = g i) → sumTo f n = sumTo g n
  | 0, _ => rfl
  | n + 1, h => by
    unfold sumTo
    rw [sumTo_congr (n := n) (fun i hi => h i (by omega)), h n (by omega)]

def weight (x : Insn) : Nat := 1 + (if isTest x then 2 else 0) + (if isJa x then 1 else 0)
def wt (l : List Insn) : Nat := sumTo (fun i => weight (ins l i)) l.length

theorem weight_code {x y : Insn} (h : x.code = y.code) : weight x = weight y := by unfold weight isTest isJa; rw [h]
theorem weight_pos (x : Insn) : 1 ≤ weight x := by unfold weight; omega
theorem weight_ja {x : Insn} (h : isJa x = true) : weight x = 2 := by unfold weight; rw [h, ja_not_test h]; rfl
theorem weight_test {x : Insn} (h : isTest x = true) : weight x = 3 := by
  have hj : isJa x = false := by
    cases hj : isJa x
    · rfl
    · rw [ja_not_test hj] at h; cases h
  unfold weight; rw [h, hj]; rfl
theorem weight_ret {x : Insn} (h : isRet x.code = true) : weight x = 1 := by unfold weight; rw [ret_not_ja h, ret_not_test h]; rfl

theorem give_weight (l : List Insn) (i : Nat) : weight (giveAt l i) ≤ weight (ins l i) ∧ (weight (giveAt l i) = weight (ins l i) → giveAt l i = ins l i) := by
  unfold giveAt
  by_cases hc : (isJa (ins l i) && isRet (ins l (endOf l i)).code) = true
  · rw [if_pos hc]
    simp at hc
    rw [weight_ret hc.2, weight_ja hc.1]
    exact ⟨by omega, by omega⟩
  · rw [if_neg hc]; exact ⟨Nat.le_refl _, fun _ => rfl⟩
theorem lead_weight (l : List Insn) (i : Nat) : weight (leadAt l i) = weight (ins l i) := by
  refine weight_code ?_
  unfold leadAt; repeat' split
  all_goals rfl
theorem level_weight (l : List Insn) (i : Nat) : weight (levelAt l i) ≤ weight (ins l i) ∧ (weight (levelAt l i) = weight (ins l i) → levelAt l i = ins l i) := by
  by_cases h : isTest (ins l i) = true ∧ (ins l i).jt = (ins l i).jf
  · rw [levelAt_ja h.1 h.2, weight_test h.1]
    have : weight ⟨5, 0, 0, (ins l i).jt⟩ = 2 := weight_ja rfl
    exact ⟨by omega, by omega⟩
  · rw [levelAt_else h]; exact ⟨Nat.le_refl _, fun _ => rfl⟩

theorem give_wt (l : List Insn) : wt (giveL l) ≤ wt l ∧ (wt (giveL l) = wt l → giveL l = l) := by
  have e : wt (giveL l) = sumTo (fun i => weight (giveAt l i)) l.length := by
    unfold wt; rw [giveL_len]; exact sumTo_congr (fun i hi => by rw [giveL_ins hi])
  rw [e]
  refine ⟨sumTo_le (fun i hi => (give_weight l i).1), fun h => list_ins (giveL_len l) (fun i hi => ?_)⟩
  rw [giveL_len] at hi
  rw [giveL_ins hi]
  exact (give_weight l i).2 (sumTo_same (fun i hi => (give_weight l i).1) (by rw [h]; exact Nat.le_refl _) i hi)
theorem lead_wt (l : List Insn) : wt (leadL l) = wt l := by
  unfold wt; rw [leadL_len]; exact sumTo_congr (fun i hi => by rw [leadL_ins hi, lead_weight])
theorem level_wt (l : List Insn) : wt (levelL l) ≤ wt l ∧ (wt (levelL l) = wt l → levelL l = l) := by
  have e : wt (levelL l) = sumTo (fun i => weight (levelAt l i)) l.length := by
    unfold wt; rw [levelL_len]; exact sumTo_congr (fun i hi => by rw [levelL_ins hi])
  rw [e]
  refine ⟨sumTo_le (fun i hi => (level_weight l i).1), fun h => list_ins (levelL_len l) (fun i hi => ?_)⟩
  rw [levelL_len] at hi
  rw [levelL_ins hi]
  exact (level_weight l i).2 (sumTo_same (fun i hi => (level_weight l i).1) (by rw [h]; exact Nat.le_refl _) i hi)
theorem leave_wt (l : List Insn) : wt (leaveL l) ≤ wt l ∧ (wt (leaveL l) = wt l → ∀ i, i < l.length → stay l i = true) := by
  have e : ∀ m, m ≤ l.length → sumTo (fun i => weight (ins (leaveL l) i)) (ahead (stay l) m) = sumTo (fun i => if stay l i then weight (ins l i) else 0) m := by
    intro m
    induction m with
    | zero => intro _; rfl
    | succ m ih =>
      intro hm
      rw [ahead]
      by_cases hs : stay l m = true
      · rw [if_pos hs]
        show sumTo _ (ahead (stay l) m) + _ = sumTo _ m + _
        rw [ih (by omega)]
        dsimp only
        rw [if_pos hs, leaveL_ins (by omega) hs]
        congr 1
        exact weight_code (by rw [form_bare, moved_code])
      · rw [if_neg hs, Nat.add_zero, ih (by omega)]
        show _ = sumTo _ m + _
        dsimp only
        rw [if_neg hs]; rfl
  have e2 : wt (leaveL l) = sumTo (fun i => if stay l i then weight (ins l i) else 0) l.length := by
    unfold wt; rw [leaveL_len]; exact e _ (Nat.le_refl _)
  have hle : ∀ i, i < l.length → (if stay l i then weight (ins l i) else 0) ≤ weight (ins l i) := by intro i _; split <;> omega
  rw [e2]
  refine ⟨sumTo_le hle, fun h i hi => ?_⟩
  have := sumTo_same hle (by rw [h]; exact Nat.le_refl _) i hi
  have hp := weight_pos (ins l i)
  by_cases hs : stay l i = true
  · exact hs
  · simp only [if_neg hs] at this; omega

theorem once_wt (l : List Insn) : wt (onceL l) ≤ wt l := by
  have h1 := (give_wt l).1
  have h2 := lead_wt (giveL l)
  have h3 := (level_wt (leadL (giveL l))).1
  have h4 := (leave_wt (levelL (leadL (giveL l)))).1
  unfold onceL; omega

/-- Nothing was made but that jumps lead to ends, and what does not count has gone. -/
structure Tight (l : List Insn) : Prop where
  give : giveL l = l
  level : levelL (leadL l) = leadL l
  all : ∀ i, i < l.length → stay (leadL l) i = true

theorem tight_of {l : List Insn} (h : wt l ≤ wt (onceL l)) : Tight l := by
  have h1 := give_wt l
  have h2 := lead_wt (giveL l)
  have h3 := level_wt (leadL (giveL l))
  have h4 := leave_wt (levelL (leadL (giveL l)))
  unfold onceL at h
  have e1 : giveL l = l := h1.2 (by omega)
  rw [e1] at h2 h3 h4 h
  have e2 : levelL (leadL l) = leadL l := h3.2 (by omega)
  rw [e2] at h4 h
  exact ⟨e1, e2, fun i hi => h4.2 (by omega) i (by rw [leadL_len]; exact hi)⟩

theorem ahead_all {f : Nat → Bool} : ∀ {n : Nat}, (∀ i, i < n → f i = true) → ahead f n = n
  | 0, _ => rfl
  | n + 1, h => by rw [ahead, ahead_all (fun i hi => h i (by omega)), if_pos (h n (by omega))]

theorem moved_same {l : List Insn} (h : Good l) (hs : ∀ i, i < l.length → stay l i = true) {i : Nat} (hi : i < l.length) : moved l i = ins l i := by
  have ha : ∀ j, j ≤ l.length → ahead (stay l) j = j := fun j hj => ahead_all (fun i hi => hs i (by omega))
  by_cases hj : isJa (ins l i) = true
  · have hk := h.ja hi hj
    rw [moved_ja hj, ha _ (by omega), ha _ (by omega)]
    rw [show i + 1 + (ins l i).k - i - 1 = (ins l i).k by omega]
  · by_cases ht : isTest (ins l i) = true
    · have hk := h.test hi ht
      rw [moved_test ht, ha _ (by omega), ha _ (by omega), ha _ (by omega)]
      rw [show i + 1 + (ins l i).jt - i - 1 = (ins l i).jt by omega, show i + 1 + (ins l i).jf - i - 1 = (ins l i).jf by omega]
    · exact moved_else (by simpa using hj) (by simpa using ht)

theorem leave_all {l : List Insn} (h : Good l) (hs : ∀ i, i < l.length → stay l i = true) : (leaveL l).length = l.length ∧ ∀ i, i < l.length → ins (leaveL l) i = bare (ins l i) := by
  have ha : ∀ j, j ≤ l.length → ahead (stay l) j = j := fun j hj => ahead_all (fun i hi => hs i (by omega))
  refine ⟨by rw [leaveL_len, ha _ (Nat.le_refl _)], fun i hi => ?_⟩
  have := leaveL_ins hi (hs i hi)
  rw [ha _ (by omega), moved_same h hs hi] at this
  exact this

theorem Tight.once {l : List Insn} (t : Tight l) (h : Good l) : (onceL l).length = l.length ∧ ∀ i, i < l.length → ins (onceL l) i = bare (leadAt l i) := by
  unfold onceL
  rw [t.give, t.level]
  have := leave_all (lead_good h) (by rw [leadL_len]; exact t.all)
  rw [leadL_len] at this
  exact ⟨this.1, fun i hi => by rw [this.2 i hi, leadL_ins hi]⟩

theorem bare_default : bare default = default := by decide
theorem nexts_bare (x : Insn) (i : Nat) : nexts (bare x) i = nexts x i := by
  unfold nexts
  rw [form_bare]
  by_cases h0 : form x.code < 0 ∨ isRet x.code = true
  · rw [if_pos h0, if_pos h0]
  rw [if_neg h0, if_neg h0]
  by_cases h4 : form x.code = 4
  · rw [if_pos h4, if_pos h4, bare_k (by omega) (by omega)]
  rw [if_neg h4, if_neg h4]
  by_cases h5 : form x.code = 5 ∨ form x.code = 6
  · rw [if_pos h5, if_pos h5]
    have := bare_test (x := x) (by simpa [isTest] using h5)
    rw [this.1, this.2]
  · rw [if_neg h5, if_neg h5]

theorem metAt_congr {a b : List Insn} (h : ∀ i, nexts (ins a i) i = nexts (ins b i) i) : ∀ j, metAt a j = metAt b j
  | 0 => rfl
  | j + 1 => by
    have := h j
    unfold ins at this
    rw [metAt, metAt, metAt_congr h j, this]

theorem ins_out {l : List Insn} {i : Nat} (h : l.length ≤ i) : ins l i = default := by simp [ins, h]

theorem Tight.fix {l : List Insn} (t : Tight l) (h : Good l) : onceL (onceL l) = onceL l := by
  obtain ⟨hn, ho⟩ := t.once h
  have g := once_good h
  generalize onceL l = o at *
  have hja : ∀ i, i < l.length → isJa (ins o i) = isJa (ins l i) := by
    intro i hi; rw [ho i hi, bare_isJa]
    unfold leadAt isJa
    repeat' split
    all_goals rfl
  have hte : ∀ i, i < l.length → isTest (ins o i) = isTest (ins l i) := by
    intro i hi; rw [ho i hi, bare_isTest]
    unfold leadAt isTest
    repeat' split
    all_goals rfl
  have hk : ∀ i, i < l.length → isJa (ins l i) = true → (ins o i).k = endOf l i - i - 1 := by
    intro i hi hj
    rw [ho i hi, leadAt_ja hj, bare_ja (by exact hj)]
  have hend : ∀ i, i < l.length → endOf o i = endOf l i := by
    intro i hi
    by_cases hj : isJa (ins l i) = true
    · have e1 := endOf_ja_gt h hi hj
      have e2 := endOf_lt h hi
      have e3 := endOf_not h hi
      rw [endOf_ja g (by omega) (by rw [hja i hi]; exact hj), hk i hi hj, show i + 1 + (endOf l i - i - 1) = endOf l i by omega]
      exact endOf_else (by omega) (by rw [hja _ e2]; exact e3)
    · have hj' : isJa (ins l i) = false := by simpa using hj
      rw [endOf_else hi hj', endOf_else (by omega) (by rw [hja i hi]; exact hj')]
  have hcode : ∀ i, i < l.length → (ins o i).code = (ins l i).code := by
    intro i hi; rw [ho i hi, form_bare]; unfold leadAt; repeat' split
    all_goals rfl
  have hgive : giveL o = o := by
    refine list_ins (giveL_len o) (fun i hi => ?_)
    rw [giveL_len] at hi
    rw [giveL_ins hi]
    have hi' : i < l.length := by omega
    unfold giveAt
    rw [hja i hi', hend i hi', hcode _ (endOf_lt h hi')]
    by_cases hc : (isJa (ins l i) && isRet (ins l (endOf l i)).code) = true
    · exfalso
      have e := giveL_ins hi'
      rw [t.give] at e
      unfold giveAt at e
      rw [if_pos hc] at e
      simp at hc
      rw [← e] at hc
      rw [ja_not_ret hc.1] at hc
      cases hc.2
    · rw [if_neg hc]
  have hlead : leadL o = o := by
    refine list_ins (leadL_len o) (fun i hi => ?_)
    rw [leadL_len] at hi
    rw [leadL_ins hi]
    have hi' : i < l.length := by omega
    by_cases hj : isJa (ins l i) = true
    · rw [leadAt_ja (by rw [hja i hi']; exact hj), hend i hi', ← hk i hi' hj]
    · by_cases ht : isTest (ins l i) = true
      · have hjf := h.test hi' ht
        have e := ho i hi'
        rw [leadAt_test ht] at e
        have eb := bare_test (x := { ins l i with jt := lead1 l i (ins l i).jt, jf := lead1 l i (ins l i).jf }) ht
        have e1 : (ins o i).jt = lead1 l i (ins l i).jt := by rw [e]; exact eb.1
        have e2 : (ins o i).jf = lead1 l i (ins l i).jf := by rw [e]; exact eb.2
        have l1 : lead1 o i (ins o i).jt = (ins o i).jt := by
          rw [e1, lead1_eq h i _ hjf.1]
          have q1 := endOf_ge h hjf.1
          have q2 := endOf_lt h hjf.1
          have q3 := endOf_not h hjf.1
          rw [lead1_eq g i _ (by omega), show i + 1 + (endOf l (i + 1 + (ins l i).jt) - i - 1) = endOf l (i + 1 + (ins l i).jt) by omega, hend _ q2, endOf_else q2 q3]
        have l2 : lead1 o i (ins o i).jf = (ins o i).jf := by
          rw [e2, lead1_eq h i _ hjf.2]
          have q1 := endOf_ge h hjf.2
          have q2 := endOf_lt h hjf.2
          have q3 := endOf_not h hjf.2
          rw [lead1_eq g i _ (by omega), show i + 1 + (endOf l (i + 1 + (ins l i).jf) - i - 1) = endOf l (i + 1 + (ins l i).jf) by omega, hend _ q2, endOf_else q2 q3]
        rw [leadAt_test (by rw [hte i hi']; exact ht), l1, l2]
      · exact leadAt_else (by rw [hja i hi']; simpa using hj) (by rw [hte i hi']; simpa using ht)
  have hlevel : levelL o = o := by
    refine list_ins (levelL_len o) (fun i hi => ?_)
    rw [levelL_len] at hi
    rw [levelL_ins hi]
    have hi' : i < l.length := by omega
    refine levelAt_else ?_
    rintro ⟨q1, q2⟩
    have e := levelL_ins (l := leadL l) (i := i) (by rw [leadL_len]; exact hi')
    rw [t.level] at e
    rw [ho i hi', bare_isTest] at q1
    have eb := bare_test q1
    rw [ho i hi', eb.1, eb.2] at q2
    rw [leadL_ins hi'] at e
    rw [levelAt_ja (by rw [leadL_ins hi']; exact q1) (by rw [leadL_ins hi']; exact q2), leadL_ins hi'] at e
    have : isTest (leadAt l i) = false := ja_not_test (by rw [e]; rfl)
    rw [this] at q1; cases q1
  have hmet : ∀ j, metAt o j = metAt (leadL l) j := metAt_congr (fun i => by
    by_cases hi : i < l.length
    · rw [ho i hi, nexts_bare, leadL_ins hi]
    · rw [ins_out (l := o) (by omega), ins_out (l := leadL l) (by rw [leadL_len]; omega)])
  have hstay : ∀ i, i < o.length → stay o i = true := by
    intro i hi
    have hi' : i < l.length := by omega
    have hd := t.all i hi'
    rw [stay_eq (by rw [leadL_len]; exact hi')] at hd
    rw [stay_eq hi]
    unfold R at hd ⊢
    rw [hmet i]
    rw [leadL_ins hi'] at hd
    simp only [Bool.and_eq_true, Bool.or_eq_true] at hd ⊢
    refine ⟨hd.1, ?_⟩
    rcases hd.2 with q | q
    · by_cases hj : isJa (leadAt l i) = true
      · left; rw [ho i hi', bare_ja hj]; exact q
      · right; rw [ho i hi', bare_isJa]; simpa using hj
    · right; rw [ho i hi', bare_isJa]; exact q
  unfold onceL
  rw [hgive, hlead, hlevel]
  have hl := leave_all g hstay
  refine list_ins hl.1 (fun i hi => ?_)
  rw [hl.1] at hi
  rw [hl.2 i hi, ho i (by omega), bare_bare]

/-! Rounds -/
def iter : Nat → List Insn → List Insn
  | 0, l => l
  | f + 1, l => if onceL l = l then l else iter f (onceL l)

def meas (l : List Insn) : Nat := 2 * wt l + (if onceL l = l then 0 else 1)
def pruneL (l : List Insn) : List Insn := iter (2 * wt l + 2) l

theorem meas_lt {l : List Insn} (h : Good l) (hn : onceL l ≠ l) : meas (onceL l) < meas l := by
  have h1 := once_wt l
  unfold meas
  rw [if_neg hn]
  by_cases h2 : wt l ≤ wt (onceL l)
  · rw [if_pos ((tight_of h2).fix h)]; omega
  · split <;> omega

theorem iter_fuel : ∀ f g l, Good l → meas l < f → meas l < g → iter f l = iter g l
  | 0, _, _, _, h, _ => by omega
  | _, 0, _, _, _, h => by omega
  | f + 1, g + 1, l, hg, h1, h2 => by
    unfold iter
    by_cases h : onceL l = l
    · rw [if_pos h, if_pos h]
    · rw [if_neg h, if_neg h]
      have := meas_lt hg h
      exact iter_fuel f g _ (once_good hg) (by omega) (by omega)

theorem meas_le (l : List Insn) : meas l < 2 * wt l + 2 := by unfold meas; split <;> omega

theorem prune_fixed {l : List Insn} (h : onceL l = l) : pruneL l = l := by unfold pruneL iter; rw [if_pos h]
theorem prune_once {l : List Insn} (h : Good l) : pruneL (onceL l) = pruneL l := by
  by_cases hl : onceL l = l
  · rw [hl]
  · have e : pruneL l = iter (2 * wt l + 1) (onceL l) := by unfold pruneL; rw [iter, if_neg hl]
    rw [e]
    have h1 := meas_lt h hl
    have h2 := meas_le l
    exact iter_fuel _ _ _ (once_good h) (meas_le _) (by omega)

theorem prune_ind {P : List Insn → Prop} (hfix : ∀ l, Good l → onceL l = l → P l) (hstep : ∀ l, Good l → onceL l ≠ l → P (onceL l) → P l) : ∀ n l, Good l → meas l ≤ n → P l
  | 0, l, h, hm => by
    refine hfix l h ?_
    unfold meas at hm
    split at hm
    · assumption
    · omega
  | n + 1, l, h, hm => by
    by_cases hl : onceL l = l
    · exact hfix l h hl
    · exact hstep l h hl (prune_ind hfix hstep n _ (once_good h) (by have := meas_lt h hl; omega))

theorem prune_facts {l : List Insn} (h : Good l) : Good (pruneL l) ∧ onceL (pruneL l) = pruneL l ∧ (pruneL l).length ≤ l.length := by
  refine prune_ind (P := fun l => Good (pruneL l) ∧ onceL (pruneL l) = pruneL l ∧ (pruneL l).length ≤ l.length) ?_ ?_ _ l h (Nat.le_refl _)
  · intro l h hl; rw [prune_fixed hl]; exact ⟨h, hl, Nat.le_refl _⟩
  · intro l h hl hp
    rw [prune_once h] at hp
    exact ⟨hp.1, hp.2.1, Nat.le_trans hp.2.2 (once_len h)⟩

/-- What stays as it is is all reached. -/
theorem fixed_reach {l : List Insn} (h : Good l) (hl : onceL l = l) : (reach l).length = l.length := by
  have t := tight_of (l := l) (by rw [hl]; exact Nat.le_refl _)
  rw [reach_eq, filt_len, ahead_all]
  intro i hi
  have ho := t.once h
  rw [hl] at ho
  have hmet : ∀ j, metAt l j = metAt (leadL l) j := metAt_congr (fun i => by
    by_cases hi : i < l.length
    · rw [ho.2 i hi, nexts_bare, leadL_ins hi]
    · rw [ins_out (l := l) (by omega), ins_out (l := leadL l) (by rw [leadL_len]; omega)])
  have := stay_R (t.all i hi)
  unfold R at this ⊢
  rw [hmet i]; exact this.2
end Go.Proofs.Ytfjbanfibmpalaa

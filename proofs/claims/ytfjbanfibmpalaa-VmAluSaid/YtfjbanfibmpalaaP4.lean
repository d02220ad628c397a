/- Plain: what a passed check tells; ends; what leads. -/
import Derived.Test.YtfjbanfibmpalaaP3
set_option linter.unusedVariables false
set_option linter.unusedSimpArgs false
namespace Go.Proofs.Ytfjbanfibmpalaa

theorem single_big (c : Nat) (hc : 256 ≤ c) : (single c).2 = -1 := by
  unfold single
  repeat (first | rw [if_pos (by omega)] | rw [if_neg (by omega)])

theorem form_le (c : Nat) : -1 ≤ form c ∧ form c ≤ 6 := by
  have hs : (single c).2 = -1 ∨ 0 ≤ (single c).2 ∧ (single c).2 ≤ 4 := by
    by_cases h : c < 256
    · have : ∀ c : Fin 256, (single c.val).2 = -1 ∨ 0 ≤ (single c.val).2 ∧ (single c.val).2 ≤ 4 := by decide +kernel
      exact this ⟨c, h⟩
    · exact .inl (single_big c (by omega))
  unfold form
  repeat' split
  all_goals omega

theorem form_vals (c : Nat) : form c = -1 ∨ form c = 0 ∨ form c = 1 ∨ form c = 2 ∨ form c = 3 ∨ form c = 4 ∨ form c = 5 ∨ form c = 6 := by
  have := form_le c; omega

theorem form_big (c : Nat) (hc : 256 ≤ c) : form c = -1 := by
  unfold form; rw [if_neg (by rw [single_big c hc]; omega), if_pos hc]

theorem checkFrom_snd (l : List Insn) (n : Nat) : ∀ i, (checkFrom l n i).2 = 0 → ∀ j (h : j < l.length), one (l[j]'h) (i + j) n = 0 := by
  induction l with
  | nil => intro i _ j h; simp at h
  | cons x r ih =>
    intro i h j hj
    unfold checkFrom at h
    split at h
    · rename_i h0
      cases j with
      | zero => simpa using h0
      | succ j =>
        have := ih (i + 1) h j (by simpa using hj)
        simpa [Nat.add_assoc, Nat.add_comm 1 j] using this
    · rename_i h0; exact absurd h h0

/-- From a place on where all ahead may stand. -/
theorem checkFrom_skip (l : List Insn) (n k : Nat) (hk : k ≤ l.length) (h : ∀ j (h : j < l.length), j < k → one (l[j]'h) j n = 0) : checkFrom l n 0 = checkFrom (l.drop k) n k := by
  induction k with
  | zero => simp
  | succ k ih =>
    rw [ih (by omega) (fun j hj hjk => h j hj (by omega))]
    have hk' : k < l.length := by omega
    rw [List.drop_eq_getElem_cons hk', checkFrom, if_pos (h k hk' (by omega))]

theorem check_bad (l : List Insn) (h1 : 1 ≤ l.length) (h2 : l.length ≤ 64) (k : Nat) (hk : k < l.length) (h : ∀ j (h : j < l.length), j < k → one (l[j]'h) j l.length = 0)
    (hb : one (l[k]'hk) k l.length ≠ 0) : check l = ((k : Int), one (l[k]'hk) k l.length) := by
  have e : checkFrom l l.length 0 = ((k : Int), one (l[k]'hk) k l.length) := by
    rw [checkFrom_skip l l.length k (by omega) h, List.drop_eq_getElem_cons hk, checkFrom, if_neg hb]
  unfold check
  rw [if_neg (by omega), if_pos (by rw [e]; exact hb), e]

theorem check_good (l : List Insn) (h1 : 1 ≤ l.length) (h2 : l.length ≤ 64) (h : ∀ j (h : j < l.length), one (l[j]'h) j l.length = 0) :
    check l = if isRet (l[l.length - 1]'(by omega)).code then (0, 0) else ((l.length : Int) - 1, 147) := by
  have e : checkFrom l l.length 0 = (0, 0) := by
    rw [checkFrom_skip l l.length l.length (by omega) (fun j hj _ => h j hj), List.drop_length, checkFrom]
  unfold check
  rw [if_neg (by omega), if_neg (by rw [e]; simp)]
  have : l.getD (l.length - 1) default = l[l.length - 1]'(by omega) := by
    simp [List.getD, List.getElem?_eq_getElem (show l.length - 1 < l.length by omega)]
  rw [this]

theorem checked_one {l : List Insn} (h : (check l).2 = 0) : ∀ j (hj : j < l.length), one (l[j]'hj) j l.length = 0 := by
  have hl := check_len h
  unfold check at h
  rw [if_neg (by omega)] at h
  have h0 : (checkFrom l l.length 0).2 = 0 := by
    by_cases hz : (checkFrom l l.length 0).2 = 0
    · exact hz
    · rw [if_pos hz] at h; exact h
  intro j hj
  have := checkFrom_snd l l.length 0 h0 j hj
  simpa using this

theorem checked_last {l : List Insn} (h : (check l).2 = 0) (hn : l.length - 1 < l.length) : isRet (l[l.length - 1]'hn).code = true := by
  have hl := check_len h
  rw [check_good l hl.1 hl.2 (checked_one h)] at h
  split at h
  · assumption
  · simp at h

theorem one_nexts {x : Insn} {i n : Nat} (h : one x i n = 0) (hi : i + 1 < n) : ∀ k ∈ nexts x i, i < k ∧ k < n := by
  have hb : behind i n = n - 1 - i := by unfold behind; rw [if_pos hi]
  intro k hk
  unfold nexts at hk
  unfold one at h
  rw [hb] at h
  by_cases h0 : form x.code < 0 ∨ isRet x.code = true
  · rw [if_pos h0] at hk; simp at hk
  rw [if_neg h0] at hk
  repeat' split at h
  all_goals (try (simp at h; done))
  repeat' split at hk
  all_goals simp at hk
  all_goals omega

theorem nexts_lt {l : List Insn} (h : (check l).2 = 0) {i : Nat} (hi : i < l.length) : ∀ k ∈ nexts (l[i]'hi) i, i < k ∧ k < l.length := by
  by_cases hl : i + 1 < l.length
  · exact one_nexts (checked_one h i hi) hl
  · have e : i = l.length - 1 := by omega
    subst e
    have := checked_last h hi
    intro k hk
    unfold nexts at hk
    rw [if_pos (.inr this)] at hk
    simp at hk

section
variable {l : List Insn}

theorem Good.len (h : Good l) : 1 ≤ l.length ∧ l.length ≤ 64 := check_len h.checked

theorem Good.okAt (h : Good l) {i : Nat} (hi : i < l.length) : (ins l i).Ok := by rw [at_get l i hi]; exact h.ok _ (List.getElem_mem hi)

theorem form_ja : form 5 = 4 := by decide

theorem Good.one (h : Good l) {i : Nat} (hi : i < l.length) : Go.Proofs.Ytfjbanfibmpalaa.one (ins l i) i l.length = 0 := by rw [at_get l i hi]; exact checked_one h.checked i hi

theorem Good.form (h : Good l) {i : Nat} (hi : i < l.length) : 0 ≤ Go.Proofs.Ytfjbanfibmpalaa.form (ins l i).code := by
  have := h.one hi
  unfold Go.Proofs.Ytfjbanfibmpalaa.one at this
  split at this
  · simp at this
  · omega

theorem Good.ja (h : Good l) {i : Nat} (hi : i < l.length) (hj : isJa (ins l i) = true) : i + 1 + (ins l i).k < l.length ∧ (ins l i).k < 64 := by
  have hl := h.len
  have hc : (ins l i).code = 5 := by simpa [isJa] using hj
  have h1 := h.one hi
  have hf : Go.Proofs.Ytfjbanfibmpalaa.form (ins l i).code = 4 := by rw [hc]; exact form_ja
  unfold Go.Proofs.Ytfjbanfibmpalaa.one at h1
  rw [hf] at h1
  have hb : behind i l.length ≤ l.length - 1 - i := by unfold behind; split <;> omega
  repeat' split at h1
  all_goals (try (simp at h1; done))
  all_goals (try omega)

theorem Good.test (h : Good l) {i : Nat} (hi : i < l.length) (hj : isTest (ins l i) = true) : i + 1 + (ins l i).jt < l.length ∧ i + 1 + (ins l i).jf < l.length := by
  have hl := h.len
  have hc : Go.Proofs.Ytfjbanfibmpalaa.form (ins l i).code = 5 ∨ Go.Proofs.Ytfjbanfibmpalaa.form (ins l i).code = 6 := by simpa [isTest] using hj
  have h1 := h.one hi
  unfold Go.Proofs.Ytfjbanfibmpalaa.one at h1
  have hb : behind i l.length ≤ l.length - 1 - i := by unfold behind; split <;> omega
  repeat' split at h1
  all_goals (try (simp at h1; done))
  all_goals (try omega)

theorem endAux_fuel (h : Good l) : ∀ n f j, l.length - j ≤ n → j < l.length → l.length - j ≤ f → endAux l f j = endAux l (l.length - j) j
  | 0, f, j, hn, hj, hf => by omega
  | n + 1, f, j, hn, hj, hf => by
    cases f with
    | zero => omega
    | succ f =>
      rw [show l.length - j = (l.length - j - 1) + 1 by omega]
      unfold endAux
      by_cases hja : isJa (ins l j) = true
      · rw [if_pos hja, if_pos hja]
        have hk := h.ja hj hja
        rw [endAux_fuel h n f _ (by omega) hk.1 (by omega), ← endAux_fuel h n (l.length - j - 1) _ (by omega) hk.1 (by omega)]
      · rw [if_neg hja, if_neg hja]

theorem endOf_ja (h : Good l) {i : Nat} (hi : i < l.length) (hj : isJa (ins l i) = true) : endOf l i = endOf l (i + 1 + (ins l i).k) := by
  have hk := h.ja hi hj
  unfold endOf
  rw [show l.length - i = (l.length - i - 1) + 1 by omega, endAux, if_pos hj]
  exact endAux_fuel h _ _ _ (Nat.le_refl _) hk.1 (by omega)

theorem endOf_else {i : Nat} (hi : i < l.length) (hj : isJa (ins l i) = false) : endOf l i = i := by
  unfold endOf
  rw [show l.length - i = (l.length - i - 1) + 1 by omega, endAux, if_neg (by simp [hj])]

theorem endOf_facts (h : Good l) : ∀ n i, l.length - i ≤ n → i < l.length → i ≤ endOf l i ∧ endOf l i < l.length ∧ isJa (ins l (endOf l i)) = false
  | 0, i, hn, hi => by omega
  | n + 1, i, hn, hi => by
    by_cases hj : isJa (ins l i) = true
    · rw [endOf_ja h hi hj]
      have hk := h.ja hi hj
      have := endOf_facts h n _ (by omega) hk.1
      exact ⟨by omega, this.2⟩
    · have hj' : isJa (ins l i) = false := by simpa using hj
      rw [endOf_else hi hj']
      exact ⟨Nat.le_refl _, hi, hj'⟩

theorem endOf_ge (h : Good l) {i : Nat} (hi : i < l.length) : i ≤ endOf l i := (endOf_facts h _ i (Nat.le_refl _) hi).1
theorem endOf_lt (h : Good l) {i : Nat} (hi : i < l.length) : endOf l i < l.length := (endOf_facts h _ i (Nat.le_refl _) hi).2.1
theorem endOf_not (h : Good l) {i : Nat} (hi : i < l.length) : isJa (ins l (endOf l i)) = false := (endOf_facts h _ i (Nat.le_refl _) hi).2.2
theorem endOf_ja_gt (h : Good l) {i : Nat} (hi : i < l.length) (hj : isJa (ins l i) = true) : i < endOf l i := by
  rw [endOf_ja h hi hj]
  have hk := h.ja hi hj
  have := endOf_ge h hk.1
  omega

/-- In a good program just the returns have nothing behind them. -/
theorem nexts_nil (h : Good l) {i : Nat} (hi : i < l.length) : ((nexts (ins l i) i).length = 0) ↔ isRet (ins l i).code = true := by
  have hf := h.form hi
  constructor
  · intro hn
    by_cases hr : isRet (ins l i).code = true
    · exact hr
    · exfalso
      unfold nexts at hn
      rw [if_neg (by rintro (h | h); omega; exact hr h)] at hn
      split at hn
      · rename_i h4
        have hl := h.len
        have h1 := h.one hi
        unfold Go.Proofs.Ytfjbanfibmpalaa.one at h1
        rw [h4] at h1
        have hb : behind i l.length ≤ l.length - 1 - i := by unfold behind; split <;> omega
        split at hn
        · simp at hn
        · repeat' split at h1
          all_goals (try (simp at h1; done))
          all_goals omega
      · split at hn
        · split at hn <;> simp at hn
        · simp at hn
  · intro hr
    unfold nexts
    rw [if_pos (.inr hr)]
    rfl
end

theorem isTest_form (x : Insn) (f : Int) (h : form x.code = f) : isTest x = (f == 5 || f == 6) := by unfold isTest; rw [h]

theorem lead1_eq {l : List Insn} (h : Good l) (i d : Nat) (hd : i + 1 + d < l.length) : lead1 l i d = endOf l (i + 1 + d) - i - 1 := by
  have h1 := endOf_lt h hd
  have h2 := h.len
  unfold lead1
  rw [if_pos (by omega)]
theorem lead1_lt {l : List Insn} (h : Good l) (i d : Nat) (hd : i + 1 + d < l.length) : i + 1 + lead1 l i d < l.length := by
  have h1 := endOf_lt h hd
  have h2 := endOf_ge h hd
  rw [lead1_eq h i d hd]
  omega

theorem ja_not_test {x : Insn} (h : isJa x = true) : isTest x = false := by
  have : x.code = 5 := by simpa [isJa] using h
  unfold isTest
  rw [this]
  decide

theorem leadAt_ja {l : List Insn} {i : Nat} (h : isJa (ins l i) = true) : leadAt l i = { ins l i with k := endOf l i - i - 1 } := by unfold leadAt; rw [if_pos h]
theorem leadAt_test {l : List Insn} {i : Nat} (h : isTest (ins l i) = true) : leadAt l i = { ins l i with jt := lead1 l i (ins l i).jt, jf := lead1 l i (ins l i).jf } := by
  have hj : isJa (ins l i) ≠ true := fun e => by rw [ja_not_test e] at h; cases h
  unfold leadAt
  rw [if_neg hj, if_pos h]
theorem leadAt_else {l : List Insn} {i : Nat} (h : isJa (ins l i) = false) (h2 : isTest (ins l i) = false) : leadAt l i = ins l i := by unfold leadAt; rw [h, h2]; rfl

end Go.Proofs.Ytfjbanfibmpalaa

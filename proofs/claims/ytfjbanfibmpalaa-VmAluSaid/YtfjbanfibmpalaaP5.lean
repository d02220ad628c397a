/- Plain: every pass makes a good program of a good one. -/
import Derived.Test.YtfjbanfibmpalaaP4
set_option linter.unusedVariables false
set_option linter.unusedSimpArgs false
namespace Go.Proofs.Ytfjbanfibmpalaa

theorem good_of {l : List Insn} (h1 : 1 ≤ l.length) (h2 : l.length ≤ 64) (hok : ∀ i, i < l.length → (ins l i).Ok) (hone : ∀ i, i < l.length → one (ins l i) i l.length = 0)
    (hlast : isRet (ins l (l.length - 1)).code = true) : Good l := by
  refine ⟨?_, ?_⟩
  · intro x hx
    obtain ⟨i, hi, rfl⟩ := List.getElem_of_mem hx
    rw [← at_get l i hi]; exact hok i hi
  · rw [check_good l h1 h2 (fun j hj => by rw [← at_get l j hj]; exact hone j hj), ← at_get l _ (by omega), hlast]; rfl

theorem Good.last {l : List Insn} (h : Good l) : isRet (ins l (l.length - 1)).code = true := by
  have hl := h.len
  rw [at_get l _ (by omega)]
  exact checked_last h.checked (by omega)

theorem ret_form {c : Nat} (h : isRet c = true) : c = 6 ∨ c = 22 := by simpa [isRet] using h
theorem ret_form' {c : Nat} (h : isRet c = true) : form c = 0 ∨ form c = 1 := by
  rcases ret_form h with rfl | rfl <;> decide
theorem one_ret {x : Insn} (i n : Nat) (h : isRet x.code = true) : one x i n = 0 := by
  have hc := ret_form h
  have hf := ret_form' h
  unfold one
  rw [if_neg (by omega), if_neg (by omega), if_neg (by omega), if_neg (by omega), if_neg (by omega), if_neg (by omega), if_neg (by omega)]
theorem ret_not_ja {x : Insn} (h : isRet x.code = true) : isJa x = false := by
  have := ret_form h
  simp [isJa]; omega
theorem ja_not_ret {x : Insn} (h : isJa x = true) : isRet x.code = false := by
  have : x.code = 5 := by simpa [isJa] using h
  rw [this]; rfl
theorem ret_not_test {x : Insn} (h : isRet x.code = true) : isTest x = false := by
  have := ret_form' h
  simp [isTest]; omega

theorem map_len (f : Nat → Insn) (n : Nat) : ((List.range n).map f).length = n := by simp
theorem ins_map (f : Nat → Insn) (n i : Nat) (h : i < n) : ins ((List.range n).map f) i = f i := by simp [ins, h]
theorem giveL_len (l : List Insn) : (giveL l).length = l.length := map_len _ _
theorem leadL_len (l : List Insn) : (leadL l).length = l.length := map_len _ _
theorem levelL_len (l : List Insn) : (levelL l).length = l.length := map_len _ _
theorem giveL_ins {l : List Insn} {i : Nat} (h : i < l.length) : ins (giveL l) i = giveAt l i := ins_map _ _ _ h
theorem leadL_ins {l : List Insn} {i : Nat} (h : i < l.length) : ins (leadL l) i = leadAt l i := ins_map _ _ _ h
theorem levelL_ins {l : List Insn} {i : Nat} (h : i < l.length) : ins (levelL l) i = levelAt l i := ins_map _ _ _ h

theorem give_good {l : List Insn} (h : Good l) : Good (giveL l) := by
  have hl := h.len
  have key : ∀ i, i < l.length → giveAt l i = ins l i ∨ (isJa (ins l i) = true ∧ isRet (ins l (endOf l i)).code = true ∧ giveAt l i = ins l (endOf l i)) := by
    intro i hi
    unfold giveAt
    by_cases hc : (isJa (ins l i) && isRet (ins l (endOf l i)).code) = true
    · rw [if_pos hc]; simp at hc; exact .inr ⟨hc.1, hc.2, rfl⟩
    · rw [if_neg hc]; exact .inl rfl
  refine good_of (by rw [giveL_len]; omega) (by rw [giveL_len]; omega) ?_ ?_ ?_
  · intro i hi
    rw [giveL_len] at hi
    rw [giveL_ins hi]
    rcases key i hi with e | ⟨_, _, e⟩
    · rw [e]; exact h.okAt hi
    · rw [e]; exact h.okAt (endOf_lt h hi)
  · intro i hi
    rw [giveL_len] at hi
    rw [giveL_ins hi, giveL_len]
    rcases key i hi with e | ⟨_, h2, e⟩
    · rw [e]; exact h.one hi
    · rw [e]; exact one_ret _ _ h2
  · rw [giveL_len, giveL_ins (by omega)]
    rcases key (l.length - 1) (by omega) with e | ⟨h1, _⟩
    · rw [e]; exact h.last
    · have := h.last
      rw [ja_not_ret h1] at this; cases this

/-- The parts of a place that may be there. -/
theorem one_parts {x : Insn} {i n : Nat} (h : one x i n = 0) :
    0 ≤ form x.code ∧ ¬ (x.code = 32 ∧ (x.k % 4 ≠ 0 ∨ 64 ≤ x.k)) ∧ ¬ (x.code = 52 ∧ x.k = 0) ∧ ¬ ((x.code = 100 ∨ x.code = 116) ∧ 32 ≤ x.k) ∧ ¬ (form x.code = 3 ∧ 16 ≤ x.k) ∧
    ¬ (form x.code = 4 ∧ behind i n ≤ x.k) ∧ ¬ ((form x.code = 5 ∨ form x.code = 6) ∧ behind i n ≤ max x.jt x.jf) := by
  unfold one at h
  by_cases h1 : form x.code < 0
  · rw [if_pos h1] at h; simp at h
  rw [if_neg h1] at h
  by_cases h2 : x.code = 32 ∧ (x.k % 4 ≠ 0 ∨ 64 ≤ x.k)
  · rw [if_pos h2] at h; simp at h
  rw [if_neg h2] at h
  by_cases h3 : x.code = 52 ∧ x.k = 0
  · rw [if_pos h3] at h; simp at h
  rw [if_neg h3] at h
  by_cases h4 : (x.code = 100 ∨ x.code = 116) ∧ 32 ≤ x.k
  · rw [if_pos h4] at h; simp at h
  rw [if_neg h4] at h
  by_cases h5 : form x.code = 3 ∧ 16 ≤ x.k
  · rw [if_pos h5] at h; simp at h
  rw [if_neg h5] at h
  by_cases h6 : form x.code = 4 ∧ behind i n ≤ x.k
  · rw [if_pos h6] at h; simp at h
  rw [if_neg h6] at h
  by_cases h7 : (form x.code = 5 ∨ form x.code = 6) ∧ behind i n ≤ max x.jt x.jf
  · rw [if_pos h7] at h; simp at h
  exact ⟨by omega, h2, h3, h4, h5, h6, h7⟩

theorem one_of {x : Insn} {i n : Nat} (h1 : 0 ≤ form x.code) (h2 : ¬ (x.code = 32 ∧ (x.k % 4 ≠ 0 ∨ 64 ≤ x.k))) (h3 : ¬ (x.code = 52 ∧ x.k = 0)) (h4 : ¬ ((x.code = 100 ∨ x.code = 116) ∧ 32 ≤ x.k)) (h5 : ¬ (form x.code = 3 ∧ 16 ≤ x.k))
    (h6 : ¬ (form x.code = 4 ∧ behind i n ≤ x.k)) (h7 : ¬ ((form x.code = 5 ∨ form x.code = 6) ∧ behind i n ≤ max x.jt x.jf)) : one x i n = 0 := by
  unfold one
  rw [if_neg (by omega), if_neg h2, if_neg h3, if_neg h4, if_neg h5, if_neg h6, if_neg h7]

theorem behind_gt {i n k : Nat} (h : i + 1 + k < n) : ¬ behind i n ≤ k := by
  unfold behind
  rw [if_pos (by omega)]; omega
theorem gt_behind {i n k : Nat} (h : ¬ behind i n ≤ k) : i + 1 + k < n := by
  unfold behind at h
  split at h <;> omega

theorem ja_form {x : Insn} (h : isJa x = true) : x.code = 5 ∧ form x.code = 4 := by
  have : x.code = 5 := by simpa [isJa] using h
  exact ⟨this, by rw [this]; exact form_ja⟩
theorem form4_ja {c : Nat} (h : form c = 4) : c = 5 := by
  by_cases hc : c < 256
  · have : ∀ c : Fin 256, form c.val = 4 → c.val = 5 := by decide +kernel
    exact this ⟨c, hc⟩ h
  · rw [form_big c (by omega)] at h; omega
theorem test_form {x : Insn} (h : isTest x = true) : form x.code = 5 ∨ form x.code = 6 := by simpa [isTest] using h
theorem test_code {x : Insn} (h : isTest x = true) : x.code ≠ 32 ∧ x.code ≠ 52 ∧ x.code ≠ 100 ∧ x.code ≠ 116 := by
  have hf := test_form h
  refine ⟨?_, ?_, ?_, ?_⟩ <;> (intro e; rw [e] at hf; revert hf; decide)

/-- A jump that leads within. -/
theorem one_ja {x : Insn} {i n : Nat} (h : isJa x = true) (hk : i + 1 + x.k < n) : one x i n = 0 := by
  obtain ⟨hc, hf⟩ := ja_form h
  refine one_of (by omega) (by omega) (by omega) (by omega) (by omega) (fun ⟨_, e⟩ => behind_gt hk e) (by omega)
theorem one_test {x : Insn} {i n : Nat} (h : isTest x = true) (ht : i + 1 + x.jt < n) (hf : i + 1 + x.jf < n) : one x i n = 0 := by
  obtain h5 := test_form h
  obtain ⟨c1, c2, c3, c4⟩ := test_code h
  refine one_of (by omega) (by omega) (by omega) (by omega) (by omega) (by omega) (fun ⟨_, e⟩ => ?_)
  rcases Nat.le_total x.jt x.jf with hm | hm
  · rw [Nat.max_eq_right hm] at e; exact behind_gt hf e
  · rw [Nat.max_eq_left hm] at e; exact behind_gt ht e
/-- What is neither jump nor test may stand anywhere. -/
theorem one_move {x : Insn} {i n i' n' : Nat} (h : one x i n = 0) (hj : isJa x = false) (ht : isTest x = false) : one x i' n' = 0 := by
  obtain ⟨h1, h2, h3, h4, h5, h6, h7⟩ := one_parts h
  refine one_of h1 h2 h3 h4 h5 ?_ ?_
  · rintro ⟨e, _⟩
    have := form4_ja e
    simp [isJa] at hj; omega
  · rintro ⟨e, _⟩
    simp [isTest] at ht; omega

theorem lead_good {l : List Insn} (h : Good l) : Good (leadL l) := by
  have hl := h.len
  refine good_of (by rw [leadL_len]; omega) (by rw [leadL_len]; omega) ?_ ?_ ?_
  · intro i hi
    rw [leadL_len] at hi
    rw [leadL_ins hi]
    have hok := h.okAt hi
    by_cases hj : isJa (ins l i) = true
    · rw [leadAt_ja hj]
      have := endOf_lt h hi
      exact ⟨hok.code, hok.jt, hok.jf, by show endOf l i - i - 1 < _; omega⟩
    · by_cases ht : isTest (ins l i) = true
      · rw [leadAt_test ht]
        have h1 := h.test hi ht
        have e1 := lead1_lt h i _ h1.1
        have e2 := lead1_lt h i _ h1.2
        exact ⟨hok.code, by show lead1 _ _ _ < _; omega, by show lead1 _ _ _ < _; omega, hok.k⟩
      · rw [leadAt_else (by simpa using hj) (by simpa using ht)]; exact hok
  · intro i hi
    rw [leadL_len] at hi
    rw [leadL_ins hi, leadL_len]
    by_cases hj : isJa (ins l i) = true
    · rw [leadAt_ja hj]
      have h1 := endOf_lt h hi
      have h2 := endOf_ja_gt h hi hj
      refine one_ja (x := { ins l i with k := endOf l i - i - 1 }) hj ?_
      show i + 1 + (endOf l i - i - 1) < _
      omega
    · by_cases ht : isTest (ins l i) = true
      · rw [leadAt_test ht]
        have h1 := h.test hi ht
        exact one_test (x := { ins l i with jt := lead1 l i (ins l i).jt, jf := lead1 l i (ins l i).jf }) ht (lead1_lt h i _ h1.1) (lead1_lt h i _ h1.2)
      · rw [leadAt_else (by simpa using hj) (by simpa using ht)]; exact h.one hi
  · rw [leadL_len, leadL_ins (by omega)]
    have hr := h.last
    rw [leadAt_else (ret_not_ja hr) (ret_not_test hr)]
    exact hr

theorem levelAt_else {l : List Insn} {i : Nat} (h : ¬ (isTest (ins l i) = true ∧ (ins l i).jt = (ins l i).jf)) : levelAt l i = ins l i := by
  unfold levelAt
  rw [if_neg (by simpa using h)]
theorem levelAt_ja {l : List Insn} {i : Nat} (h : isTest (ins l i) = true) (h2 : (ins l i).jt = (ins l i).jf) : levelAt l i = ⟨5, 0, 0, (ins l i).jt⟩ := by
  unfold levelAt
  rw [if_pos (by simp [h, h2])]

theorem level_good {l : List Insn} (h : Good l) : Good (levelL l) := by
  have hl := h.len
  refine good_of (by rw [levelL_len]; omega) (by rw [levelL_len]; omega) ?_ ?_ ?_
  · intro i hi
    rw [levelL_len] at hi
    rw [levelL_ins hi]
    have hok := h.okAt hi
    by_cases hj : isTest (ins l i) = true ∧ (ins l i).jt = (ins l i).jf
    · rw [levelAt_ja hj.1 hj.2]
      exact ⟨by show (5 : Nat) < _; omega, by show (0 : Nat) < _; omega, by show (0 : Nat) < _; omega, by have := hok.jt; show (ins l i).jt < _; omega⟩
    · rw [levelAt_else hj]; exact hok
  · intro i hi
    rw [levelL_len] at hi
    rw [levelL_ins hi, levelL_len]
    by_cases hj : isTest (ins l i) = true ∧ (ins l i).jt = (ins l i).jf
    · rw [levelAt_ja hj.1 hj.2]
      exact one_ja (by rfl) (h.test hi hj.1).1
    · rw [levelAt_else hj]; exact h.one hi
  · rw [levelL_len, levelL_ins (by omega)]
    have hr := h.last
    rw [levelAt_else (fun e => by rw [ret_not_test hr] at e; cases e.1)]
    exact hr

/-! What is reached -/
def R (l : List Insn) (i : Nat) : Bool := metAt l i i

theorem metAt_mono (l : List Insn) (k : Nat) : ∀ j i, i ≤ j → metAt l i k = true → metAt l j k = true
  | 0, i, h, hm => by obtain rfl : i = 0 := by omega
                      exact hm
  | j + 1, i, h, hm => by
    rcases Nat.lt_or_ge j i with h2 | h2
    · obtain rfl : i = j + 1 := by omega
      exact hm
    · have := metAt_mono l k j i h2 hm
      rw [metAt]
      split
      · simp [this]
      · exact this

theorem R_zero (l : List Insn) : R l 0 = true := rfl
theorem R_next {l : List Insn} {i k : Nat} (h : R l i = true) (hk : k ∈ nexts (ins l i) i) (hik : i < k) : R l k = true := by
  refine metAt_mono l k k (i + 1) hik ?_
  unfold R at h
  rw [metAt, if_pos h]
  simp [ins] at hk ⊢
  exact .inr hk

theorem metAt_from {l : List Insn} {k : Nat} : ∀ j, metAt l j k = true → k = 0 ∨ ∃ i, i < j ∧ R l i = true ∧ k ∈ nexts (ins l i) i
  | 0, h => .inl (by simpa [metAt] using h)
  | j + 1, h => by
    rw [metAt] at h
    split at h
    · rename_i hj
      simp at h
      rcases h with h | h
      · rcases metAt_from j h with h | ⟨i, h1, h2⟩
        · exact .inl h
        · exact .inr ⟨i, by omega, h2⟩
      · exact .inr ⟨j, by omega, hj, by simpa [ins] using h⟩
    · rcases metAt_from j h with h | ⟨i, h1, h2⟩
      · exact .inl h
      · exact .inr ⟨i, by omega, h2⟩

theorem R_from {l : List Insn} {k : Nat} (h : R l k = true) : k = 0 ∨ ∃ i, i < k ∧ R l i = true ∧ k ∈ nexts (ins l i) i := metAt_from k h

theorem outAt_eq (l : List Insn) : ∀ n, outAt l n = (List.range n).filter (R l)
  | 0 => rfl
  | n + 1 => by
    rw [outAt, List.range_succ, List.filter_append, outAt_eq l n]
    unfold R
    split
    · rename_i h; simp [h]
    · rename_i h; simp [h]

theorem reach_eq (l : List Insn) : reach l = (List.range l.length).filter (R l) := outAt_eq l _
theorem stay_eq {l : List Insn} {i : Nat} (h : i < l.length) : stay l i = (R l i && (decide (0 < (ins l i).k) || !isJa (ins l i))) := by
  unfold stay
  rw [reach_eq]
  congr 1
  rw [Bool.eq_iff_iff]
  simp [h]
theorem stay_out {l : List Insn} {i : Nat} (h : l.length ≤ i) : stay l i = false := by
  unfold stay
  rw [reach_eq]
  simp; omega
theorem stays_eq (l : List Insn) : stays l = (List.range l.length).filter (stay l) := by
  unfold stays
  rw [reach_eq, List.filter_filter]
  refine List.filter_congr (fun i hi => ?_)
  rw [stay_eq (List.mem_range.1 hi), Bool.and_comm]

theorem ahead_mono (f : Nat → Bool) : ∀ {i j : Nat}, i ≤ j → ahead f i ≤ ahead f j
  | i, 0, h => by obtain rfl : i = 0 := by omega
                  exact Nat.le_refl _
  | i, j + 1, h => by
    rcases Nat.lt_or_ge j i with h2 | h2
    · obtain rfl : i = j + 1 := by omega
      exact Nat.le_refl _
    · have := ahead_mono f h2
      rw [ahead]; omega
theorem ahead_lt {f : Nat → Bool} {i j : Nat} (h : f i = true) (hij : i < j) : ahead f i < ahead f j := by
  have := ahead_mono f (show i + 1 ≤ j by omega)
  rw [ahead, if_pos h] at this
  omega
theorem ahead_le (f : Nat → Bool) : ∀ i, ahead f i ≤ i
  | 0 => Nat.le_refl _
  | i + 1 => by have := ahead_le f i; rw [ahead]; split <;> omega

theorem filt_len (f : Nat → Bool) : ∀ n, ((List.range n).filter f).length = ahead f n
  | 0 => rfl
  | n + 1 => by
    rw [List.range_succ, List.filter_append, List.length_append, filt_len f n, ahead]
    by_cases h : f n = true <;> simp [h]
theorem filt_get (f : Nat → Bool) : ∀ n i, i < n → f i = true → ((List.range n).filter f)[ahead f i]? = some i
  | 0, i, h, _ => by omega
  | n + 1, i, h, hf => by
    rw [List.range_succ, List.filter_append]
    rcases Nat.lt_or_ge i n with h2 | h2
    · rw [List.getElem?_append_left (by rw [filt_len]; exact ahead_lt hf h2)]
      exact filt_get f n i h2 hf
    · obtain rfl : i = n := by omega
      rw [List.getElem?_append_right (by rw [filt_len]; omega), filt_len]
      simp [hf]
theorem filt_from (f : Nat → Bool) {n p : Nat} (hp : p < ahead f n) : ∃ i, i < n ∧ f i = true ∧ ahead f i = p := by
  induction n with
  | zero => simp [ahead] at hp
  | succ n ih =>
    rw [ahead] at hp
    by_cases h : p < ahead f n
    · obtain ⟨i, h1, h2⟩ := ih h
      exact ⟨i, by omega, h2⟩
    · by_cases hf : f n = true
      · rw [if_pos hf] at hp
        exact ⟨n, by omega, hf, by omega⟩
      · rw [if_neg hf] at hp; omega

theorem leaveL_len (l : List Insn) : (leaveL l).length = ahead (stay l) l.length := by
  unfold leaveL; rw [List.length_map, stays_eq, filt_len]
theorem leaveL_ins {l : List Insn} {i : Nat} (h : i < l.length) (hs : stay l i = true) : ins (leaveL l) (ahead (stay l) i) = bare (moved l i) := by
  have hg := filt_get (stay l) l.length i h hs
  unfold ins leaveL
  rw [stays_eq, List.getD_eq_getElem?_getD, List.getElem?_map, hg]
  rfl

theorem nexts_ja {x : Insn} {i : Nat} (h : isJa x = true) (hk : x.k ≤ 255) : nexts x i = [i + 1 + x.k] := by
  obtain ⟨hc, hf⟩ := ja_form h
  unfold nexts
  rw [if_neg (by rw [hf, hc]; decide), if_pos hf, if_pos hk]
theorem nexts_test {x : Insn} {i : Nat} (h : isTest x = true) : ∀ k, k ∈ nexts x i ↔ (k = i + 1 + x.jt ∨ k = i + 1 + x.jf) := by
  have hf := test_form h
  have hr : isRet x.code = false := by
    cases hr : isRet x.code
    · rfl
    · have := ret_not_test hr; rw [h] at this; cases this
  intro k
  unfold nexts
  rw [if_neg (by rw [hr]; simp; omega), if_neg (by omega), if_pos hf]
  split
  · rename_i e; simp [e]
  · rcases Nat.le_total x.jt x.jf with hm | hm
    · simp [Nat.min_eq_left hm, Nat.max_eq_right hm]
    · simp [Nat.min_eq_right hm, Nat.max_eq_left hm]; omega
theorem nexts_ret {x : Insn} {i : Nat} (h : isRet x.code = true) : nexts x i = [] := by
  unfold nexts; rw [if_pos (.inr h)]
theorem nexts_else {x : Insn} {i : Nat} (hf : 0 ≤ form x.code) (hj : isJa x = false) (ht : isTest x = false) (hr : isRet x.code = false) : nexts x i = [i + 1] := by
  unfold nexts
  rw [if_neg (by rw [hr]; simp; omega), if_neg, if_neg]
  · simpa [isTest] using ht
  · intro e; have := form4_ja e; simp [isJa] at hj; omega

theorem Good.nexts_lt {l : List Insn} (h : Good l) {i : Nat} (hi : i < l.length) : ∀ k ∈ nexts (ins l i) i, i < k ∧ k < l.length := by
  rw [at_get l i hi]; exact Go.Proofs.Ytfjbanfibmpalaa.nexts_lt h.checked hi
theorem Good.next {l : List Insn} (h : Good l) {i : Nat} (hi : i < l.length) (hr : isRet (ins l i).code = false) : ∃ k, k ∈ nexts (ins l i) i := by
  cases hn : nexts (ins l i) i with
  | nil => have := (nexts_nil h hi).1 (by rw [hn]; rfl); rw [hr] at this; cases this
  | cons k r => exact ⟨k, by simp⟩

/-- From a place that is reached on there is one that stays. -/
theorem stay_from {l : List Insn} (h : Good l) : ∀ n i, l.length - i ≤ n → i < l.length → R l i = true → ∃ j, i ≤ j ∧ j < l.length ∧ stay l j = true
  | 0, i, hn, hi, _ => by omega
  | n + 1, i, hn, hi, hr => by
    by_cases hs : stay l i = true
    · exact ⟨i, Nat.le_refl _, hi, hs⟩
    · have hj : isRet (ins l i).code = false := by
        cases hret : isRet (ins l i).code
        · rfl
        · exfalso; apply hs
          rw [stay_eq hi, hr, ret_not_ja hret]; simp
      obtain ⟨k, hk⟩ := h.next hi hj
      have hlt := h.nexts_lt hi k hk
      obtain ⟨j, h1, h2⟩ := stay_from h n k (by omega) hlt.2 (R_next hr hk hlt.1)
      exact ⟨j, by omega, h2⟩
theorem ahead_total {l : List Insn} (h : Good l) {i : Nat} (hi : i < l.length) (hr : R l i = true) : ahead (stay l) i < ahead (stay l) l.length := by
  obtain ⟨j, h1, h2, h3⟩ := stay_from h _ i (Nat.le_refl _) hi hr
  have := ahead_mono (stay l) h1
  have := ahead_lt h3 h2
  omega

theorem form_bare (x : Insn) : (bare x).code = x.code := by
  unfold bare; repeat' split
  all_goals rfl
theorem bare_ja {x : Insn} (h : isJa x = true) : bare x = ⟨x.code, 0, 0, x.k⟩ := by
  obtain ⟨hc, hf⟩ := ja_form h
  unfold bare
  rw [if_neg (by omega), if_neg (by omega), if_neg (by omega), if_neg (by omega)]
theorem bare_test {x : Insn} (h : isTest x = true) : (bare x).jt = x.jt ∧ (bare x).jf = x.jf := by
  have hf := test_form h
  unfold bare
  rw [if_neg (by omega)]
  rcases hf with hf | hf
  · rw [if_pos hf]; exact ⟨rfl, rfl⟩
  · rw [if_neg (by omega), if_pos hf]; exact ⟨rfl, rfl⟩
theorem bare_k {x : Insn} (h : form x.code ≠ 0) (h6 : form x.code ≠ 6) : (bare x).k = x.k := by
  unfold bare; repeat' split
  all_goals first | rfl | (exfalso; omega)
theorem bare_ok {x : Insn} (h : x.Ok) : (bare x).Ok := by
  have := h.code; have := h.jt; have := h.jf; have := h.k
  unfold bare; repeat' split
  all_goals first | exact h | (constructor <;> simp <;> omega)
theorem bare_isJa (x : Insn) : isJa (bare x) = isJa x := by unfold isJa; rw [form_bare]
theorem bare_isTest (x : Insn) : isTest (bare x) = isTest x := by unfold isTest; rw [form_bare]
theorem bare_bare (x : Insn) : bare (bare x) = bare x := by
  by_cases h1 : form x.code < 0
  · have e : bare x = x := by unfold bare; rw [if_pos h1]
    rw [e, e]
  by_cases h2 : form x.code = 5
  · have e : bare x = x := by unfold bare; rw [if_neg h1, if_pos h2]
    rw [e, e]
  by_cases h3 : form x.code = 6
  · have e : bare x = { x with k := 0 } := by unfold bare; rw [if_neg h1, if_neg h2, if_pos h3]
    rw [e]; unfold bare; rw [if_neg h1, if_neg h2, if_pos h3]
  by_cases h4 : form x.code = 0
  · have e : bare x = ⟨x.code, 0, 0, 0⟩ := by unfold bare; rw [if_neg h1, if_neg h2, if_neg h3, if_pos h4]
    rw [e]; unfold bare; rw [if_neg h1, if_neg h2, if_neg h3, if_pos h4]
  have e : bare x = ⟨x.code, 0, 0, x.k⟩ := by unfold bare; rw [if_neg h1, if_neg h2, if_neg h3, if_neg h4]
  rw [e]; unfold bare; rw [if_neg h1, if_neg h2, if_neg h3, if_neg h4]
/-- What is bare may stand where it may stand. -/
theorem one_bare {x : Insn} {i n : Nat} (h : one x i n = 0) : one (bare x) i n = 0 := by
  obtain ⟨h1, h2, h3, h4, h5, h6, h7⟩ := one_parts h
  by_cases ht : isTest x = true
  · have e := bare_test ht
    obtain ⟨c1, c2, c3, c4⟩ := test_code ht
    have hf := test_form ht
    refine one_of (by rw [form_bare]; exact h1) (by rw [form_bare]; omega) (by rw [form_bare]; omega) (by rw [form_bare]; omega) (by rw [form_bare]; omega) (by rw [form_bare]; omega) (by rw [form_bare, e.1, e.2]; exact h7)
  · have hf : form x.code ≠ 5 ∧ form x.code ≠ 6 := by simpa [isTest] using ht
    by_cases h0 : form x.code = 0
    · have : x.code ≠ 32 ∧ x.code ≠ 52 ∧ x.code ≠ 100 ∧ x.code ≠ 116 := by
        refine ⟨?_, ?_, ?_, ?_⟩ <;> (intro e; rw [e] at h0; revert h0; decide)
      refine one_of ?_ ?_ ?_ ?_ ?_ ?_ ?_ <;> rw [form_bare] <;> omega
    · have e := bare_k h0 hf.2
      refine one_of ?_ ?_ ?_ ?_ ?_ ?_ ?_ <;> rw [form_bare] <;> (try rw [e]) <;> first | assumption | omega

theorem moved_ja {l : List Insn} {i : Nat} (h : isJa (ins l i) = true) : moved l i = { ins l i with k := ahead (stay l) (i + 1 + (ins l i).k) - ahead (stay l) i - 1 } := by unfold moved; rw [if_pos h]
theorem moved_test {l : List Insn} {i : Nat} (h : isTest (ins l i) = true) : moved l i = { ins l i with jt := ahead (stay l) (i + 1 + (ins l i).jt) - ahead (stay l) i - 1, jf := ahead (stay l) (i + 1 + (ins l i).jf) - ahead (stay l) i - 1 } := by
  have hj : ¬ isJa (ins l i) = true := fun e => by rw [ja_not_test e] at h; cases h
  unfold moved; rw [if_neg hj, if_pos h]
theorem moved_else {l : List Insn} {i : Nat} (h : isJa (ins l i) = false) (ht : isTest (ins l i) = false) : moved l i = ins l i := by unfold moved; rw [h, ht]; rfl
theorem moved_code (l : List Insn) (i : Nat) : (moved l i).code = (ins l i).code := by
  unfold moved; repeat' split
  all_goals rfl

theorem stay_R {l : List Insn} {i : Nat} (h : stay l i = true) : i < l.length ∧ R l i = true := by
  rcases Nat.lt_or_ge i l.length with hi | hi
  · rw [stay_eq hi] at h; simp at h; exact ⟨hi, h.1⟩
  · rw [stay_out hi] at h; cases h

/-- Where a place leads that stays. -/
theorem target {l : List Insn} (h : Good l) {i t : Nat} (hs : stay l i = true) (ht : t ∈ nexts (ins l i) i) : ahead (stay l) i < ahead (stay l) t ∧ ahead (stay l) t < ahead (stay l) l.length ∧ ahead (stay l) t ≤ t ∧ R l t = true := by
  obtain ⟨hi, hr⟩ := stay_R hs
  have hlt := h.nexts_lt hi t ht
  have hrt := R_next hr ht hlt.1
  exact ⟨ahead_lt hs hlt.1, ahead_total h hlt.2 hrt, ahead_le _ _, hrt⟩

theorem leave_good {l : List Insn} (h : Good l) : Good (leaveL l) ∧ (leaveL l).length ≤ l.length := by
  have hl := h.len
  have hlen : (leaveL l).length ≤ l.length := by rw [leaveL_len]; exact ahead_le _ _
  refine ⟨?_, hlen⟩
  have hpos : 1 ≤ (leaveL l).length := by
    rw [leaveL_len]
    have := ahead_total h (i := 0) (by omega) (R_zero l)
    omega
  refine good_of hpos (by omega) ?_ ?_ ?_
  · intro p hp
    rw [leaveL_len] at hp
    obtain ⟨i, hi, hs, rfl⟩ := filt_from _ hp
    rw [leaveL_ins hi hs]
    refine bare_ok ?_
    have hok := h.okAt hi
    have hb : ∀ n, ahead (stay l) (i + 1 + n) - ahead (stay l) i - 1 ≤ n := by
      intro n
      have h1 : ∀ n, ahead (stay l) (i + 1 + n) ≤ ahead (stay l) i + 1 + n := by
        intro n
        induction n with
        | zero => rw [Nat.add_zero, ahead]; split <;> omega
        | succ n ih => rw [show i + 1 + (n + 1) = (i + 1 + n) + 1 by omega, ahead]; split <;> omega
      have := h1 n
      omega
    have := hok.code; have h1 := hok.jt; have h2 := hok.jf; have h3 := hok.k
    have b1 := hb (ins l i).jt
    have b2 := hb (ins l i).jf
    have b3 := hb (ins l i).k
    unfold moved
    repeat' split
    · exact ⟨hok.code, hok.jt, hok.jf, by show ahead _ _ - _ - 1 < _; omega⟩
    · exact ⟨hok.code, by show ahead _ _ - _ - 1 < _; omega, by show ahead _ _ - _ - 1 < _; omega, hok.k⟩
    · exact hok
  · intro p hp
    rw [leaveL_len] at hp ⊢
    obtain ⟨i, hi, hs, rfl⟩ := filt_from _ hp
    rw [leaveL_ins hi hs]
    refine one_bare ?_
    by_cases hj : isJa (ins l i) = true
    · rw [moved_ja hj]
      have hk := h.ja hi hj
      obtain ⟨t1, t2, _⟩ := target h hs (t := i + 1 + (ins l i).k) (by rw [nexts_ja hj (by omega)]; simp)
      refine one_ja (x := { ins l i with k := _ }) hj ?_
      show ahead (stay l) i + 1 + (_ - _ - 1) < _
      omega
    · by_cases ht : isTest (ins l i) = true
      · rw [moved_test ht]
        obtain ⟨t1, t2, _⟩ := target h hs (t := i + 1 + (ins l i).jt) ((nexts_test ht _).2 (.inl rfl))
        obtain ⟨t3, t4, _⟩ := target h hs (t := i + 1 + (ins l i).jf) ((nexts_test ht _).2 (.inr rfl))
        refine one_test (x := { ins l i with jt := _, jf := _ }) ht ?_ ?_
        · show ahead (stay l) i + 1 + (_ - _ - 1) < _
          omega
        · show ahead (stay l) i + 1 + (_ - _ - 1) < _
          omega
      · rw [moved_else (by simpa using hj) (by simpa using ht)]
        exact one_move (h.one hi) (by simpa using hj) (by simpa using ht)
  · rw [leaveL_len] at hpos ⊢
    obtain ⟨i, hi, hs, hp⟩ := filt_from (stay l) (n := l.length) (p := ahead (stay l) l.length - 1) (by omega)
    rw [← hp, leaveL_ins hi hs, form_bare, moved_code]
    cases hr : isRet (ins l i).code
    · obtain ⟨k, hk⟩ := h.next hi hr
      obtain ⟨t1, t2, _⟩ := target h hs hk
      omega
    · rfl

theorem once_good {l : List Insn} (h : Good l) : Good (onceL l) := (leave_good (level_good (lead_good (give_good h)))).1
theorem once_len {l : List Insn} (h : Good l) : (onceL l).length ≤ l.length := by
  have := (leave_good (level_good (lead_good (give_good h)))).2
  rw [levelL_len, leadL_len, giveL_len] at this
  exact this
end Go.Proofs.Ytfjbanfibmpalaa

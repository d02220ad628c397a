/- Plain: data with another word; what a program returns hangs on what it loads. -/
import Derived.Test.YtfjbanfibmpalaaPA
set_option linter.unusedVariables false
set_option linter.unusedSimpArgs false
namespace Go.Proofs.Ytfjbanfibmpalaa

def ofW (l : List Nat) : Dt :=
  ⟨l.getD 0 0, l.getD 1 0, l.getD 2 0 + 4294967296 * l.getD 3 0, l.getD 4 0 + 4294967296 * l.getD 5 0, l.getD 6 0 + 4294967296 * l.getD 7 0, l.getD 8 0 + 4294967296 * l.getD 9 0,
   l.getD 10 0 + 4294967296 * l.getD 11 0, l.getD 12 0 + 4294967296 * l.getD 13 0, l.getD 14 0 + 4294967296 * l.getD 15 0⟩
theorem words_ofW (l : List Nat) (h : l.length = 16) (hb : ∀ y ∈ l, y < 4294967296) : wordsD (ofW l) = l := by
  match l, h with
  | [a0, a1, a2, a3, a4, a5, a6, a7, a8, a9, a10, a11, a12, a13, a14, a15], _ =>
    simp only [List.mem_cons, List.not_mem_nil, or_false, forall_eq_or_imp, forall_eq] at hb
    simp only [wordsD, ofW, List.getD_cons_zero, List.getD_cons_succ]
    simp only [List.cons.injEq, and_true, true_and]
    omega
theorem ofW_ok (l : List Nat) (h : l.length = 16) (hb : ∀ y ∈ l, y < 4294967296) : (ofW l).Ok := by
  match l, h with
  | [a0, a1, a2, a3, a4, a5, a6, a7, a8, a9, a10, a11, a12, a13, a14, a15], _ =>
    simp only [List.mem_cons, List.not_mem_nil, or_false, forall_eq_or_imp, forall_eq] at hb
    refine ⟨?_, ?_, ?_, ?_, ?_, ?_, ?_, ?_, ?_⟩ <;> simp only [ofW, List.getD_cons_zero, List.getD_cons_succ] <;> omega
theorem ofW_words (d : Dt) : ofW (wordsD d) = d := by
  obtain ⟨nr, arch, ip, a0, a1, a2, a3, a4, a5⟩ := d
  simp only [ofW, wordsD, List.getD_cons_zero, List.getD_cons_succ, Nat.mod_add_div]
/-- The data with another word at an offset. -/
def withL (d : Dt) (k x : Nat) : Dt := ofW ((wordsD d).set (k / 4) x)
theorem set_lt {l : List Nat} (h : ∀ y ∈ l, y < 4294967296) (i : Nat) {x : Nat} (hx : x < 4294967296) : ∀ y ∈ l.set i x, y < 4294967296 := fun y hy => by
  rcases List.mem_or_eq_of_mem_set hy with q | q
  · exact h y q
  · omega
theorem words_with {d : Dt} (hd : d.Ok) (k : Nat) {x : Nat} (hx : x < 4294967296) : wordsD (withL d k x) = (wordsD d).set (k / 4) x :=
  words_ofW _ (by rw [List.length_set]; rfl) (set_lt (wordsD_lt hd) _ hx)
theorem with_ok {d : Dt} (hd : d.Ok) (k : Nat) {x : Nat} (hx : x < 4294967296) : (withL d k x).Ok := ofW_ok _ (by rw [List.length_set]; rfl) (set_lt (wordsD_lt hd) _ hx)
theorem word_with {d : Dt} (hd : d.Ok) (k : Nat) (hk : k ≤ 60) {x : Nat} (hx : x < 4294967296) (j : Nat) : wordD (withL d k x) j = if j / 4 = k / 4 then x else wordD d j := by
  unfold wordD
  rw [words_with hd k hx, List.getD_eq_getElem?_getD, List.getElem?_set]
  by_cases h : k / 4 = j / 4
  · rw [if_pos h, if_pos h.symm, if_pos (by show k / 4 < 16; omega)]; rfl
  · rw [if_neg h, if_neg (fun q => h q.symm), List.getD_eq_getElem?_getD]

theorem chunk8 (l : List Nat) (i : Nat) (h : i + 1 < l.length) : ((l.flatMap (lowL 4)).drop (4 * i)).take 8 = lowL 4 (l.getD i 0) ++ lowL 4 (l.getD (i + 1) 0) := by
  rw [show 8 = 4 + 4 from rfl, List.take_add, chunk_flat l i (by omega), List.drop_drop, show 4 * i + 4 = 4 * (i + 1) by omega, chunk_flat l (i + 1) h]
theorem numL_app : ∀ a b : List Nat, numL (a ++ b) = numL a + 256 ^ a.length * numL b
  | [], b => by simp [numL]
  | x :: a, b => by
    rw [List.cons_append, numL, numL_app a b, numL, List.length_cons, Nat.pow_succ, Nat.mul_add, Nat.add_assoc, Nat.mul_comm (256 ^ a.length) 256, Nat.mul_assoc]
/-- The data of bytes. -/
def dOf (l : List Nat) : Dt :=
  ⟨numL ((l.drop 0).take 4), numL ((l.drop 4).take 4), numL ((l.drop 8).take 8), numL ((l.drop 16).take 8), numL ((l.drop 24).take 8), numL ((l.drop 32).take 8), numL ((l.drop 40).take 8), numL ((l.drop 48).take 8), numL ((l.drop 56).take 8)⟩
theorem dOf_words (ws : List Nat) (h : ws.length = 16) (hb : ∀ y ∈ ws, y < 4294967296) : dOf (ws.flatMap (lowL 4)) = ofW ws := by
  have hw : ∀ i, ws.getD i 0 < 4294967296 := fun i => by
    rw [List.getD_eq_getElem?_getD]
    rcases Nat.lt_or_ge i ws.length with hi | hi
    · rw [List.getElem?_eq_getElem hi]; exact hb _ (List.getElem_mem hi)
    · rw [List.getElem?_eq_none hi]; decide
  have c4 : ∀ i, i < 16 → numL (((ws.flatMap (lowL 4)).drop (4 * i)).take 4) = ws.getD i 0 := fun i hi => by rw [chunk_flat ws i (by omega), numL_word (hw i)]
  have c8 : ∀ i, i + 1 < 16 → numL (((ws.flatMap (lowL 4)).drop (4 * i)).take 8) = ws.getD i 0 + 4294967296 * ws.getD (i + 1) 0 := fun i hi => by
    rw [chunk8 ws i (by omega), numL_app, numL_word (hw i), numL_word (hw (i + 1)), lowL_len]
  have e0 := c4 0 (by decide)
  have e1 := c4 1 (by decide)
  have e2 := c8 2 (by decide)
  have e4 := c8 4 (by decide)
  have e6 := c8 6 (by decide)
  have e8 := c8 8 (by decide)
  have e10 := c8 10 (by decide)
  have e12 := c8 12 (by decide)
  have e14 := c8 14 (by decide)
  simp only [Nat.reduceMul, Nat.reduceAdd] at e0 e1 e2 e4 e6 e8 e10 e12 e14
  unfold dOf ofW
  rw [e0, e1, e2, e4, e6, e8, e10, e12, e14]

/-- What is loaded on the way decides what is returned. -/
theorem out_same {l : List Insn} (hf : ∀ i, i < l.length → 0 ≤ form (ins l i).code) (hs : ∀ i r, i < l.length → endsL (ins l i) r = none → i + 1 + offL (ins l i) r < l.length) {dd de : Nat → Nat} : ∀ f pc r, pc < l.length →
    (∀ m ∈ traceF l dd f pc r, (ins l m.1).code = 32 → dd (ins l m.1).k = de (ins l m.1).k) → outF l dd f pc r = outF l de f pc r
  | 0, pc, r, _, _ => rfl
  | f + 1, pc, r, hp, h => by
    have h0 := h (pc, r) (by unfold traceF; exact List.mem_cons_self)
    have he : effL (ins l pc) dd r = effL (ins l pc) de r := by
      have hload : (ins l pc).code % 8 = 0 ∨ (ins l pc).code % 8 = 1 → loadL (ins l pc) dd r = loadL (ins l pc) de r := by
        intro hc
        unfold loadL
        by_cases h1 : (ins l pc).code / 32 % 8 = 1
        · have hcode : (ins l pc).code = 32 := by
            have hlt := (code_facts (hf pc hp)).1
            have : ∀ c : Fin 256, 0 ≤ form c.val → (c.val % 8 = 0 ∨ c.val % 8 = 1) → c.val / 32 % 8 = 1 → c.val = 32 := by decide +kernel
            exact this ⟨_, hlt⟩ (hf pc hp) hc h1
          rw [h0 hcode]
        · simp only [h1, if_false]
      unfold effL
      by_cases c0 : (ins l pc).code % 8 = 0
      · rw [if_pos c0, if_pos c0, hload (.inl c0)]
      rw [if_neg c0, if_neg c0]
      by_cases c1 : (ins l pc).code % 8 = 1
      · rw [if_pos c1, if_pos c1, hload (.inr c1)]
      rw [if_neg c1, if_neg c1]
    unfold outF
    cases hend : endsL (ins l pc) r with
    | some v => rfl
    | none =>
      show outF l dd f _ _ = outF l de f _ _
      rw [← he]
      refine out_same hf hs f _ _ (hs pc r hp hend) (fun m hm => h m ?_)
      unfold traceF
      rw [hend]
      exact List.mem_cons_of_mem _ hm

/-- Data with what was loaded. -/
def seenL (l : List Insn) (a : Nat → Nat) (c : Dt) (m : Nat × Rg) : Dt := if (ins l m.1).code = 32 then withL c (ins l m.1).k (a (ins l m.1).k) else c
theorem seen_ok {l : List Insn} {a : Nat → Nat} (ha : ∀ k, a k < 4294967296) {c : Dt} (hc : c.Ok) (m : Nat × Rg) : (seenL l a c m).Ok := by
  unfold seenL; split
  · exact with_ok hc _ (ha _)
  · exact hc
theorem seen_fold_ok {l : List Insn} {a : Nat → Nat} (ha : ∀ k, a k < 4294967296) : ∀ (tr : List (Nat × Rg)) {c : Dt}, c.Ok → (tr.foldl (seenL l a) c).Ok
  | [], c, hc => hc
  | m :: tr, c, hc => seen_fold_ok ha tr (seen_ok ha hc m)
/-- At an offset it either is as it was, or is what was loaded; once it is what was loaded it stays so. -/
theorem seen_keep {l : List Insn} {a : Nat → Nat} (ha : ∀ k, a k < 4294967296) (hk : ∀ m : Nat × Rg, (ins l m.1).code = 32 → (ins l m.1).k ≤ 60 ∧ (ins l m.1).k % 4 = 0) {k : Nat} (hk4 : k % 4 = 0) : ∀ (tr : List (Nat × Rg)) {c : Dt}, c.Ok → wordD c k = a k → wordD (tr.foldl (seenL l a) c) k = a k
  | [], c, _, h => h
  | m :: tr, c, hc, h => by
    refine seen_keep ha hk hk4 tr (seen_ok ha hc m) ?_
    unfold seenL; split
    · rename_i hcode
      have := hk m hcode
      rw [word_with hc _ this.1 (ha _)]
      split
      · rename_i e
        have : k = (ins l m.1).k := by omega
        rw [← this]
      · exact h
    · exact h
theorem seen_all {l : List Insn} {a : Nat → Nat} (ha : ∀ k, a k < 4294967296) (hk : ∀ m : Nat × Rg, (ins l m.1).code = 32 → (ins l m.1).k ≤ 60 ∧ (ins l m.1).k % 4 = 0) : ∀ (tr : List (Nat × Rg)) {c : Dt}, c.Ok → ∀ m ∈ tr, (ins l m.1).code = 32 → wordD (tr.foldl (seenL l a) c) (ins l m.1).k = a (ins l m.1).k
  | [], c, _, m, hm, _ => by cases hm
  | x :: tr, c, hc, m, hm, hcode => by
    rcases List.mem_cons.1 hm with rfl | hm
    · have hkm := hk m hcode
      refine seen_keep ha hk hkm.2 tr (seen_ok ha hc m) ?_
      unfold seenL
      rw [if_pos hcode, word_with hc _ hkm.1 (ha _), if_pos rfl]
    · exact seen_all ha hk tr (seen_ok ha hc x) m hm hcode
end Go.Proofs.Ytfjbanfibmpalaa

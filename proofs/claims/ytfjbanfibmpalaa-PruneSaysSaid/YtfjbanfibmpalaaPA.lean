/- PA -/


/- Plain words of the program's layers 2 and 4 (insn, check): instructions, forms, names; no Go and no memory. -/
namespace Go.Proofs.Ytfjbanfibmpalaa

/-- An instruction: code, Jt, Jf, K. -/
structure Insn where
  code : Nat
  jt : Nat
  jf : Nat
  k : Nat

theorem Insn.ext' {a b : Insn} (h0 : a.code = b.code) (h1 : a.jt = b.jt) (h2 : a.jf = b.jf) (h3 : a.k = b.k) : a = b := by
  cases a; cases b; simp_all

instance : DecidableEq Insn := fun a b =>
  if h : a.code = b.code ∧ a.jt = b.jt ∧ a.jf = b.jf ∧ a.k = b.k then isTrue (Insn.ext' h.1 h.2.1 h.2.2.1 h.2.2.2)
  else isFalse (fun e => h (by subst e; exact ⟨rfl, rfl, rfl, rfl⟩))
instance : Inhabited Insn := ⟨⟨0, 0, 0, 0⟩⟩

structure Insn.Ok (x : Insn) : Prop where
  code : x.code < 65536
  jt : x.jt < 256
  jf : x.jf < 256
  k : x.k < 4294967296

/-- Name and form of a code that has no sides; no name and -1 otherwise. -/
def single (c : Nat) : ByteArray × Int :=
  if c = 0 then (⟨#[108, 100, 46, 105, 109, 109]⟩, 1)
  else if c = 1 then (⟨#[108, 100, 120, 46, 105, 109, 109]⟩, 1)
  else if c = 2 then (⟨#[115, 116]⟩, 3)
  else if c = 3 then (⟨#[115, 116, 120]⟩, 3)
  else if c = 5 then (⟨#[106, 97]⟩, 4)
  else if c = 6 then (⟨#[114, 101, 116, 46, 107]⟩, 1)
  else if c = 7 then (⟨#[116, 97, 120]⟩, 0)
  else if c = 22 then (⟨#[114, 101, 116, 46, 97]⟩, 0)
  else if c = 32 then (⟨#[108, 100, 46, 97, 98, 115]⟩, 2)
  else if c = 96 then (⟨#[108, 100, 46, 109, 101, 109]⟩, 3)
  else if c = 97 then (⟨#[108, 100, 120, 46, 109, 101, 109]⟩, 3)
  else if c = 128 then (⟨#[108, 100, 46, 108, 101, 110]⟩, 0)
  else if c = 129 then (⟨#[108, 100, 120, 46, 108, 101, 110]⟩, 0)
  else if c = 132 then (⟨#[110, 101, 103]⟩, 0)
  else if c = 135 then (⟨#[116, 120, 97]⟩, 0)
  else (⟨#[]⟩, -1)

/-- The names of reckonings by the high half. -/
def reckNames : Array ByteArray := #[⟨#[97, 100, 100]⟩, ⟨#[115, 117, 98]⟩, ⟨#[109, 117, 108]⟩, ⟨#[100, 105, 118]⟩, ⟨#[111, 114]⟩, ⟨#[97, 110, 100]⟩, ⟨#[108, 115, 104]⟩, ⟨#[114, 115, 104]⟩, ⟨#[]⟩, ⟨#[]⟩, ⟨#[120, 111, 114]⟩, ⟨#[]⟩, ⟨#[]⟩, ⟨#[]⟩, ⟨#[]⟩, ⟨#[]⟩]
def testNames : Array ByteArray := #[⟨#[]⟩, ⟨#[106, 101, 113]⟩, ⟨#[106, 103, 116]⟩, ⟨#[106, 103, 101]⟩, ⟨#[106, 115, 101, 116]⟩, ⟨#[]⟩, ⟨#[]⟩, ⟨#[]⟩, ⟨#[]⟩, ⟨#[]⟩, ⟨#[]⟩, ⟨#[]⟩, ⟨#[]⟩, ⟨#[]⟩, ⟨#[]⟩, ⟨#[]⟩]

/-- Is there a reckoning of this high half? -/
def hasReck (h : Nat) : Bool := h ≤ 7 || h == 10
def hasTest (h : Nat) : Bool := 1 ≤ h && h ≤ 4

/-- A code's form; -1: it is none. -/
def form (c : Nat) : Int :=
  if 0 ≤ (single c).2 then (single c).2
  else if 256 ≤ c then -1
  else if c % 16 = 4 then (if hasReck (c / 16) then 1 else -1)
  else if c % 16 = 12 then (if hasReck (c / 16) then 0 else -1)
  else if c % 16 = 5 then (if hasTest (c / 16) then 5 else -1)
  else if c % 16 = 13 then (if hasTest (c / 16) then 6 else -1)
  else -1

/-- The name and the form of a code below 256. -/
def named (c : Nat) : ByteArray × Int :=
  if 0 ≤ (single c).2 then single c
  else if c % 16 = 4 ∧ hasReck (c / 16) then (reckNames.getD (c / 16) default ++ ⟨#[46, 107]⟩, 1)
  else if c % 16 = 12 ∧ hasReck (c / 16) then (reckNames.getD (c / 16) default ++ ⟨#[46, 120]⟩, 0)
  else if c % 16 = 5 ∧ hasTest (c / 16) then (testNames.getD (c / 16) default ++ ⟨#[46, 107]⟩, 5)
  else if c % 16 = 13 ∧ hasTest (c / 16) then (testNames.getD (c / 16) default ++ ⟨#[46, 120]⟩, 6)
  else (⟨#[]⟩, -1)

/-- A code's name; none: the empty one. -/
def nameOf (c : Nat) : ByteArray := if c < 256 then (named c).1 else ⟨#[]⟩

def isRet (c : Nat) : Bool := c == 6 || c == 22

/-- How many stand behind a place. -/
def behind (i n : Nat) : Nat := if i + 1 < n then n - 1 - i else 0

/-- Why an instruction may not stand at a place. -/
def one (x : Insn) (i n : Nat) : Int :=
  if form x.code < 0 then 141
  else if x.code = 32 ∧ (x.k % 4 ≠ 0 ∨ 64 ≤ x.k) then 142
  else if x.code = 52 ∧ x.k = 0 then 143
  else if (x.code = 100 ∨ x.code = 116) ∧ 32 ≤ x.k then 144
  else if form x.code = 3 ∧ 16 ≤ x.k then 145
  else if form x.code = 4 ∧ behind i n ≤ x.k then 146
  else if (form x.code = 5 ∨ form x.code = 6) ∧ behind i n ≤ max x.jt x.jf then 146
  else 0

/-- What comes next (of a place up to 255). -/
def nexts (x : Insn) (i : Nat) : List Nat :=
  if form x.code < 0 ∨ isRet x.code then []
  else if form x.code = 4 then (if x.k ≤ 255 then [i + 1 + x.k] else [])
  else if form x.code = 5 ∨ form x.code = 6 then
    (if x.jt = x.jf then [i + 1 + x.jt] else [i + 1 + min x.jt x.jf, i + 1 + max x.jt x.jf])
  else [i + 1]

/-- The place of the first that may not stand there, and why; (0, 0): there is none. -/
def checkFrom (l : List Insn) (n i : Nat) : Int × Int :=
  match l with
  | [] => (0, 0)
  | x :: r => if one x i n = 0 then checkFrom r n (i + 1) else (i, one x i n)

/-- Where a program may not be a filter, and why. -/
def check (l : List Insn) : Int × Int :=
  if l.length < 1 ∨ 64 < l.length then (0, 140)
  else if (checkFrom l l.length 0).2 ≠ 0 then checkFrom l l.length 0
  else if isRet (l.getD (l.length - 1) default).code then (0, 0)
  else ((l.length : Int) - 1, 147)

/-- An instruction without what does not count. -/
def bare (x : Insn) : Insn :=
  if form x.code < 0 then x
  else if form x.code = 5 then x
  else if form x.code = 6 then { x with k := 0 }
  else if form x.code = 0 then ⟨x.code, 0, 0, 0⟩
  else ⟨x.code, 0, 0, x.k⟩

end Go.Proofs.Ytfjbanfibmpalaa

/- Plain: which places are reached; what is known of a check that is passed. -/
set_option linter.unusedVariables false
set_option linter.unusedSimpArgs false
namespace Go.Proofs.Ytfjbanfibmpalaa

def metAt (l : List Insn) : Nat → Nat → Bool
  | 0 => fun k => k == 0
  | i + 1 => if metAt l i i then fun k => metAt l i k || (nexts (l.getD i default) i).contains k else metAt l i

def outAt (l : List Insn) : Nat → List Nat
  | 0 => []
  | i + 1 => if metAt l i i then outAt l i ++ [i] else outAt l i

def reach (l : List Insn) : List Nat := outAt l l.length

theorem outAt_len (l : List Insn) : ∀ n, (outAt l n).length ≤ n
  | 0 => by simp [outAt]
  | n + 1 => by
    have := outAt_len l n
    unfold outAt
    split
    · simp; omega
    · omega

theorem outAt_lt (l : List Insn) : ∀ n, ∀ i ∈ outAt l n, i < n
  | 0 => by simp [outAt]
  | n + 1 => by
    have ih := outAt_lt l n
    unfold outAt
    split
    · intro i hi
      rcases List.mem_append.1 hi with h | h
      · have := ih i h; omega
      · simp at h; omega
    · intro i hi
      have := ih i hi; omega

theorem reach_lt (l : List Insn) : ∀ i ∈ reach l, i < l.length := outAt_lt l _
theorem reach_len (l : List Insn) : (reach l).length ≤ l.length := outAt_len l _

theorem check_len {l : List Insn} (h : (check l).2 = 0) : 1 ≤ l.length ∧ l.length ≤ 64 := by
  unfold check at h
  split at h
  · simp at h
  · omega
end Go.Proofs.Ytfjbanfibmpalaa

/- Plain: what the passes over a program make of it. -/
set_option linter.unusedVariables false
set_option linter.unusedSimpArgs false
namespace Go.Proofs.Ytfjbanfibmpalaa

/-- The i-th instruction. -/
def ins (l : List Insn) (i : Nat) : Insn := l.getD i default

def isJa (x : Insn) : Bool := x.code == 5
def isTest (x : Insn) : Bool := form x.code == 5 || form x.code == 6

/-- Where one ends up who stands at i and follows the jumps. -/
def endAux (l : List Insn) : Nat → Nat → Nat
  | 0, i => i
  | f + 1, i => if isJa (ins l i) then endAux l f (i + 1 + (ins l i).k) else i
def endOf (l : List Insn) (i : Nat) : Nat := endAux l (l.length - i) i

def giveAt (l : List Insn) (i : Nat) : Insn := if isJa (ins l i) && isRet (ins l (endOf l i)).code then ins l (endOf l i) else ins l i
def giveL (l : List Insn) : List Insn := (List.range l.length).map (giveAt l)

def lead1 (l : List Insn) (i d : Nat) : Nat := if endOf l (i + 1 + d) - i - 1 ≤ 255 then endOf l (i + 1 + d) - i - 1 else d
def leadAt (l : List Insn) (i : Nat) : Insn :=
  if isJa (ins l i) then { ins l i with k := endOf l i - i - 1 }
  else if isTest (ins l i) then { ins l i with jt := lead1 l i (ins l i).jt, jf := lead1 l i (ins l i).jf } else ins l i
def leadL (l : List Insn) : List Insn := (List.range l.length).map (leadAt l)

def levelAt (l : List Insn) (i : Nat) : Insn := if isTest (ins l i) && (ins l i).jt == (ins l i).jf then ⟨5, 0, 0, (ins l i).jt⟩ else ins l i
def levelL (l : List Insn) : List Insn := (List.range l.length).map (levelAt l)

/-- Does the place stay? -/
def stay (l : List Insn) (i : Nat) : Bool := (reach l).contains i && (decide (0 < (ins l i).k) || !isJa (ins l i))
/-- How many stay ahead of a place. -/
def ahead (f : Nat → Bool) : Nat → Nat
  | 0 => 0
  | i + 1 => ahead f i + if f i then 1 else 0
def moved (l : List Insn) (i : Nat) : Insn :=
  if isJa (ins l i) then { ins l i with k := ahead (stay l) (i + 1 + (ins l i).k) - ahead (stay l) i - 1 }
  else if isTest (ins l i) then { ins l i with jt := ahead (stay l) (i + 1 + (ins l i).jt) - ahead (stay l) i - 1, jf := ahead (stay l) (i + 1 + (ins l i).jf) - ahead (stay l) i - 1 } else ins l i
def stays (l : List Insn) : List Nat := (reach l).filter (fun i => decide (0 < (ins l i).k) || !isJa (ins l i))
def leaveL (l : List Insn) : List Insn := (stays l).map (fun i => bare (moved l i))

def onceL (l : List Insn) : List Insn := leaveL (levelL (leadL (giveL l)))

/-- A program that passes the check, of numbers of their sizes. -/
structure Good (l : List Insn) : Prop where
  ok : ∀ x ∈ l, x.Ok
  checked : (check l).2 = 0

theorem at_get (l : List Insn) (i : Nat) (h : i < l.length) : ins l i = l[i] := by simp [ins, h]
end Go.Proofs.Ytfjbanfibmpalaa

/- Plain: what a passed check tells; ends; what leads. -/
set_option linter.unusedVariables false
set_option linter.unusedSimpArgs false
namespace Go.Proofs.Ytfjbanfibmpalaa

theorem single_big (c : Nat) (hc : 256 ≤ c) : (single c).2 = -1 := by
  unfold single
  repeat (first | rw [if_pos (by omega)] | rw [if_neg (by omega)])

theorem form_le (c : Nat) : -1 ≤ form c ∧ form c ≤ 6 := by
  have hs : (single c).2 = -1 ∨ 0 ≤ (single c).2 ∧ (single c).2 ≤ 4 := by
    by_cases h : c < 256
    · have : ∀ c : Fin 256, (single c.val).2 = -1 ∨ 0 ≤ (single c.val).2 ∧ (single c.val).2 ≤ 4 := by decide +kernel
      exact this ⟨c, h⟩
    · exact .inl (single_big c (by omega))
  unfold form
  repeat' split
  all_goals omega

theorem form_vals (c : Nat) : form c = -1 ∨ form c = 0 ∨ form c = 1 ∨ form c = 2 ∨ form c = 3 ∨ form c = 4 ∨ form c = 5 ∨ form c = 6 := by
  have := form_le c; omega

theorem form_big (c : Nat) (hc : 256 ≤ c) : form c = -1 := by
  unfold form; rw [if_neg (by rw [single_big c hc]; omega), if_pos hc]

theorem checkFrom_snd (l : List Insn) (n : Nat) : ∀ i, (checkFrom l n i).2 = 0 → ∀ j (h : j < l.length), one (l[j]'h) (i + j) n = 0 := by
  induction l with
  | nil => intro i _ j h; simp at h
  | cons x r ih =>
    intro i h j hj
    unfold checkFrom at h
    split at h
    · rename_i h0
      cases j with
      | zero => simpa using h0
      | succ j =>
        have := ih (i + 1) h j (by simpa using hj)
        simpa [Nat.add_assoc, Nat.add_comm 1 j] using this
    · rename_i h0; exact absurd h h0

/-- From a place on where all ahead may stand. -/
theorem checkFrom_skip (l : List Insn) (n k : Nat) (hk : k ≤ l.length) (h : ∀ j (h : j < l.length), j < k → one (l[j]'h) j n = 0) : checkFrom l n 0 = checkFrom (l.drop k) n k := by
  induction k with
  | zero => simp
  | succ k ih =>
    rw [ih (by omega) (fun j hj hjk => h j hj (by omega))]
    have hk' : k < l.length := by omega
    rw [List.drop_eq_getElem_cons hk', checkFrom, if_pos (h k hk' (by omega))]

theorem check_bad (l : List Insn) (h1 : 1 ≤ l.length) (h2 : l.length ≤ 64) (k : Nat) (hk : k < l.length) (h : ∀ j (h : j < l.length), j < k → one (l[j]'h) j l.length = 0)
    (hb : one (l[k]'hk) k l.length ≠ 0) : check l = ((k : Int), one (l[k]'hk) k l.length) := by
  have e : checkFrom l l.length 0 = ((k : Int), one (l[k]'hk) k l.length) := by
    rw [checkFrom_skip l l.length k (by omega) h, List.drop_eq_getElem_cons hk, checkFrom, if_neg hb]
  unfold check
  rw [if_neg (by omega), if_pos (by rw [e]; exact hb), e]

theorem check_good (l : List Insn) (h1 : 1 ≤ l.length) (h2 : l.length ≤ 64) (h : ∀ j (h : j < l.length), one (l[j]'h) j l.length = 0) :
    check l = if isRet (l[l.length - 1]'(by omega)).code then (0, 0) else ((l.length : Int) - 1, 147) := by
  have e : checkFrom l l.length 0 = (0, 0) := by
    rw [checkFrom_skip l l.length l.length (by omega) (fun j hj _ => h j hj), List.drop_length, checkFrom]
  unfold check
  rw [if_neg (by omega), if_neg (by rw [e]; simp)]
  have : l.getD (l.length - 1) default = l[l.length - 1]'(by omega) := by
    simp [List.getD, List.getElem?_eq_getElem (show l.length - 1 < l.length by omega)]
  rw [this]

theorem checked_one {l : List Insn} (h : (check l).2 = 0) : ∀ j (hj : j < l.length), one (l[j]'hj) j l.length = 0 := by
  have hl := check_len h
  unfold check at h
  rw [if_neg (by omega)] at h
  have h0 : (checkFrom l l.length 0).2 = 0 := by
    by_cases hz : (checkFrom l l.length 0).2 = 0
    · exact hz
    · rw [if_pos hz] at h; exact h
  intro j hj
  have := checkFrom_snd l l.length 0 h0 j hj
  simpa using this

theorem checked_last {l : List Insn} (h : (check l).2 = 0) (hn : l.length - 1 < l.length) : isRet (l[l.length - 1]'hn).code = true := by
  have hl := check_len h
  rw [check_good l hl.1 hl.2 (checked_one h)] at h
  split at h
  · assumption
  · simp at h

theorem one_nexts {x : Insn} {i n : Nat} (h : one x i n = 0) (hi : i + 1 < n) : ∀ k ∈ nexts x i, i < k ∧ k < n := by
  have hb : behind i n = n - 1 - i := by unfold behind; rw [if_pos hi]
  intro k hk
  unfold nexts at hk
  unfold one at h
  rw [hb] at h
  by_cases h0 : form x.code < 0 ∨ isRet x.code = true
  · rw [if_pos h0] at hk; simp at hk
  rw [if_neg h0] at hk
  repeat' split at h
  all_goals (try (simp at h; done))
  repeat' split at hk
  all_goals simp at hk
  all_goals omega

theorem nexts_lt {l : List Insn} (h : (check l).2 = 0) {i : Nat} (hi : i < l.length) : ∀ k ∈ nexts (l[i]'hi) i, i < k ∧ k < l.length := by
  by_cases hl : i + 1 < l.length
  · exact one_nexts (checked_one h i hi) hl
  · have e : i = l.length - 1 := by omega
    subst e
    have := checked_last h hi
    intro k hk
    unfold nexts at hk
    rw [if_pos (.inr this)] at hk
    simp at hk

section
variable {l : List Insn}

theorem Good.len (h : Good l) : 1 ≤ l.length ∧ l.length ≤ 64 := check_len h.checked

theorem Good.okAt (h : Good l) {i : Nat} (hi : i < l.length) : (ins l i).Ok := by rw [at_get l i hi]; exact h.ok _ (List.getElem_mem hi)

theorem form_ja : form 5 = 4 := by decide

theorem Good.one (h : Good l) {i : Nat} (hi : i < l.length) : Go.Proofs.Ytfjbanfibmpalaa.one (ins l i) i l.length = 0 := by rw [at_get l i hi]; exact checked_one h.checked i hi

theorem Good.form (h : Good l) {i : Nat} (hi : i < l.length) : 0 ≤ Go.Proofs.Ytfjbanfibmpalaa.form (ins l i).code := by
  have := h.one hi
  unfold Go.Proofs.Ytfjbanfibmpalaa.one at this
  split at this
  · simp at this
  · omega

theorem Good.ja (h : Good l) {i : Nat} (hi : i < l.length) (hj : isJa (ins l i) = true) : i + 1 + (ins l i).k < l.length ∧ (ins l i).k < 64 := by
  have hl := h.len
  have hc : (ins l i).code = 5 := by simpa [isJa] using hj
  have h1 := h.one hi
  have hf : Go.Proofs.Ytfjbanfibmpalaa.form (ins l i).code = 4 := by rw [hc]; exact form_ja
  unfold Go.Proofs.Ytfjbanfibmpalaa.one at h1
  rw [hf] at h1
  have hb : behind i l.length ≤ l.length - 1 - i := by unfold behind; split <;> omega
  repeat' split at h1
  all_goals (try (simp at h1; done))
  all_goals (try omega)

theorem Good.test (h : Good l) {i : Nat} (hi : i < l.length) (hj : isTest (ins l i) = true) : i + 1 + (ins l i).jt < l.length ∧ i + 1 + (ins l i).jf < l.length := by
  have hl := h.len
  have hc : Go.Proofs.Ytfjbanfibmpalaa.form (ins l i).code = 5 ∨ Go.Proofs.Ytfjbanfibmpalaa.form (ins l i).code = 6 := by simpa [isTest] using hj
  have h1 := h.one hi
  unfold Go.Proofs.Ytfjbanfibmpalaa.one at h1
  have hb : behind i l.length ≤ l.length - 1 - i := by unfold behind; split <;> omega
  repeat' split at h1
  all_goals (try (simp at h1; done))
  all_goals (try omega)

theorem endAux_fuel (h : Good l) : ∀ n f j, l.length - j ≤ n → j < l.length → l.length - j ≤ f → endAux l f j = endAux l (l.length - j) j
  | 0, f, j, hn, hj, hf => by omega
  | n + 1, f, j, hn, hj, hf => by
    cases f with
    | zero => omega
    | succ f =>
      rw [show l.length - j = (l.length - j - 1) + 1 by omega]
      unfold endAux
      by_cases hja : isJa (ins l j) = true
      · rw [if_pos hja, if_pos hja]
        have hk := h.ja hj hja
        rw [endAux_fuel h n f _ (by omega) hk.1 (by omega), ← endAux_fuel h n (l.length - j - 1) _ (by omega) hk.1 (by omega)]
      · rw [if_neg hja, if_neg hja]

theorem endOf_ja (h : Good l) {i : Nat} (hi : i < l.length) (hj : isJa (ins l i) = true) : endOf l i = endOf l (i + 1 + (ins l i).k) := by
  have hk := h.ja hi hj
  unfold endOf
  rw [show l.length - i = (l.length - i - 1) + 1 by omega, endAux, if_pos hj]
  exact endAux_fuel h _ _ _ (Nat.le_refl _) hk.1 (by omega)

theorem endOf_else {i : Nat} (hi : i < l.length) (hj : isJa (ins l i) = false) : endOf l i = i := by
  unfold endOf
  rw [show l.length - i = (l.length - i - 1) + 1 by omega, endAux, if_neg (by simp [hj])]

theorem endOf_facts (h : Good l) : ∀ n i, l.length - i ≤ n → i < l.length → i ≤ endOf l i ∧ endOf l i < l.length ∧ isJa (ins l (endOf l i)) = false
  | 0, i, hn, hi => by omega
  | n + 1, i, hn, hi => by
    by_cases hj : isJa (ins l i) = true
    · rw [endOf_ja h hi hj]
      have hk := h.ja hi hj
      have := endOf_facts h n _ (by omega) hk.1
      exact ⟨by omega, this.2⟩
    · have hj' : isJa (ins l i) = false := by simpa using hj
      rw [endOf_else hi hj']
      exact ⟨Nat.le_refl _, hi, hj'⟩

theorem endOf_ge (h : Good l) {i : Nat} (hi : i < l.length) : i ≤ endOf l i := (endOf_facts h _ i (Nat.le_refl _) hi).1
theorem endOf_lt (h : Good l) {i : Nat} (hi : i < l.length) : endOf l i < l.length := (endOf_facts h _ i (Nat.le_refl _) hi).2.1
theorem endOf_not (h : Good l) {i : Nat} (hi : i < l.length) : isJa (ins l (endOf l i)) = false := (endOf_facts h _ i (Nat.le_refl _) hi).2.2
theorem endOf_ja_gt (h : Good l) {i : Nat} (hi : i < l.length) (hj : isJa (ins l i) = true) : i < endOf l i := by
  rw [endOf_ja h hi hj]
  have hk := h.ja hi hj
  have := endOf_ge h hk.1
  omega

/-- In a good program just the returns have nothing behind them. -/
theorem nexts_nil (h : Good l) {i : Nat} (hi : i < l.length) : ((nexts (ins l i) i).length = 0) ↔ isRet (ins l i).code = true := by
  have hf := h.form hi
  constructor
  · intro hn
    by_cases hr : isRet (ins l i).code = true
    · exact hr
    · exfalso
      unfold nexts at hn
      rw [if_neg (by rintro (h | h); omega; exact hr h)] at hn
      split at hn
      · rename_i h4
        have hl := h.len
        have h1 := h.one hi
        unfold Go.Proofs.Ytfjbanfibmpalaa.one at h1
        rw [h4] at h1
        have hb : behind i l.length ≤ l.length - 1 - i := by unfold behind; split <;> omega
        split at hn
        · simp at hn
        · repeat' split at h1
          all_goals (try (simp at h1; done))
          all_goals omega
      · split at hn
        · split at hn <;> simp at hn
        · simp at hn
  · intro hr
    unfold nexts
    rw [if_pos (.inr hr)]
    rfl
end

theorem isTest_form (x : Insn) (f : Int) (h : form x.code = f) : isTest x = (f == 5 || f == 6) := by unfold isTest; rw [h]

theorem lead1_eq {l : List Insn} (h : Good l) (i d : Nat) (hd : i + 1 + d < l.length) : lead1 l i d = endOf l (i + 1 + d) - i - 1 := by
  have h1 := endOf_lt h hd
  have h2 := h.len
  unfold lead1
  rw [if_pos (by omega)]
theorem lead1_lt {l : List Insn} (h : Good l) (i d : Nat) (hd : i + 1 + d < l.length) : i + 1 + lead1 l i d < l.length := by
  have h1 := endOf_lt h hd
  have h2 := endOf_ge h hd
  rw [lead1_eq h i d hd]
  omega

theorem ja_not_test {x : Insn} (h : isJa x = true) : isTest x = false := by
  have : x.code = 5 := by simpa [isJa] using h
  unfold isTest
  rw [this]
  decide

theorem leadAt_ja {l : List Insn} {i : Nat} (h : isJa (ins l i) = true) : leadAt l i = { ins l i with k := endOf l i - i - 1 } := by unfold leadAt; rw [if_pos h]
theorem leadAt_test {l : List Insn} {i : Nat} (h : isTest (ins l i) = true) : leadAt l i = { ins l i with jt := lead1 l i (ins l i).jt, jf := lead1 l i (ins l i).jf } := by
  have hj : isJa (ins l i) ≠ true := fun e => by rw [ja_not_test e] at h; cases h
  unfold leadAt
  rw [if_neg hj, if_pos h]
theorem leadAt_else {l : List Insn} {i : Nat} (h : isJa (ins l i) = false) (h2 : isTest (ins l i) = false) : leadAt l i = ins l i := by unfold leadAt; rw [h, h2]; rfl

end Go.Proofs.Ytfjbanfibmpalaa

/- Plain: every pass makes a good program of a good one. -/
set_option linter.unusedVariables false
set_option linter.unusedSimpArgs false
namespace Go.Proofs.Ytfjbanfibmpalaa

theorem good_of {l : List Insn} (h1 : 1 ≤ l.length) (h2 : l.length ≤ 64) (hok : ∀ i, i < l.length → (ins l i).Ok) (hone : ∀ i, i < l.length → one (ins l i) i l.length = 0)
    (hlast : isRet (ins l (l.length - 1)).code = true) : Good l := by
  refine ⟨?_, ?_⟩
  · intro x hx
    obtain ⟨i, hi, rfl⟩ := List.getElem_of_mem hx
    rw [← at_get l i hi]; exact hok i hi
  · rw [check_good l h1 h2 (fun j hj => by rw [← at_get l j hj]; exact hone j hj), ← at_get l _ (by omega), hlast]; rfl

theorem Good.last {l : List Insn} (h : Good l) : isRet (ins l (l.length - 1)).code = true := by
  have hl := h.len
  rw [at_get l _ (by omega)]
  exact checked_last h.checked (by omega)

theorem ret_form {c : Nat} (h : isRet c = true) : c = 6 ∨ c = 22 := by simpa [isRet] using h
theorem ret_form' {c : Nat} (h : isRet c = true) : form c = 0 ∨ form c = 1 := by
  rcases ret_form h with rfl | rfl <;> decide
theorem one_ret {x : Insn} (i n : Nat) (h : isRet x.code = true) : one x i n = 0 := by
  have hc := ret_form h
  have hf := ret_form' h
  unfold one
  rw [if_neg (by omega), if_neg (by omega), if_neg (by omega), if_neg (by omega), if_neg (by omega), if_neg (by omega), if_neg (by omega)]
theorem ret_not_ja {x : Insn} (h : isRet x.code = true) : isJa x = false := by
  have := ret_form h
  simp [isJa]; omega
theorem ja_not_ret {x : Insn} (h : isJa x = true) : isRet x.code = false := by
  have : x.code = 5 := by simpa [isJa] using h
  rw [this]; rfl
theorem ret_not_test {x : Insn} (h : isRet x.code = true) : isTest x = false := by
  have := ret_form' h
  simp [isTest]; omega

theorem map_len (f : Nat → Insn) (n : Nat) : ((List.range n).map f).length = n := by simp
theorem ins_map (f : Nat → Insn) (n i : Nat) (h : i < n) : ins ((List.range n).map f) i = f i := by simp [ins, h]
theorem giveL_len (l : List Insn) : (giveL l).length = l.length := map_len _ _
theorem leadL_len (l : List Insn) : (leadL l).length = l.length := map_len _ _
theorem levelL_len (l : List Insn) : (levelL l).length = l.length := map_len _ _
theorem giveL_ins {l : List Insn} {i : Nat} (h : i < l.length) : ins (giveL l) i = giveAt l i := ins_map _ _ _ h
theorem leadL_ins {l : List Insn} {i : Nat} (h : i < l.length) : ins (leadL l) i = leadAt l i := ins_map _ _ _ h
theorem levelL_ins {l : List Insn} {i : Nat} (h : i < l.length) : ins (levelL l) i = levelAt l i := ins_map _ _ _ h

theorem give_good {l : List Insn} (h : Good l) : Good (giveL l) := by
  have hl := h.len
  have key : ∀ i, i < l.length → giveAt l i = ins l i ∨ (isJa (ins l i) = true ∧ isRet (ins l (endOf l i)).code = true ∧ giveAt l i = ins l (endOf l i)) := by
    intro i hi
    unfold giveAt
    by_cases hc : (isJa (ins l i) && isRet (ins l (endOf l i)).code) = true
    · rw [if_pos hc]; simp at hc; exact .inr ⟨hc.1, hc.2, rfl⟩
    · rw [if_neg hc]; exact .inl rfl
  refine good_of (by rw [giveL_len]; omega) (by rw [giveL_len]; omega) ?_ ?_ ?_
  · intro i hi
    rw [giveL_len] at hi
    rw [giveL_ins hi]
    rcases key i hi with e | ⟨_, _, e⟩
    · rw [e]; exact h.okAt hi
    · rw [e]; exact h.okAt (endOf_lt h hi)
  · intro i hi
    rw [giveL_len] at hi
    rw [giveL_ins hi, giveL_len]
    rcases key i hi with e | ⟨_, h2, e⟩
    · rw [e]; exact h.one hi
    · rw [e]; exact one_ret _ _ h2
  · rw [giveL_len, giveL_ins (by omega)]
    rcases key (l.length - 1) (by omega) with e | ⟨h1, _⟩
    · rw [e]; exact h.last
    · have := h.last
      rw [ja_not_ret h1] at this; cases this

/-- The parts of a place that may be there. -/
theorem one_parts {x : Insn} {i n : Nat} (h : one x i n = 0) :
    0 ≤ form x.code ∧ ¬ (x.code = 32 ∧ (x.k % 4 ≠ 0 ∨ 64 ≤ x.k)) ∧ ¬ (x.code = 52 ∧ x.k = 0) ∧ ¬ ((x.code = 100 ∨ x.code = 116) ∧ 32 ≤ x.k) ∧ ¬ (form x.code = 3 ∧ 16 ≤ x.k) ∧
    ¬ (form x.code = 4 ∧ behind i n ≤ x.k) ∧ ¬ ((form x.code = 5 ∨ form x.code = 6) ∧ behind i n ≤ max x.jt x.jf) := by
  unfold one at h
  by_cases h1 : form x.code < 0
  · rw [if_pos h1] at h; simp at h
  rw [if_neg h1] at h
  by_cases h2 : x.code = 32 ∧ (x.k % 4 ≠ 0 ∨ 64 ≤ x.k)
  · rw [if_pos h2] at h; simp at h
  rw [if_neg h2] at h
  by_cases h3 : x.code = 52 ∧ x.k = 0
  · rw [if_pos h3] at h; simp at h
  rw [if_neg h3] at h
  by_cases h4 : (x.code = 100 ∨ x.code = 116) ∧ 32 ≤ x.k
  · rw [if_pos h4] at h; simp at h
  rw [if_neg h4] at h
  by_cases h5 : form x.code = 3 ∧ 16 ≤ x.k
  · rw [if_pos h5] at h; simp at h
  rw [if_neg h5] at h
  by_cases h6 : form x.code = 4 ∧ behind i n ≤ x.k
  · rw [if_pos h6] at h; simp at h
  rw [if_neg h6] at h
  by_cases h7 : (form x.code = 5 ∨ form x.code = 6) ∧ behind i n ≤ max x.jt x.jf
  · rw [if_pos h7] at h; simp at h
  exact ⟨by omega, h2, h3, h4, h5, h6, h7⟩

theorem one_of {x : Insn} {i n : Nat} (h1 : 0 ≤ form x.code) (h2 : ¬ (x.code = 32 ∧ (x.k % 4 ≠ 0 ∨ 64 ≤ x.k))) (h3 : ¬ (x.code = 52 ∧ x.k = 0)) (h4 : ¬ ((x.code = 100 ∨ x.code = 116) ∧ 32 ≤ x.k)) (h5 : ¬ (form x.code = 3 ∧ 16 ≤ x.k))
    (h6 : ¬ (form x.code = 4 ∧ behind i n ≤ x.k)) (h7 : ¬ ((form x.code = 5 ∨ form x.code = 6) ∧ behind i n ≤ max x.jt x.jf)) : one x i n = 0 := by
  unfold one
  rw [if_neg (by omega), if_neg h2, if_neg h3, if_neg h4, if_neg h5, if_neg h6, if_neg h7]

theorem behind_gt {i n k : Nat} (h : i + 1 + k < n) : ¬ behind i n ≤ k := by
  unfold behind
  rw [if_pos (by omega)]; omega
theorem gt_behind {i n k : Nat} (h : ¬ behind i n ≤ k) : i + 1 + k < n := by
  unfold behind at h
  split at h <;> omega

theorem ja_form {x : Insn} (h : isJa x = true) : x.code = 5 ∧ form x.code = 4 := by
  have : x.code = 5 := by simpa [isJa] using h
  exact ⟨this, by rw [this]; exact form_ja⟩
theorem form4_ja {c : Nat} (h : form c = 4) : c = 5 := by
  by_cases hc : c < 256
  · have : ∀ c : Fin 256, form c.val = 4 → c.val = 5 := by decide +kernel
    exact this ⟨c, hc⟩ h
  · rw [form_big c (by omega)] at h; omega
theorem test_form {x : Insn} (h : isTest x = true) : form x.code = 5 ∨ form x.code = 6 := by simpa [isTest] using h
theorem test_code {x : Insn} (h : isTest x = true) : x.code ≠ 32 ∧ x.code ≠ 52 ∧ x.code ≠ 100 ∧ x.code ≠ 116 := by
  have hf := test_form h
  refine ⟨?_, ?_, ?_, ?_⟩ <;> (intro e; rw [e] at hf; revert hf; decide)

/-- A jump that leads within. -/
theorem one_ja {x : Insn} {i n : Nat} (h : isJa x = true) (hk : i + 1 + x.k < n) : one x i n = 0 := by
  obtain ⟨hc, hf⟩ := ja_form h
  refine one_of (by omega) (by omega) (by omega) (by omega) (by omega) (fun ⟨_, e⟩ => behind_gt hk e) (by omega)
theorem one_test {x : Insn} {i n : Nat} (h : isTest x = true) (ht : i + 1 + x.jt < n) (hf : i + 1 + x.jf < n) : one x i n = 0 := by
  obtain h5 := test_form h
  obtain ⟨c1, c2, c3, c4⟩ := test_code h
  refine one_of (by omega) (by omega) (by omega) (by omega) (by omega) (by omega) (fun ⟨_, e⟩ => ?_)
  rcases Nat.le_total x.jt x.jf with hm | hm
  · rw [Nat.max_eq_right hm] at e; exact behind_gt hf e
  · rw [Nat.max_eq_left hm] at e; exact behind_gt ht e
/-- What is neither jump nor test may stand anywhere. -/
theorem one_move {x : Insn} {i n i' n' : Nat} (h : one x i n = 0) (hj : isJa x = false) (ht : isTest x = false) : one x i' n' = 0 := by
  obtain ⟨h1, h2, h3, h4, h5, h6, h7⟩ := one_parts h
  refine one_of h1 h2 h3 h4 h5 ?_ ?_
  · rintro ⟨e, _⟩
    have := form4_ja e
    simp [isJa] at hj; omega
  · rintro ⟨e, _⟩
    simp [isTest] at ht; omega

theorem lead_good {l : List Insn} (h : Good l) : Good (leadL l) := by
  have hl := h.len
  refine good_of (by rw [leadL_len]; omega) (by rw [leadL_len]; omega) ?_ ?_ ?_
  · intro i hi
    rw [leadL_len] at hi
    rw [leadL_ins hi]
    have hok := h.okAt hi
    by_cases hj : isJa (ins l i) = true
    · rw [leadAt_ja hj]
      have := endOf_lt h hi
      exact ⟨hok.code, hok.jt, hok.jf, by show endOf l i - i - 1 < _; omega⟩
    · by_cases ht : isTest (ins l i) = true
      · rw [leadAt_test ht]
        have h1 := h.test hi ht
        have e1 := lead1_lt h i _ h1.1
        have e2 := lead1_lt h i _ h1.2
        exact ⟨hok.code, by show lead1 _ _ _ < _; omega, by show lead1 _ _ _ < _; omega, hok.k⟩
      · rw [leadAt_else (by simpa using hj) (by simpa using ht)]; exact hok
  · intro i hi
    rw [leadL_len] at hi
    rw [leadL_ins hi, leadL_len]
    by_cases hj : isJa (ins l i) = true
    · rw [leadAt_ja hj]
      have h1 := endOf_lt h hi
      have h2 := endOf_ja_gt h hi hj
      refine one_ja (x := { ins l i with k := endOf l i - i - 1 }) hj ?_
      show i + 1 + (endOf l i - i - 1) < _
      omega
    · by_cases ht : isTest (ins l i) = true
      · rw [leadAt_test ht]
        have h1 := h.test hi ht
        exact one_test (x := { ins l i with jt := lead1 l i (ins l i).jt, jf := lead1 l i (ins l i).jf }) ht (lead1_lt h i _ h1.1) (lead1_lt h i _ h1.2)
      · rw [leadAt_else (by simpa using hj) (by simpa using ht)]; exact h.one hi
  · rw [leadL_len, leadL_ins (by omega)]
    have hr := h.last
    rw [leadAt_else (ret_not_ja hr) (ret_not_test hr)]
    exact hr

theorem levelAt_else {l : List Insn} {i : Nat} (h : ¬ (isTest (ins l i) = true ∧ (ins l i).jt = (ins l i).jf)) : levelAt l i = ins l i := by
  unfold levelAt
  rw [if_neg (by simpa using h)]
theorem levelAt_ja {l : List Insn} {i : Nat} (h : isTest (ins l i) = true) (h2 : (ins l i).jt = (ins l i).jf) : levelAt l i = ⟨5, 0, 0, (ins l i).jt⟩ := by
  unfold levelAt
  rw [if_pos (by simp [h, h2])]

theorem level_good {l : List Insn} (h : Good l) : Good (levelL l) := by
  have hl := h.len
  refine good_of (by rw [levelL_len]; omega) (by rw [levelL_len]; omega) ?_ ?_ ?_
  · intro i hi
    rw [levelL_len] at hi
    rw [levelL_ins hi]
    have hok := h.okAt hi
    by_cases hj : isTest (ins l i) = true ∧ (ins l i).jt = (ins l i).jf
    · rw [levelAt_ja hj.1 hj.2]
      exact ⟨by show (5 : Nat) < _; omega, by show (0 : Nat) < _; omega, by show (0 : Nat) < _; omega, by have := hok.jt; show (ins l i).jt < _; omega⟩
    · rw [levelAt_else hj]; exact hok
  · intro i hi
    rw [levelL_len] at hi
    rw [levelL_ins hi, levelL_len]
    by_cases hj : isTest (ins l i) = true ∧ (ins l i).jt = (ins l i).jf
    · rw [levelAt_ja hj.1 hj.2]
      exact one_ja (by rfl) (h.test hi hj.1).1
    · rw [levelAt_else hj]; exact h.one hi
  · rw [levelL_len, levelL_ins (by omega)]
    have hr := h.last
    rw [levelAt_else (fun e => by rw [ret_not_test hr] at e; cases e.1)]
    exact hr

/-! What is reached -/
def R (l : List Insn) (i : Nat) : Bool := metAt l i i

theorem metAt_mono (l : List Insn) (k : Nat) : ∀ j i, i ≤ j → metAt l i k = true → metAt l j k = true
  | 0, i, h, hm => by obtain rfl : i = 0 := by omega
                      exact hm
  | j + 1, i, h, hm => by
    rcases Nat.lt_or_ge j i with h2 | h2
    · obtain rfl : i = j + 1 := by omega
      exact hm
    · have := metAt_mono l k j i h2 hm
      rw [metAt]
      split
      · simp [this]
      · exact this

theorem R_zero (l : List Insn) : R l 0 = true := rfl
theorem R_next {l : List Insn} {i k : Nat} (h : R l i = true) (hk : k ∈ nexts (ins l i) i) (hik : i < k) : R l k = true := by
  refine metAt_mono l k k (i + 1) hik ?_
  unfold R at h
  rw [metAt, if_pos h]
  simp [ins] at hk ⊢
  exact .inr hk

theorem metAt_from {l : List Insn} {k : Nat} : ∀ j, metAt l j k = true → k = 0 ∨ ∃ i, i < j ∧ R l i = true ∧ k ∈ nexts (ins l i) i
  | 0, h => .inl (by simpa [metAt] using h)
  | j + 1, h => by
    rw [metAt] at h
    split at h
    · rename_i hj
      simp at h
      rcases h with h | h
      · rcases metAt_from j h with h | ⟨i, h1, h2⟩
        · exact .inl h
        · exact .inr ⟨i, by omega, h2⟩
      · exact .inr ⟨j, by omega, hj, by simpa [ins] using h⟩
    · rcases metAt_from j h with h | ⟨i, h1, h2⟩
      · exact .inl h
      · exact .inr ⟨i, by omega, h2⟩

theorem R_from {l : List Insn} {k : Nat} (h : R l k = true) : k = 0 ∨ ∃ i, i < k ∧ R l i = true ∧ k ∈ nexts (ins l i) i := metAt_from k h

theorem outAt_eq (l : List Insn) : ∀ n, outAt l n = (List.range n).filter (R l)
  | 0 => rfl
  | n + 1 => by
    rw [outAt, List.range_succ, List.filter_append, outAt_eq l n]
    unfold R
    split
    · rename_i h; simp [h]
    · rename_i h; simp [h]

theorem reach_eq (l : List Insn) : reach l = (List.range l.length).filter (R l) := outAt_eq l _
theorem stay_eq {l : List Insn} {i : Nat} (h : i < l.length) : stay l i = (R l i && (decide (0 < (ins l i).k) || !isJa (ins l i))) := by
  unfold stay
  rw [reach_eq]
  congr 1
  rw [Bool.eq_iff_iff]
  simp [h]
theorem stay_out {l : List Insn} {i : Nat} (h : l.length ≤ i) : stay l i = false := by
  unfold stay
  rw [reach_eq]
  simp; omega
theorem stays_eq (l : List Insn) : stays l = (List.range l.length).filter (stay l) := by
  unfold stays
  rw [reach_eq, List.filter_filter]
  refine List.filter_congr (fun i hi => ?_)
  rw [stay_eq (List.mem_range.1 hi), Bool.and_comm]

theorem ahead_mono (f : Nat → Bool) : ∀ {i j : Nat}, i ≤ j → ahead f i ≤ ahead f j
  | i, 0, h => by obtain rfl : i = 0 := by omega
                  exact Nat.le_refl _
  | i, j + 1, h => by
    rcases Nat.lt_or_ge j i with h2 | h2
    · obtain rfl : i = j + 1 := by omega
      exact Nat.le_refl _
    · have := ahead_mono f h2
      rw [ahead]; omega
theorem ahead_lt {f : Nat → Bool} {i j : Nat} (h : f i = true) (hij : i < j) : ahead f i < ahead f j := by
  have := ahead_mono f (show i + 1 ≤ j by omega)
  rw [ahead, if_pos h] at this
  omega
theorem ahead_le (f : Nat → Bool) : ∀ i, ahead f i ≤ i
  | 0 => Nat.le_refl _
  | i + 1 => by have := ahead_le f i; rw [ahead]; split <;> omega

theorem filt_len (f : Nat → Bool) : ∀ n, ((List.range n).filter f).length = ahead f n
  | 0 => rfl
  | n + 1 => by
    rw [List.range_succ, List.filter_append, List.length_append, filt_len f n, ahead]
    by_cases h : f n = true <;> simp [h]
theorem filt_get (f : Nat → Bool) : ∀ n i, i < n → f i = true → ((List.range n).filter f)[ahead f i]? = some i
  | 0, i, h, _ => by omega
  | n + 1, i, h, hf => by
    rw [List.range_succ, List.filter_append]
    rcases Nat.lt_or_ge i n with h2 | h2
    · rw [List.getElem?_append_left (by rw [filt_len]; exact ahead_lt hf h2)]
      exact filt_get f n i h2 hf
    · obtain rfl : i = n := by omega
      rw [List.getElem?_append_right (by rw [filt_len]; omega), filt_len]
      simp [hf]
theorem filt_from (f : Nat → Bool) {n p : Nat} (hp : p < ahead f n) : ∃ i, i < n ∧ f i = true ∧ ahead f i = p := by
  induction n with
  | zero => simp [ahead] at hp
  | succ n ih =>
    rw [ahead] at hp
    by_cases h : p < ahead f n
    · obtain ⟨i, h1, h2⟩ := ih h
      exact ⟨i, by omega, h2⟩
    · by_cases hf : f n = true
      · rw [if_pos hf] at hp
        exact ⟨n, by omega, hf, by omega⟩
      · rw [if_neg hf] at hp; omega

theorem leaveL_len (l : List Insn) : (leaveL l).length = ahead (stay l) l.length := by
  unfold leaveL; rw [List.length_map, stays_eq, filt_len]
theorem leaveL_ins {l : List Insn} {i : Nat} (h : i < l.length) (hs : stay l i = true) : ins (leaveL l) (ahead (stay l) i) = bare (moved l i) := by
  have hg := filt_get (stay l) l.length i h hs
  unfold ins leaveL
  rw [stays_eq, List.getD_eq_getElem?_getD, List.getElem?_map, hg]
  rfl

theorem nexts_ja {x : Insn} {i : Nat} (h : isJa x = true) (hk : x.k ≤ 255) : nexts x i = [i + 1 + x.k] := by
  obtain ⟨hc, hf⟩ := ja_form h
  unfold nexts
  rw [if_neg (by rw [hf, hc]; decide), if_pos hf, if_pos hk]
theorem nexts_test {x : Insn} {i : Nat} (h : isTest x = true) : ∀ k, k ∈ nexts x i ↔ (k = i + 1 + x.jt ∨ k = i + 1 + x.jf) := by
  have hf := test_form h
  have hr : isRet x.code = false := by
    cases hr : isRet x.code
    · rfl
    · have := ret_not_test hr; rw [h] at this; cases this
  intro k
  unfold nexts
  rw [if_neg (by rw [hr]; simp; omega), if_neg (by omega), if_pos hf]
  split
  · rename_i e; simp [e]
  · rcases Nat.le_total x.jt x.jf with hm | hm
    · simp [Nat.min_eq_left hm, Nat.max_eq_right hm]
    · simp [Nat.min_eq_right hm, Nat.max_eq_left hm]; omega
theorem nexts_ret {x : Insn} {i : Nat} (h : isRet x.code = true) : nexts x i = [] := by
  unfold nexts; rw [if_pos (.inr h)]
theorem nexts_else {x : Insn} {i : Nat} (hf : 0 ≤ form x.code) (hj : isJa x = false) (ht : isTest x = false) (hr : isRet x.code = false) : nexts x i = [i + 1] := by
  unfold nexts
  rw [if_neg (by rw [hr]; simp; omega), if_neg, if_neg]
  · simpa [isTest] using ht
  · intro e; have := form4_ja e; simp [isJa] at hj; omega

theorem Good.nexts_lt {l : List Insn} (h : Good l) {i : Nat} (hi : i < l.length) : ∀ k ∈ nexts (ins l i) i, i < k ∧ k < l.length := by
  rw [at_get l i hi]; exact Go.Proofs.Ytfjbanfibmpalaa.nexts_lt h.checked hi
theorem Good.next {l : List Insn} (h : Good l) {i : Nat} (hi : i < l.length) (hr : isRet (ins l i).code = false) : ∃ k, k ∈ nexts (ins l i) i := by
  cases hn : nexts (ins l i) i with
  | nil => have := (nexts_nil h hi).1 (by rw [hn]; rfl); rw [hr] at this; cases this
  | cons k r => exact ⟨k, by simp⟩

/-- From a place that is reached on there is one that stays. -/
theorem stay_from {l : List Insn} (h : Good l) : ∀ n i, l.length - i ≤ n → i < l.length → R l i = true → ∃ j, i ≤ j ∧ j < l.length ∧ stay l j = true
  | 0, i, hn, hi, _ => by omega
  | n + 1, i, hn, hi, hr => by
    by_cases hs : stay l i = true
    · exact ⟨i, Nat.le_refl _, hi, hs⟩
    · have hj : isRet (ins l i).code = false := by
        cases hret : isRet (ins l i).code
        · rfl
        · exfalso; apply hs
          rw [stay_eq hi, hr, ret_not_ja hret]; simp
      obtain ⟨k, hk⟩ := h.next hi hj
      have hlt := h.nexts_lt hi k hk
      obtain ⟨j, h1, h2⟩ := stay_from h n k (by omega) hlt.2 (R_next hr hk hlt.1)
      exact ⟨j, by omega, h2⟩
theorem ahead_total {l : List Insn} (h : Good l) {i : Nat} (hi : i < l.length) (hr : R l i = true) : ahead (stay l) i < ahead (stay l) l.length := by
  obtain ⟨j, h1, h2, h3⟩ := stay_from h _ i (Nat.le_refl _) hi hr
  have := ahead_mono (stay l) h1
  have := ahead_lt h3 h2
  omega

theorem form_bare (x : Insn) : (bare x).code = x.code := by
  unfold bare; repeat' split
  all_goals rfl
theorem bare_ja {x : Insn} (h : isJa x = true) : bare x = ⟨x.code, 0, 0, x.k⟩ := by
  obtain ⟨hc, hf⟩ := ja_form h
  unfold bare
  rw [if_neg (by omega), if_neg (by omega), if_neg (by omega), if_neg (by omega)]
theorem bare_test {x : Insn} (h : isTest x = true) : (bare x).jt = x.jt ∧ (bare x).jf = x.jf := by
  have hf := test_form h
  unfold bare
  rw [if_neg (by omega)]
  rcases hf with hf | hf
  · rw [if_pos hf]; exact ⟨rfl, rfl⟩
  · rw [if_neg (by omega), if_pos hf]; exact ⟨rfl, rfl⟩
theorem bare_k {x : Insn} (h : form x.code ≠ 0) (h6 : form x.code ≠ 6) : (bare x).k = x.k := by
  unfold bare; repeat' split
  all_goals first | rfl | (exfalso; omega)
theorem bare_ok {x : Insn} (h : x.Ok) : (bare x).Ok := by
  have := h.code; have := h.jt; have := h.jf; have := h.k
  unfold bare; repeat' split
  all_goals first | exact h | (constructor <;> simp <;> omega)
theorem bare_isJa (x : Insn) : isJa (bare x) = isJa x := by unfold isJa; rw [form_bare]
theorem bare_isTest (x : Insn) : isTest (bare x) = isTest x := by unfold isTest; rw [form_bare]
theorem bare_bare (x : Insn) : bare (bare x) = bare x := by
  by_cases h1 : form x.code < 0
  · have e : bare x = x := by unfold bare; rw [if_pos h1]
    rw [e, e]
  by_cases h2 : form x.code = 5
  · have e : bare x = x := by unfold bare; rw [if_neg h1, if_pos h2]
    rw [e, e]
  by_cases h3 : form x.code = 6
  · have e : bare x = { x with k := 0 } := by unfold bare; rw [if_neg h1, if_neg h2, if_pos h3]
    rw [e]; unfold bare; rw [if_neg h1, if_neg h2, if_pos h3]
  by_cases h4 : form x.code = 0
  · have e : bare x = ⟨x.code, 0, 0, 0⟩ := by unfold bare; rw [if_neg h1, if_neg h2, if_neg h3, if_pos h4]
    rw [e]; unfold bare; rw [if_neg h1, if_neg h2, if_neg h3, if_pos h4]
  have e : bare x = ⟨x.code, 0, 0, x.k⟩ := by unfold bare; rw [if_neg h1, if_neg h2, if_neg h3, if_neg h4]
  rw [e]; unfold bare; rw [if_neg h1, if_neg h2, if_neg h3, if_neg h4]
/-- What is bare may stand where it may stand. -/
theorem one_bare {x : Insn} {i n : Nat} (h : one x i n = 0) : one (bare x) i n = 0 := by
  obtain ⟨h1, h2, h3, h4, h5, h6, h7⟩ := one_parts h
  by_cases ht : isTest x = true
  · have e := bare_test ht
    obtain ⟨c1, c2, c3, c4⟩ := test_code ht
    have hf := test_form ht
    refine one_of (by rw [form_bare]; exact h1) (by rw [form_bare]; omega) (by rw [form_bare]; omega) (by rw [form_bare]; omega) (by rw [form_bare]; omega) (by rw [form_bare]; omega) (by rw [form_bare, e.1, e.2]; exact h7)
  · have hf : form x.code ≠ 5 ∧ form x.code ≠ 6 := by simpa [isTest] using ht
    by_cases h0 : form x.code = 0
    · have : x.code ≠ 32 ∧ x.code ≠ 52 ∧ x.code ≠ 100 ∧ x.code ≠ 116 := by
        refine ⟨?_, ?_, ?_, ?_⟩ <;> (intro e; rw [e] at h0; revert h0; decide)
      refine one_of ?_ ?_ ?_ ?_ ?_ ?_ ?_ <;> rw [form_bare] <;> omega
    · have e := bare_k h0 hf.2
      refine one_of ?_ ?_ ?_ ?_ ?_ ?_ ?_ <;> rw [form_bare] <;> (try rw [e]) <;> first | assumption | omega

theorem moved_ja {l : List Insn} {i : Nat} (h : isJa (ins l i) = true) : moved l i = { ins l i with k := ahead (stay l) (i + 1 + (ins l i).k) - ahead (stay l) i - 1 } := by unfold moved; rw [if_pos h]
theorem moved_test {l : List Insn} {i : Nat} (h : isTest (ins l i) = true) : moved l i = { ins l i with jt := ahead (stay l) (i + 1 + (ins l i).jt) - ahead (stay l) i - 1, jf := ahead (stay l) (i + 1 + (ins l i).jf) - ahead (stay l) i - 1 } := by
  have hj : ¬ isJa (ins l i) = true := fun e => by rw [ja_not_test e] at h; cases h
  unfold moved; rw [if_neg hj, if_pos h]
theorem moved_else {l : List Insn} {i : Nat} (h : isJa (ins l i) = false) (ht : isTest (ins l i) = false) : moved l i = ins l i := by unfold moved; rw [h, ht]; rfl
theorem moved_code (l : List Insn) (i : Nat) : (moved l i).code = (ins l i).code := by
  unfold moved; repeat' split
  all_goals rfl

theorem stay_R {l : List Insn} {i : Nat} (h : stay l i = true) : i < l.length ∧ R l i = true := by
  rcases Nat.lt_or_ge i l.length with hi | hi
  · rw [stay_eq hi] at h; simp at h; exact ⟨hi, h.1⟩
  · rw [stay_out hi] at h; cases h

/-- Where a place leads that stays. -/
theorem target {l : List Insn} (h : Good l) {i t : Nat} (hs : stay l i = true) (ht : t ∈ nexts (ins l i) i) : ahead (stay l) i < ahead (stay l) t ∧ ahead (stay l) t < ahead (stay l) l.length ∧ ahead (stay l) t ≤ t ∧ R l t = true := by
  obtain ⟨hi, hr⟩ := stay_R hs
  have hlt := h.nexts_lt hi t ht
  have hrt := R_next hr ht hlt.1
  exact ⟨ahead_lt hs hlt.1, ahead_total h hlt.2 hrt, ahead_le _ _, hrt⟩

theorem leave_good {l : List Insn} (h : Good l) : Good (leaveL l) ∧ (leaveL l).length ≤ l.length := by
  have hl := h.len
  have hlen : (leaveL l).length ≤ l.length := by rw [leaveL_len]; exact ahead_le _ _
  refine ⟨?_, hlen⟩
  have hpos : 1 ≤ (leaveL l).length := by
    rw [leaveL_len]
    have := ahead_total h (i := 0) (by omega) (R_zero l)
    omega
  refine good_of hpos (by omega) ?_ ?_ ?_
  · intro p hp
    rw [leaveL_len] at hp
    obtain ⟨i, hi, hs, rfl⟩ := filt_from _ hp
    rw [leaveL_ins hi hs]
    refine bare_ok ?_
    have hok := h.okAt hi
    have hb : ∀ n, ahead (stay l) (i + 1 + n) - ahead (stay l) i - 1 ≤ n := by
      intro n
      have h1 : ∀ n, ahead (stay l) (i + 1 + n) ≤ ahead (stay l) i + 1 + n := by
        intro n
        induction n with
        | zero => rw [Nat.add_zero, ahead]; split <;> omega
        | succ n ih => rw [show i + 1 + (n + 1) = (i + 1 + n) + 1 by omega, ahead]; split <;> omega
      have := h1 n
      omega
    have := hok.code; have h1 := hok.jt; have h2 := hok.jf; have h3 := hok.k
    have b1 := hb (ins l i).jt
    have b2 := hb (ins l i).jf
    have b3 := hb (ins l i).k
    unfold moved
    repeat' split
    · exact ⟨hok.code, hok.jt, hok.jf, by show ahead _ _ - _ - 1 < _; omega⟩
    · exact ⟨hok.code, by show ahead _ _ - _ - 1 < _; omega, by show ahead _ _ - _ - 1 < _; omega, hok.k⟩
    · exact hok
  · intro p hp
    rw [leaveL_len] at hp ⊢
    obtain ⟨i, hi, hs, rfl⟩ := filt_from _ hp
    rw [leaveL_ins hi hs]
    refine one_bare ?_
    by_cases hj : isJa (ins l i) = true
    · rw [moved_ja hj]
      have hk := h.ja hi hj
      obtain ⟨t1, t2, _⟩ := target h hs (t := i + 1 + (ins l i).k) (by rw [nexts_ja hj (by omega)]; simp)
      refine one_ja (x := { ins l i with k := _ }) hj ?_
      show ahead (stay l) i + 1 + (_ - _ - 1) < _
      omega
    · by_cases ht : isTest (ins l i) = true
      · rw [moved_test ht]
        obtain ⟨t1, t2, _⟩ := target h hs (t := i + 1 + (ins l i).jt) ((nexts_test ht _).2 (.inl rfl))
        obtain ⟨t3, t4, _⟩ := target h hs (t := i + 1 + (ins l i).jf) ((nexts_test ht _).2 (.inr rfl))
        refine one_test (x := { ins l i with jt := _, jf := _ }) ht ?_ ?_
        · show ahead (stay l) i + 1 + (_ - _ - 1) < _
          omega
        · show ahead (stay l) i + 1 + (_ - _ - 1) < _
          omega
      · rw [moved_else (by simpa using hj) (by simpa using ht)]
        exact one_move (h.one hi) (by simpa using hj) (by simpa using ht)
  · rw [leaveL_len] at hpos ⊢
    obtain ⟨i, hi, hs, hp⟩ := filt_from (stay l) (n := l.length) (p := ahead (stay l) l.length - 1) (by omega)
    rw [← hp, leaveL_ins hi hs, form_bare, moved_code]
    cases hr : isRet (ins l i).code
    · obtain ⟨k, hk⟩ := h.next hi hr
      obtain ⟨t1, t2, _⟩ := target h hs hk
      omega
    · rfl

theorem once_good {l : List Insn} (h : Good l) : Good (onceL l) := (leave_good (level_good (lead_good (give_good h)))).1
theorem once_len {l : List Insn} (h : Good l) : (onceL l).length ≤ l.length := by
  have := (leave_good (level_good (lead_good (give_good h)))).2
  rw [levelL_len, leadL_len, giveL_len] at this
  exact this
end Go.Proofs.Ytfjbanfibmpalaa

/- Plain: rounds end; what stays as it is. -/
set_option linter.unusedVariables false
set_option linter.unusedSimpArgs false
namespace Go.Proofs.Ytfjbanfibmpalaa

theorem list_ins {a b : List Insn} (hl : a.length = b.length) (h : ∀ i, i < a.length → ins a i = ins b i) : a = b := by
  refine List.ext_getElem hl (fun i h1 h2 => ?_)
  have := h i h1
  rwa [at_get a i h1, at_get b i h2] at this

def sumTo (f : Nat → Nat) : Nat → Nat
  | 0 => 0
  | n + 1 => sumTo f n + f n
theorem sumTo_le {f g : Nat → Nat} : ∀ {n : Nat}, (∀ i, i < n → f i ≤ g i) → sumTo f n ≤ sumTo g n
  | 0, _ => Nat.le_refl _
  | n + 1, h => by
    have := sumTo_le (n := n) (fun i hi => h i (by omega))
    have := h n (by omega)
    unfold sumTo; omega
theorem sumTo_same {f g : Nat → Nat} : ∀ {n : Nat}, (∀ i, i < n → f i ≤ g i) → sumTo g n ≤ sumTo f n → ∀ i, i < n → f i = g i
  | 0, _, _, i, hi => by omega
  | n + 1, h, hs, i, hi => by
    have h1 := sumTo_le (n := n) (f := f) (g := g) (fun i hi => h i (by omega))
    have h2 := h n (by omega)
    unfold sumTo at hs
    rcases Nat.lt_or_ge i n with h3 | h3
    · exact sumTo_same (n := n) (fun i hi => h i (by omega)) (by omega) i h3
    · obtain rfl : i = n := by omega
      omega
theorem sumTo_congr {f g : Nat → Nat} : ∀ {n : Nat}, (∀ i, i < n → f i = g i) → sumTo f n = sumTo g n
  | 0, _ => rfl
  | n + 1, h => by
    unfold sumTo
    rw [sumTo_congr (n := n) (fun i hi => h i (by omega)), h n (by omega)]

def weight (x : Insn) : Nat := 1 + (if isTest x then 2 else 0) + (if isJa x then 1 else 0)
def wt (l : List Insn) : Nat := sumTo (fun i => weight (ins l i)) l.length

theorem weight_code {x y : Insn} (h : x.code = y.code) : weight x = weight y := by unfold weight isTest isJa; rw [h]
theorem weight_pos (x : Insn) : 1 ≤ weight x := by unfold weight; omega
theorem weight_ja {x : Insn} (h : isJa x = true) : weight x = 2 := by unfold weight; rw [h, ja_not_test h]; rfl
theorem weight_test {x : Insn} (h : isTest x = true) : weight x = 3 := by
  have hj : isJa x = false := by
    cases hj : isJa x
    · rfl
    · rw [ja_not_test hj] at h; cases h
  unfold weight; rw [h, hj]; rfl
theorem weight_ret {x : Insn} (h : isRet x.code = true) : weight x = 1 := by unfold weight; rw [ret_not_ja h, ret_not_test h]; rfl

theorem give_weight (l : List Insn) (i : Nat) : weight (giveAt l i) ≤ weight (ins l i) ∧ (weight (giveAt l i) = weight (ins l i) → giveAt l i = ins l i) := by
  unfold giveAt
  by_cases hc : (isJa (ins l i) && isRet (ins l (endOf l i)).code) = true
  · rw [if_pos hc]
    simp at hc
    rw [weight_ret hc.2, weight_ja hc.1]
    exact ⟨by omega, by omega⟩
  · rw [if_neg hc]; exact ⟨Nat.le_refl _, fun _ => rfl⟩
theorem lead_weight (l : List Insn) (i : Nat) : weight (leadAt l i) = weight (ins l i) := by
  refine weight_code ?_
  unfold leadAt; repeat' split
  all_goals rfl
theorem level_weight (l : List Insn) (i : Nat) : weight (levelAt l i) ≤ weight (ins l i) ∧ (weight (levelAt l i) = weight (ins l i) → levelAt l i = ins l i) := by
  by_cases h : isTest (ins l i) = true ∧ (ins l i).jt = (ins l i).jf
  · rw [levelAt_ja h.1 h.2, weight_test h.1]
    have : weight ⟨5, 0, 0, (ins l i).jt⟩ = 2 := weight_ja rfl
    exact ⟨by omega, by omega⟩
  · rw [levelAt_else h]; exact ⟨Nat.le_refl _, fun _ => rfl⟩

theorem give_wt (l : List Insn) : wt (giveL l) ≤ wt l ∧ (wt (giveL l) = wt l → giveL l = l) := by
  have e : wt (giveL l) = sumTo (fun i => weight (giveAt l i)) l.length := by
    unfold wt; rw [giveL_len]; exact sumTo_congr (fun i hi => by rw [giveL_ins hi])
  rw [e]
  refine ⟨sumTo_le (fun i hi => (give_weight l i).1), fun h => list_ins (giveL_len l) (fun i hi => ?_)⟩
  rw [giveL_len] at hi
  rw [giveL_ins hi]
  exact (give_weight l i).2 (sumTo_same (fun i hi => (give_weight l i).1) (by rw [h]; exact Nat.le_refl _) i hi)
theorem lead_wt (l : List Insn) : wt (leadL l) = wt l := by
  unfold wt; rw [leadL_len]; exact sumTo_congr (fun i hi => by rw [leadL_ins hi, lead_weight])
theorem level_wt (l : List Insn) : wt (levelL l) ≤ wt l ∧ (wt (levelL l) = wt l → levelL l = l) := by
  have e : wt (levelL l) = sumTo (fun i => weight (levelAt l i)) l.length := by
    unfold wt; rw [levelL_len]; exact sumTo_congr (fun i hi => by rw [levelL_ins hi])
  rw [e]
  refine ⟨sumTo_le (fun i hi => (level_weight l i).1), fun h => list_ins (levelL_len l) (fun i hi => ?_)⟩
  rw [levelL_len] at hi
  rw [levelL_ins hi]
  exact (level_weight l i).2 (sumTo_same (fun i hi => (level_weight l i).1) (by rw [h]; exact Nat.le_refl _) i hi)
theorem leave_wt (l : List Insn) : wt (leaveL l) ≤ wt l ∧ (wt (leaveL l) = wt l → ∀ i, i < l.length → stay l i = true) := by
  have e : ∀ m, m ≤ l.length → sumTo (fun i => weight (ins (leaveL l) i)) (ahead (stay l) m) = sumTo (fun i => if stay l i then weight (ins l i) else 0) m := by
    intro m
    induction m with
    | zero => intro _; rfl
    | succ m ih =>
      intro hm
      rw [ahead]
      by_cases hs : stay l m = true
      · rw [if_pos hs]
        show sumTo _ (ahead (stay l) m) + _ = sumTo _ m + _
        rw [ih (by omega)]
        dsimp only
        rw [if_pos hs, leaveL_ins (by omega) hs]
        congr 1
        exact weight_code (by rw [form_bare, moved_code])
      · rw [if_neg hs, Nat.add_zero, ih (by omega)]
        show _ = sumTo _ m + _
        dsimp only
        rw [if_neg hs]; rfl
  have e2 : wt (leaveL l) = sumTo (fun i => if stay l i then weight (ins l i) else 0) l.length := by
    unfold wt; rw [leaveL_len]; exact e _ (Nat.le_refl _)
  have hle : ∀ i, i < l.length → (if stay l i then weight (ins l i) else 0) ≤ weight (ins l i) := by intro i _; split <;> omega
  rw [e2]
  refine ⟨sumTo_le hle, fun h i hi => ?_⟩
  have := sumTo_same hle (by rw [h]; exact Nat.le_refl _) i hi
  have hp := weight_pos (ins l i)
  by_cases hs : stay l i = true
  · exact hs
  · simp only [if_neg hs] at this; omega

theorem once_wt (l : List Insn) : wt (onceL l) ≤ wt l := by
  have h1 := (give_wt l).1
  have h2 := lead_wt (giveL l)
  have h3 := (level_wt (leadL (giveL l))).1
  have h4 := (leave_wt (levelL (leadL (giveL l)))).1
  unfold onceL; omega

/-- Nothing was made but that jumps lead to ends, and what does not count has gone. -/
structure Tight (l : List Insn) : Prop where
  give : giveL l = l
  level : levelL (leadL l) = leadL l
  all : ∀ i, i < l.length → stay (leadL l) i = true

theorem tight_of {l : List Insn} (h : wt l ≤ wt (onceL l)) : Tight l := by
  have h1 := give_wt l
  have h2 := lead_wt (giveL l)
  have h3 := level_wt (leadL (giveL l))
  have h4 := leave_wt (levelL (leadL (giveL l)))
  unfold onceL at h
  have e1 : giveL l = l := h1.2 (by omega)
  rw [e1] at h2 h3 h4 h
  have e2 : levelL (leadL l) = leadL l := h3.2 (by omega)
  rw [e2] at h4 h
  exact ⟨e1, e2, fun i hi => h4.2 (by omega) i (by rw [leadL_len]; exact hi)⟩

theorem ahead_all {f : Nat → Bool} : ∀ {n : Nat}, (∀ i, i < n → f i = true) → ahead f n = n
  | 0, _ => rfl
  | n + 1, h => by rw [ahead, ahead_all (fun i hi => h i (by omega)), if_pos (h n (by omega))]

theorem moved_same {l : List Insn} (h : Good l) (hs : ∀ i, i < l.length → stay l i = true) {i : Nat} (hi : i < l.length) : moved l i = ins l i := by
  have ha : ∀ j, j ≤ l.length → ahead (stay l) j = j := fun j hj => ahead_all (fun i hi => hs i (by omega))
  by_cases hj : isJa (ins l i) = true
  · have hk := h.ja hi hj
    rw [moved_ja hj, ha _ (by omega), ha _ (by omega)]
    rw [show i + 1 + (ins l i).k - i - 1 = (ins l i).k by omega]
  · by_cases ht : isTest (ins l i) = true
    · have hk := h.test hi ht
      rw [moved_test ht, ha _ (by omega), ha _ (by omega), ha _ (by omega)]
      rw [show i + 1 + (ins l i).jt - i - 1 = (ins l i).jt by omega, show i + 1 + (ins l i).jf - i - 1 = (ins l i).jf by omega]
    · exact moved_else (by simpa using hj) (by simpa using ht)

theorem leave_all {l : List Insn} (h : Good l) (hs : ∀ i, i < l.length → stay l i = true) : (leaveL l).length = l.length ∧ ∀ i, i < l.length → ins (leaveL l) i = bare (ins l i) := by
  have ha : ∀ j, j ≤ l.length → ahead (stay l) j = j := fun j hj => ahead_all (fun i hi => hs i (by omega))
  refine ⟨by rw [leaveL_len, ha _ (Nat.le_refl _)], fun i hi => ?_⟩
  have := leaveL_ins hi (hs i hi)
  rw [ha _ (by omega), moved_same h hs hi] at this
  exact this

theorem Tight.once {l : List Insn} (t : Tight l) (h : Good l) : (onceL l).length = l.length ∧ ∀ i, i < l.length → ins (onceL l) i = bare (leadAt l i) := by
  unfold onceL
  rw [t.give, t.level]
  have := leave_all (lead_good h) (by rw [leadL_len]; exact t.all)
  rw [leadL_len] at this
  exact ⟨this.1, fun i hi => by rw [this.2 i hi, leadL_ins hi]⟩

theorem bare_default : bare default = default := by decide
theorem nexts_bare (x : Insn) (i : Nat) : nexts (bare x) i = nexts x i := by
  unfold nexts
  rw [form_bare]
  by_cases h0 : form x.code < 0 ∨ isRet x.code = true
  · rw [if_pos h0, if_pos h0]
  rw [if_neg h0, if_neg h0]
  by_cases h4 : form x.code = 4
  · rw [if_pos h4, if_pos h4, bare_k (by omega) (by omega)]
  rw [if_neg h4, if_neg h4]
  by_cases h5 : form x.code = 5 ∨ form x.code = 6
  · rw [if_pos h5, if_pos h5]
    have := bare_test (x := x) (by simpa [isTest] using h5)
    rw [this.1, this.2]
  · rw [if_neg h5, if_neg h5]

theorem metAt_congr {a b : List Insn} (h : ∀ i, nexts (ins a i) i = nexts (ins b i) i) : ∀ j, metAt a j = metAt b j
  | 0 => rfl
  | j + 1 => by
    have := h j
    unfold ins at this
    rw [metAt, metAt, metAt_congr h j, this]

theorem ins_out {l : List Insn} {i : Nat} (h : l.length ≤ i) : ins l i = default := by simp [ins, h]

theorem Tight.fix {l : List Insn} (t : Tight l) (h : Good l) : onceL (onceL l) = onceL l := by
  obtain ⟨hn, ho⟩ := t.once h
  have g := once_good h
  generalize onceL l = o at *
  have hja : ∀ i, i < l.length → isJa (ins o i) = isJa (ins l i) := by
    intro i hi; rw [ho i hi, bare_isJa]
    unfold leadAt isJa
    repeat' split
    all_goals rfl
  have hte : ∀ i, i < l.length → isTest (ins o i) = isTest (ins l i) := by
    intro i hi; rw [ho i hi, bare_isTest]
    unfold leadAt isTest
    repeat' split
    all_goals rfl
  have hk : ∀ i, i < l.length → isJa (ins l i) = true → (ins o i).k = endOf l i - i - 1 := by
    intro i hi hj
    rw [ho i hi, leadAt_ja hj, bare_ja (by exact hj)]
  have hend : ∀ i, i < l.length → endOf o i = endOf l i := by
    intro i hi
    by_cases hj : isJa (ins l i) = true
    · have e1 := endOf_ja_gt h hi hj
      have e2 := endOf_lt h hi
      have e3 := endOf_not h hi
      rw [endOf_ja g (by omega) (by rw [hja i hi]; exact hj), hk i hi hj, show i + 1 + (endOf l i - i - 1) = endOf l i by omega]
      exact endOf_else (by omega) (by rw [hja _ e2]; exact e3)
    · have hj' : isJa (ins l i) = false := by simpa using hj
      rw [endOf_else hi hj', endOf_else (by omega) (by rw [hja i hi]; exact hj')]
  have hcode : ∀ i, i < l.length → (ins o i).code = (ins l i).code := by
    intro i hi; rw [ho i hi, form_bare]; unfold leadAt; repeat' split
    all_goals rfl
  have hgive : giveL o = o := by
    refine list_ins (giveL_len o) (fun i hi => ?_)
    rw [giveL_len] at hi
    rw [giveL_ins hi]
    have hi' : i < l.length := by omega
    unfold giveAt
    rw [hja i hi', hend i hi', hcode _ (endOf_lt h hi')]
    by_cases hc : (isJa (ins l i) && isRet (ins l (endOf l i)).code) = true
    · exfalso
      have e := giveL_ins hi'
      rw [t.give] at e
      unfold giveAt at e
      rw [if_pos hc] at e
      simp at hc
      rw [← e] at hc
      rw [ja_not_ret hc.1] at hc
      cases hc.2
    · rw [if_neg hc]
  have hlead : leadL o = o := by
    refine list_ins (leadL_len o) (fun i hi => ?_)
    rw [leadL_len] at hi
    rw [leadL_ins hi]
    have hi' : i < l.length := by omega
    by_cases hj : isJa (ins l i) = true
    · rw [leadAt_ja (by rw [hja i hi']; exact hj), hend i hi', ← hk i hi' hj]
    · by_cases ht : isTest (ins l i) = true
      · have hjf := h.test hi' ht
        have e := ho i hi'
        rw [leadAt_test ht] at e
        have eb := bare_test (x := { ins l i with jt := lead1 l i (ins l i).jt, jf := lead1 l i (ins l i).jf }) ht
        have e1 : (ins o i).jt = lead1 l i (ins l i).jt := by rw [e]; exact eb.1
        have e2 : (ins o i).jf = lead1 l i (ins l i).jf := by rw [e]; exact eb.2
        have l1 : lead1 o i (ins o i).jt = (ins o i).jt := by
          rw [e1, lead1_eq h i _ hjf.1]
          have q1 := endOf_ge h hjf.1
          have q2 := endOf_lt h hjf.1
          have q3 := endOf_not h hjf.1
          rw [lead1_eq g i _ (by omega), show i + 1 + (endOf l (i + 1 + (ins l i).jt) - i - 1) = endOf l (i + 1 + (ins l i).jt) by omega, hend _ q2, endOf_else q2 q3]
        have l2 : lead1 o i (ins o i).jf = (ins o i).jf := by
          rw [e2, lead1_eq h i _ hjf.2]
          have q1 := endOf_ge h hjf.2
          have q2 := endOf_lt h hjf.2
          have q3 := endOf_not h hjf.2
          rw [lead1_eq g i _ (by omega), show i + 1 + (endOf l (i + 1 + (ins l i).jf) - i - 1) = endOf l (i + 1 + (ins l i).jf) by omega, hend _ q2, endOf_else q2 q3]
        rw [leadAt_test (by rw [hte i hi']; exact ht), l1, l2]
      · exact leadAt_else (by rw [hja i hi']; simpa using hj) (by rw [hte i hi']; simpa using ht)
  have hlevel : levelL o = o := by
    refine list_ins (levelL_len o) (fun i hi => ?_)
    rw [levelL_len] at hi
    rw [levelL_ins hi]
    have hi' : i < l.length := by omega
    refine levelAt_else ?_
    rintro ⟨q1, q2⟩
    have e := levelL_ins (l := leadL l) (i := i) (by rw [leadL_len]; exact hi')
    rw [t.level] at e
    rw [ho i hi', bare_isTest] at q1
    have eb := bare_test q1
    rw [ho i hi', eb.1, eb.2] at q2
    rw [leadL_ins hi'] at e
    rw [levelAt_ja (by rw [leadL_ins hi']; exact q1) (by rw [leadL_ins hi']; exact q2), leadL_ins hi'] at e
    have : isTest (leadAt l i) = false := ja_not_test (by rw [e]; rfl)
    rw [this] at q1; cases q1
  have hmet : ∀ j, metAt o j = metAt (leadL l) j := metAt_congr (fun i => by
    by_cases hi : i < l.length
    · rw [ho i hi, nexts_bare, leadL_ins hi]
    · rw [ins_out (l := o) (by omega), ins_out (l := leadL l) (by rw [leadL_len]; omega)])
  have hstay : ∀ i, i < o.length → stay o i = true := by
    intro i hi
    have hi' : i < l.length := by omega
    have hd := t.all i hi'
    rw [stay_eq (by rw [leadL_len]; exact hi')] at hd
    rw [stay_eq hi]
    unfold R at hd ⊢
    rw [hmet i]
    rw [leadL_ins hi'] at hd
    simp only [Bool.and_eq_true, Bool.or_eq_true] at hd ⊢
    refine ⟨hd.1, ?_⟩
    rcases hd.2 with q | q
    · by_cases hj : isJa (leadAt l i) = true
      · left; rw [ho i hi', bare_ja hj]; exact q
      · right; rw [ho i hi', bare_isJa]; simpa using hj
    · right; rw [ho i hi', bare_isJa]; exact q
  unfold onceL
  rw [hgive, hlead, hlevel]
  have hl := leave_all g hstay
  refine list_ins hl.1 (fun i hi => ?_)
  rw [hl.1] at hi
  rw [hl.2 i hi, ho i (by omega), bare_bare]

/-! Rounds -/
def iter : Nat → List Insn → List Insn
  | 0, l => l
  | f + 1, l => if onceL l = l then l else iter f (onceL l)

def meas (l : List Insn) : Nat := 2 * wt l + (if onceL l = l then 0 else 1)
def pruneL (l : List Insn) : List Insn := iter (2 * wt l + 2) l

theorem meas_lt {l : List Insn} (h : Good l) (hn : onceL l ≠ l) : meas (onceL l) < meas l := by
  have h1 := once_wt l
  unfold meas
  rw [if_neg hn]
  by_cases h2 : wt l ≤ wt (onceL l)
  · rw [if_pos ((tight_of h2).fix h)]; omega
  · split <;> omega

theorem iter_fuel : ∀ f g l, Good l → meas l < f → meas l < g → iter f l = iter g l
  | 0, _, _, _, h, _ => by omega
  | _, 0, _, _, _, h => by omega
  | f + 1, g + 1, l, hg, h1, h2 => by
    unfold iter
    by_cases h : onceL l = l
    · rw [if_pos h, if_pos h]
    · rw [if_neg h, if_neg h]
      have := meas_lt hg h
      exact iter_fuel f g _ (once_good hg) (by omega) (by omega)

theorem meas_le (l : List Insn) : meas l < 2 * wt l + 2 := by unfold meas; split <;> omega

theorem prune_fixed {l : List Insn} (h : onceL l = l) : pruneL l = l := by unfold pruneL iter; rw [if_pos h]
theorem prune_once {l : List Insn} (h : Good l) : pruneL (onceL l) = pruneL l := by
  by_cases hl : onceL l = l
  · rw [hl]
  · have e : pruneL l = iter (2 * wt l + 1) (onceL l) := by unfold pruneL; rw [iter, if_neg hl]
    rw [e]
    have h1 := meas_lt h hl
    have h2 := meas_le l
    exact iter_fuel _ _ _ (once_good h) (meas_le _) (by omega)

theorem prune_ind {P : List Insn → Prop} (hfix : ∀ l, Good l → onceL l = l → P l) (hstep : ∀ l, Good l → onceL l ≠ l → P (onceL l) → P l) : ∀ n l, Good l → meas l ≤ n → P l
  | 0, l, h, hm => by
    refine hfix l h ?_
    unfold meas at hm
    split at hm
    · assumption
    · omega
  | n + 1, l, h, hm => by
    by_cases hl : onceL l = l
    · exact hfix l h hl
    · exact hstep l h hl (prune_ind hfix hstep n _ (once_good h) (by have := meas_lt h hl; omega))

theorem prune_facts {l : List Insn} (h : Good l) : Good (pruneL l) ∧ onceL (pruneL l) = pruneL l ∧ (pruneL l).length ≤ l.length := by
  refine prune_ind (P := fun l => Good (pruneL l) ∧ onceL (pruneL l) = pruneL l ∧ (pruneL l).length ≤ l.length) ?_ ?_ _ l h (Nat.le_refl _)
  · intro l h hl; rw [prune_fixed hl]; exact ⟨h, hl, Nat.le_refl _⟩
  · intro l h hl hp
    rw [prune_once h] at hp
    exact ⟨hp.1, hp.2.1, Nat.le_trans hp.2.2 (once_len h)⟩

/-- What stays as it is is all reached. -/
theorem fixed_reach {l : List Insn} (h : Good l) (hl : onceL l = l) : (reach l).length = l.length := by
  have t := tight_of (l := l) (by rw [hl]; exact Nat.le_refl _)
  rw [reach_eq, filt_len, ahead_all]
  intro i hi
  have ho := t.once h
  rw [hl] at ho
  have hmet : ∀ j, metAt l j = metAt (leadL l) j := metAt_congr (fun i => by
    by_cases hi : i < l.length
    · rw [ho.2 i hi, nexts_bare, leadL_ins hi]
    · rw [ins_out (l := l) (by omega), ins_out (l := leadL l) (by rw [leadL_len]; omega)])
  have := stay_R (t.all i hi)
  unfold R at this ⊢
  rw [hmet i]; exact this.2
end Go.Proofs.Ytfjbanfibmpalaa

/- Plain: what is put where nobody comes, and a jump ahead to what stands behind it, change nothing. -/
set_option linter.unusedVariables false
set_option linter.unusedSimpArgs false
namespace Go.Proofs.Ytfjbanfibmpalaa

theorem one_grow {x : Insn} {i n m : Nat} (h : one x i n = 0) (hb : behind i n ≤ behind i m) : one x i m = 0 := by
  obtain ⟨h1, h2, h3, h4, h5, h6, h7⟩ := one_parts h
  exact one_of h1 h2 h3 h4 h5 (by omega) (by omega)

section
variable {l : List Insn} {x : Insn}
theorem ins_app {i : Nat} (h : i < l.length) : ins (l ++ [x]) i = ins l i := by unfold ins; rw [List.getD_eq_getElem?_getD, List.getD_eq_getElem?_getD, List.getElem?_append_left h]
theorem ins_app_last : ins (l ++ [x]) l.length = x := by unfold ins; simp
theorem app_len : (l ++ [x]).length = l.length + 1 := by simp

theorem app_good (h : Good l) (hx : x.Ok) (hr : isRet x.code = true) (hl : l.length < 64) : Good (l ++ [x]) := by
  refine good_of (by rw [app_len]; omega) (by rw [app_len]; omega) ?_ ?_ ?_
  · intro i hi
    rw [app_len] at hi
    rcases Nat.lt_or_ge i l.length with h1 | h1
    · rw [ins_app h1]; exact h.okAt h1
    · obtain rfl : i = l.length := by omega
      rw [ins_app_last]; exact hx
  · intro i hi
    rw [app_len] at hi
    rcases Nat.lt_or_ge i l.length with h1 | h1
    · rw [ins_app h1, app_len]; exact one_grow (h.one h1) (by unfold behind; split <;> split <;> omega)
    · obtain rfl : i = l.length := by omega
      rw [ins_app_last]; exact one_ret _ _ hr
  · rw [app_len, Nat.add_sub_cancel, ins_app_last]; exact hr

theorem app_end (h : Good l) (hg : Good (l ++ [x])) : ∀ n i, l.length - i ≤ n → i < l.length → endOf (l ++ [x]) i = endOf l i
  | 0, i, hn, hi => by omega
  | n + 1, i, hn, hi => by
    have hi' : i < (l ++ [x]).length := by rw [app_len]; omega
    by_cases hj : isJa (ins l i) = true
    · have hk := h.ja hi hj
      rw [endOf_ja h hi hj, endOf_ja hg hi' (by rw [ins_app hi]; exact hj), ins_app hi]
      exact app_end h hg n _ (by omega) hk.1
    · have hj' : isJa (ins l i) = false := by simpa using hj
      rw [endOf_else hi hj', endOf_else hi' (by rw [ins_app hi]; exact hj')]

theorem app_give (h : Good l) (hg : Good (l ++ [x])) (hr : isRet x.code = true) : giveL (l ++ [x]) = giveL l ++ [x] := by
  refine list_ins (by rw [giveL_len, app_len, app_len, giveL_len]) (fun i hi => ?_)
  rw [giveL_len] at hi
  rw [giveL_ins hi]
  rw [app_len] at hi
  rcases Nat.lt_or_ge i l.length with h1 | h1
  · rw [ins_app (by rw [giveL_len]; exact h1), giveL_ins h1]
    unfold giveAt
    rw [app_end h hg _ i (Nat.le_refl _) h1, ins_app h1, ins_app (endOf_lt h h1)]
  · obtain rfl : i = l.length := by omega
    have e : ins (giveL l ++ [x]) l.length = x := by have := ins_app_last (l := giveL l) (x := x); rwa [giveL_len] at this
    rw [e]
    unfold giveAt
    rw [ins_app_last, ret_not_ja hr]; rfl
theorem app_lead (h : Good l) (hg : Good (l ++ [x])) (hr : isRet x.code = true) : leadL (l ++ [x]) = leadL l ++ [x] := by
  refine list_ins (by rw [leadL_len, app_len, app_len, leadL_len]) (fun i hi => ?_)
  rw [leadL_len] at hi
  rw [leadL_ins hi]
  rw [app_len] at hi
  rcases Nat.lt_or_ge i l.length with h1 | h1
  · rw [ins_app (by rw [leadL_len]; exact h1), leadL_ins h1]
    by_cases hj : isJa (ins l i) = true
    · rw [leadAt_ja hj, leadAt_ja (by rw [ins_app h1]; exact hj), ins_app h1, app_end h hg _ i (Nat.le_refl _) h1]
    · by_cases ht : isTest (ins l i) = true
      · have hk := h.test h1 ht
        have hk' := hg.test (i := i) (by rw [app_len]; omega) (by rw [ins_app h1]; exact ht)
        rw [ins_app h1] at hk'
        rw [leadAt_test ht, leadAt_test (by rw [ins_app h1]; exact ht), ins_app h1, lead1_eq h i _ hk.1, lead1_eq h i _ hk.2, lead1_eq hg i _ hk'.1, lead1_eq hg i _ hk'.2, app_end h hg _ _ (Nat.le_refl _) hk.1, app_end h hg _ _ (Nat.le_refl _) hk.2]
      · rw [leadAt_else (l := l) (by simpa using hj) (by simpa using ht), leadAt_else (l := l ++ [x]) (by rw [ins_app h1]; simpa using hj) (by rw [ins_app h1]; simpa using ht), ins_app h1]
  · obtain rfl : i = l.length := by omega
    have e : ins (leadL l ++ [x]) l.length = x := by have := ins_app_last (l := leadL l) (x := x); rwa [leadL_len] at this
    rw [e, leadAt_else (by rw [ins_app_last]; exact ret_not_ja hr) (by rw [ins_app_last]; exact ret_not_test hr), ins_app_last]
theorem app_level (hr : isRet x.code = true) : levelL (l ++ [x]) = levelL l ++ [x] := by
  refine list_ins (by rw [levelL_len, app_len, app_len, levelL_len]) (fun i hi => ?_)
  rw [levelL_len] at hi
  rw [levelL_ins hi]
  rw [app_len] at hi
  rcases Nat.lt_or_ge i l.length with h1 | h1
  · rw [ins_app (by rw [levelL_len]; exact h1), levelL_ins h1]
    unfold levelAt; rw [ins_app h1]
  · obtain rfl : i = l.length := by omega
    have e : ins (levelL l ++ [x]) l.length = x := by have := ins_app_last (l := levelL l) (x := x); rwa [levelL_len] at this
    rw [e, levelAt_else (by rw [ins_app_last, ret_not_test hr]; simp), ins_app_last]

theorem app_met : ∀ j, j ≤ l.length → metAt (l ++ [x]) j = metAt l j
  | 0, _ => rfl
  | j + 1, h => by
    have e : (l ++ [x]).getD j default = l.getD j default := ins_app (x := x) (show j < l.length by omega)
    rw [metAt, metAt, app_met j (by omega), e]
theorem app_stay (h : Good l) (hg : Good (l ++ [x])) : ∀ i, stay (l ++ [x]) i = stay l i := by
  intro i
  rcases Nat.lt_or_ge i l.length with h1 | h1
  · rw [stay_eq h1, stay_eq (by rw [app_len]; omega), ins_app h1]
    unfold R; rw [app_met i (by omega)]
  · rw [stay_out h1]
    rcases Nat.lt_or_ge l.length i with h2 | h2
    · exact stay_out (by rw [app_len]; omega)
    · obtain rfl : i = l.length := by omega
      rw [stay_eq (by rw [app_len]; omega)]
      have : R (l ++ [x]) l.length = false := by
        cases hr : R (l ++ [x]) l.length
        · rfl
        · exfalso
          have hl := h.len
          rcases R_from hr with h0 | ⟨j, hj, _, hk⟩
          · omega
          · rw [ins_app hj] at hk
            have := h.nexts_lt hj _ hk
            omega
      rw [this]; rfl
theorem ahead_congr {f g : Nat → Bool} (h : ∀ i, f i = g i) : ahead f = ahead g := by
  have : f = g := funext h
  rw [this]
theorem app_leave (h : Good l) (hg : Good (l ++ [x])) : leaveL (l ++ [x]) = leaveL l := by
  have hs := app_stay h hg
  have ha := ahead_congr hs
  have hlen : (leaveL (l ++ [x])).length = (leaveL l).length := by
    rw [leaveL_len, leaveL_len, ha, app_len, ahead, stay_out (Nat.le_refl _)]; simp
  refine list_ins hlen (fun p hp => ?_)
  rw [hlen, leaveL_len] at hp
  obtain ⟨i, hi, hst, rfl⟩ := filt_from _ hp
  rw [leaveL_ins hi hst]
  have := leaveL_ins (l := l ++ [x]) (i := i) (by rw [app_len]; omega) (by rw [hs]; exact hst)
  rw [ha] at this
  rw [this]
  unfold moved
  rw [ins_app hi, ha]

theorem app_once (h : Good l) (hx : x.Ok) (hr : isRet x.code = true) (hl : l.length < 64) : onceL (l ++ [x]) = onceL l := by
  have g1 := give_good h
  have g2 := lead_good g1
  have g3 := level_good g2
  unfold onceL
  rw [app_give h (app_good h hx hr hl) hr, app_lead g1 (app_good g1 hx hr (by rw [giveL_len]; exact hl)) hr, app_level hr,
    app_leave g3 (app_good g3 hx hr (by rw [levelL_len, leadL_len, giveL_len]; exact hl))]
theorem app_prune (h : Good l) (hx : x.Ok) (hr : isRet x.code = true) (hl : l.length < 64) : pruneL (l ++ [x]) = pruneL l := by
  rw [← prune_once (app_good h hx hr hl), app_once h hx hr hl, prune_once h]
end

/-! A jump ahead -/
section
variable {l : List Insn} {y : Insn}
theorem cons_zero : ins (y :: l) 0 = y := rfl
theorem cons_succ (i : Nat) : ins (y :: l) (i + 1) = ins l i := rfl
theorem cons_len : (y :: l).length = l.length + 1 := rfl
theorem behind_succ (i n : Nat) : behind (i + 1) (n + 1) = behind i n := by unfold behind; split <;> split <;> omega
theorem one_succ (x : Insn) (i n : Nat) : one x (i + 1) (n + 1) = one x i n := by unfold one; rw [behind_succ]

theorem cons_good (h : Good l) (hy : y.Ok) (hj : isJa y = true) (hk : y.k < l.length) (hl : l.length < 64) : Good (y :: l) := by
  have hl1 := h.len
  refine good_of (by rw [cons_len]; omega) (by rw [cons_len]; omega) ?_ ?_ ?_
  · intro i hi
    cases i with
    | zero => exact hy
    | succ i => exact h.okAt (by rw [cons_len] at hi; omega)
  · intro i hi
    cases i with
    | zero => exact one_ja hj (by rw [cons_len, cons_zero]; omega)
    | succ i => rw [cons_len, one_succ]; exact h.one (by rw [cons_len] at hi; omega)
  · rw [cons_len, Nat.add_sub_cancel, show l.length = (l.length - 1) + 1 by omega, cons_succ]; exact h.last

theorem cons_end (h : Good l) (hg : Good (y :: l)) : ∀ n i, l.length - i ≤ n → i < l.length → endOf (y :: l) (i + 1) = endOf l i + 1
  | 0, i, hn, hi => by omega
  | n + 1, i, hn, hi => by
    have hi' : i + 1 < (y :: l).length := by rw [cons_len]; omega
    by_cases hj : isJa (ins l i) = true
    · have hk := h.ja hi hj
      rw [endOf_ja h hi hj, endOf_ja hg hi' hj, cons_succ, show i + 1 + 1 + (ins l i).k = (i + 1 + (ins l i).k) + 1 by omega]
      exact cons_end h hg n _ (by omega) hk.1
    · have hj' : isJa (ins l i) = false := by simpa using hj
      rw [endOf_else hi hj', endOf_else hi' hj']

theorem cons_give (h : Good l) (hg : Good (y :: l)) : giveL (y :: l) = giveAt (y :: l) 0 :: giveL l := by
  refine list_ins (by rw [giveL_len, cons_len, cons_len, giveL_len]) (fun i hi => ?_)
  rw [giveL_len] at hi
  rw [giveL_ins hi]
  cases i with
  | zero => rfl
  | succ i =>
    have hi' : i < l.length := by rw [cons_len] at hi; omega
    rw [cons_succ, giveL_ins hi']
    unfold giveAt
    rw [cons_succ, cons_end h hg _ i (Nat.le_refl _) hi', cons_succ]
theorem cons_lead (h : Good l) (hg : Good (y :: l)) : leadL (y :: l) = leadAt (y :: l) 0 :: leadL l := by
  refine list_ins (by rw [leadL_len, cons_len, cons_len, leadL_len]) (fun i hi => ?_)
  rw [leadL_len] at hi
  rw [leadL_ins hi]
  cases i with
  | zero => rfl
  | succ i =>
    have hi' : i < l.length := by rw [cons_len] at hi; omega
    rw [cons_succ, leadL_ins hi']
    by_cases hj : isJa (ins l i) = true
    · rw [leadAt_ja hj, leadAt_ja (l := y :: l) (i := i + 1) hj, cons_succ, cons_end h hg _ i (Nat.le_refl _) hi', show endOf l i + 1 - (i + 1) - 1 = endOf l i - i - 1 by omega]
    · by_cases ht : isTest (ins l i) = true
      · have hk := h.test hi' ht
        have hk' := hg.test (i := i + 1) hi ht
        rw [cons_succ] at hk'
        have s1 := cons_end h hg _ _ (Nat.le_refl _) hk.1
        have s2 := cons_end h hg _ _ (Nat.le_refl _) hk.2
        rw [leadAt_test ht, leadAt_test (l := y :: l) (i := i + 1) ht, cons_succ, lead1_eq h i _ hk.1, lead1_eq h i _ hk.2, lead1_eq hg (i + 1) _ hk'.1, lead1_eq hg (i + 1) _ hk'.2]
        rw [show i + 1 + 1 + (ins l i).jt = i + 1 + (ins l i).jt + 1 by omega, show i + 1 + 1 + (ins l i).jf = i + 1 + (ins l i).jf + 1 by omega, s1, s2]
        rw [show ∀ a : Nat, a + 1 - (i + 1) - 1 = a - i - 1 by omega, show ∀ a : Nat, a + 1 - (i + 1) - 1 = a - i - 1 by omega]
      · rw [leadAt_else (l := l) (by simpa using hj) (by simpa using ht), leadAt_else (l := y :: l) (i := i + 1) (by rw [cons_succ]; simpa using hj) (by rw [cons_succ]; simpa using ht), cons_succ]
theorem cons_level : levelL (y :: l) = levelAt (y :: l) 0 :: levelL l := by
  refine list_ins (by rw [levelL_len, cons_len, cons_len, levelL_len]) (fun i hi => ?_)
  rw [levelL_len] at hi
  rw [levelL_ins hi]
  cases i with
  | zero => rfl
  | succ i =>
    have hi' : i < l.length := by rw [cons_len] at hi; omega
    rw [cons_succ, levelL_ins hi']
    rfl
end

/-- Of a program that begins with a return that alone is left. -/
theorem once_ret {g : List Insn} (h : Good g) (hr : isRet (ins g 0).code = true) : leaveL (levelL (leadL g)) = [bare (ins g 0)] := by
  have hl := h.len
  have g2 := lead_good h
  have g3 := level_good g2
  have e0 : ins (levelL (leadL g)) 0 = ins g 0 := by
    have e1 : ins (leadL g) 0 = ins g 0 := by rw [leadL_ins (by omega), leadAt_else (ret_not_ja hr) (ret_not_test hr)]
    rw [levelL_ins (by rw [leadL_len]; omega), levelAt_else (by rw [e1, ret_not_test hr]; simp), e1]
  have hlen : (levelL (leadL g)).length = g.length := by rw [levelL_len, leadL_len]
  generalize levelL (leadL g) = v at *
  have hR : ∀ n i, i ≤ n → 0 < i → R v i = false := by
    intro n
    induction n with
    | zero => intro i h1 h2; omega
    | succ n ih =>
      intro i h1 h2
      cases hi : R v i
      · rfl
      · exfalso
        rcases R_from hi with h0 | ⟨j, hj, hrj, hk⟩
        · omega
        · rcases Nat.eq_zero_or_pos j with rfl | hp
          · rw [e0, nexts_ret hr] at hk; simp at hk
          · rw [ih j (by omega) hp] at hrj; cases hrj
  have hs0 : stay v 0 = true := by
    rw [stay_eq (by omega), e0, ret_not_ja hr, R_zero]; simp
  have hs : ∀ i, 0 < i → stay v i = false := by
    intro i hi
    rcases Nat.lt_or_ge i v.length with h1 | h1
    · rw [stay_eq h1, hR i i (Nat.le_refl _) hi]; rfl
    · exact stay_out h1
  have ha : ∀ n, ahead (stay v) (n + 1) = 1 := by
    intro n
    induction n with
    | zero => rw [ahead, ahead, hs0]; rfl
    | succ n ih => rw [ahead, ih, hs (n + 1) (by omega)]; rfl
  have hn : (leaveL v).length = 1 := by rw [leaveL_len, show v.length = (v.length - 1) + 1 by omega, ha]
  refine list_ins hn (fun i hi => ?_)
  obtain rfl : i = 0 := by omega
  have := leaveL_ins (l := v) (i := 0) (by omega) hs0
  rw [show ahead (stay v) 0 = 0 from rfl] at this
  rw [this, moved_else (by rw [e0]; exact ret_not_ja hr) (by rw [e0]; exact ret_not_test hr), e0]
  rfl

def ja0 : Insn := ⟨5, 0, 0, 0⟩
theorem ja_ok (k : Nat) (h : k < 64) : (⟨5, 0, 0, k⟩ : Insn).Ok := ⟨by show (5 : Nat) < _; omega, by show (0 : Nat) < _; omega, by show (0 : Nat) < _; omega, by show k < _; omega⟩

theorem aheadS (f : Nat → Bool) (i : Nat) : ahead f (i + 1) = ahead f i + if f i then 1 else 0 := rfl
theorem metS (l : List Insn) (j k : Nat) : metAt l (j + 1) k = (metAt l j k || (metAt l j j && (nexts (ins l j) j).contains k)) := by
  rw [metAt]
  cases h : metAt l j j
  · simp
  · simp [ins]
theorem nexts_succ (z : Insn) (j q : Nat) : (nexts z (j + 1)).contains (q + 1) = (nexts z j).contains q := by
  unfold nexts
  repeat' split
  all_goals (rw [Bool.eq_iff_iff]; simp; try omega)

/-- What is left where a jump stands ahead that leads to its next. -/
theorem leave_ja0 {v : List Insn} (h : Good v) (hl : v.length < 64) : leaveL (ja0 :: v) = leaveL v := by
  have hv := h.len
  have hg : Good (ja0 :: v) := cons_good h (ja_ok 0 (by omega)) rfl (by show 0 < _; omega) hl
  have hmet : ∀ j, ∀ k, metAt (ja0 :: v) (j + 1) (k + 1) = metAt v j k := by
    intro j
    induction j with
    | zero =>
      intro k
      have n0 : nexts (ins (ja0 :: v) 0) 0 = [1] := nexts_ja (x := ja0) rfl (by decide)
      rw [metS, n0, Bool.eq_iff_iff]
      simp [metAt]
    | succ j ih =>
      intro k
      rw [metS, metS v, ih, ih, cons_succ, nexts_succ]
  have hR : ∀ i, R (ja0 :: v) (i + 1) = R v i := fun i => hmet i i
  have hs0 : stay (ja0 :: v) 0 = false := by rw [stay_eq (by rw [cons_len]; omega)]; simp [cons_zero, ja0, isJa]
  have hs : ∀ i, stay (ja0 :: v) (i + 1) = stay v i := by
    intro i
    rcases Nat.lt_or_ge i v.length with h1 | h1
    · rw [stay_eq h1, stay_eq (by rw [cons_len]; omega), hR, cons_succ]
    · rw [stay_out h1, stay_out (by rw [cons_len]; omega)]
  have ha : ∀ i, ahead (stay (ja0 :: v)) (i + 1) = ahead (stay v) i := by
    intro i
    induction i with
    | zero => rw [aheadS, hs0]; rfl
    | succ i ih => rw [aheadS, ih, hs]; rfl
  refine list_ins (by rw [leaveL_len, leaveL_len, cons_len, ha]) (fun p hp => ?_)
  rw [leaveL_len, cons_len, ha] at hp
  obtain ⟨i, hi, hst, rfl⟩ := filt_from _ hp
  rw [leaveL_ins hi hst, ← ha, leaveL_ins (by rw [cons_len]; omega) (by rw [hs]; exact hst)]
  unfold moved
  rw [cons_succ, ha, show i + 1 + 1 + (ins v i).k = (i + 1 + (ins v i).k) + 1 by omega, show i + 1 + 1 + (ins v i).jt = (i + 1 + (ins v i).jt) + 1 by omega, show i + 1 + 1 + (ins v i).jf = (i + 1 + (ins v i).jf) + 1 by omega, ha, ha, ha]

/-- What is left where a jump stands ahead that leads to where the next one, a jump, leads. -/
theorem leave_jaE {v : List Insn} (h : Good v) (hl : v.length < 64) (e : Nat) (he : 0 < e) (hj : isJa (ins v 0) = true) (hk : (ins v 0).k = e - 1) :
    (leaveL (⟨5, 0, 0, e⟩ :: v) = leaveL v ∧ 1 < e) ∨ (leaveL (⟨5, 0, 0, e⟩ :: v) = ja0 :: leaveL v ∧ stay v 0 = false) := by
  have hv := h.len
  have hv0 := h.ja (i := 0) (by omega) hj
  rw [hk] at hv0
  have n0 : nexts (ins v 0) 0 = [e] := by rw [nexts_ja hj (by omega), hk]; congr 1; omega
  obtain ⟨c, hc⟩ : ∃ c : Insn, c = ⟨5, 0, 0, e⟩ := ⟨_, rfl⟩
  have hcj : isJa c = true := by rw [hc]; rfl
  have hck : c.k = e := by rw [hc]
  rw [← hc]
  have hg : Good (c :: v) := cons_good h (by rw [hc]; exact ja_ok e (by omega)) hcj (by rw [hck]; omega) hl
  have nc : nexts c 0 = [e + 1] := by rw [nexts_ja hcj (by omega), hck]; congr 1; omega
  -- what has been met behind the first
  have hmet : ∀ j, ∀ k, 0 < k → metAt (c :: v) (j + 2) (k + 1) = metAt v (j + 1) k := by
    intro j
    induction j with
    | zero =>
      intro k hk0
      rw [metS, metS, metS v, cons_zero, nc, n0, Bool.eq_iff_iff, metS, cons_zero, nc]
      simp [metAt]
      omega
    | succ j ih =>
      intro k hk0
      rw [show j + 1 + 2 = (j + 2) + 1 by omega, metS, metS v, ih k hk0, ih (j + 1) (by omega), show j + 2 = (j + 1) + 1 by omega, cons_succ, nexts_succ]
  have hR1 : R (c :: v) 1 = false := by
    unfold R
    rw [metS, cons_zero, nc]
    simp [metAt]; omega
  have hR : ∀ i, 0 < i → R (c :: v) (i + 1) = R v i := by
    intro i hi
    obtain ⟨j, rfl⟩ : ∃ j, i = j + 1 := ⟨i - 1, by omega⟩
    exact hmet j (j + 1) (by omega)
  -- nothing is reached between
  have hbet : ∀ n i, i ≤ n → 0 < i → i < e → R v i = false := by
    intro n
    induction n with
    | zero => intro i h1 h2; omega
    | succ n ih =>
      intro i h1 h2 h3
      cases hi : R v i
      · rfl
      · exfalso
        rcases R_from hi with h0 | ⟨j, hj', hrj, hk'⟩
        · omega
        · rcases Nat.eq_zero_or_pos j with rfl | hp
          · rw [n0] at hk'; simp at hk'; omega
          · rw [ih j (by omega) hp (by omega)] at hrj; cases hrj
  have hs0 : stay (c :: v) 0 = true := by
    rw [stay_eq (by rw [cons_len]; omega), cons_zero, hck, R_zero]; simp; left; exact he
  have hs1 : stay (c :: v) 1 = false := by
    rw [stay_eq (by rw [cons_len]; omega), hR1]; rfl
  have hs : ∀ i, 0 < i → stay (c :: v) (i + 1) = stay v i := by
    intro i hi
    rcases Nat.lt_or_ge i v.length with h1 | h1
    · rw [stay_eq h1, stay_eq (by rw [cons_len]; omega), hR i hi, cons_succ]
    · rw [stay_out h1, stay_out (by rw [cons_len]; omega)]
  have hb : ∀ i, 0 < i → i < e → stay v i = false := by
    intro i hi hie
    rw [stay_eq (by omega), hbet i i (Nat.le_refl _) hi hie]; rfl
  have hsv0 : stay v 0 = decide (1 < e) := by
    rw [stay_eq (by omega), R_zero, hj, hk, Bool.eq_iff_iff]; simp; omega
  -- how many
  have hac : ∀ i, ahead (stay (c :: v)) (i + 2) + (if stay v 0 then 1 else 0) = ahead (stay v) (i + 1) + 1 := by
    intro i
    induction i with
    | zero => rw [show 0 + 2 = (0 + 1) + 1 from rfl, aheadS, aheadS, hs1, hs0, aheadS]; simp [ahead]; omega
    | succ i ih => rw [show i + 1 + 2 = (i + 2) + 1 from rfl, aheadS, aheadS (stay v), show i + 2 = (i + 1) + 1 from rfl, hs (i + 1) (by omega)]; rw [show i + 1 + 1 = i + 2 from rfl]; omega
  have hme : ∀ i, 0 < i → i ≤ e → ahead (stay v) i = if stay v 0 then 1 else 0 := by
    intro i
    induction i with
    | zero => intro h1; omega
    | succ i ih =>
      intro _ h2
      rw [ahead]
      rcases Nat.eq_zero_or_pos i with rfl | hp
      · simp [ahead]
      · rw [ih hp (by omega), hb i hp (by omega)]; simp
  have hce : ahead (stay (c :: v)) (e + 1) = 1 := by
    have h1 := hac (e - 1)
    rw [show e - 1 + 2 = e + 1 by omega, show e - 1 + 1 = e by omega, hme e he (Nat.le_refl _)] at h1
    omega
  have hc0 : bare (moved (c :: v) 0) = ja0 := by
    rw [moved_ja (by rw [cons_zero]; exact hcj), cons_zero, hck, show 0 + 1 + e = e + 1 by omega, hce, bare_ja (by exact hcj), hc]
    rfl
  have hpos : ∀ i, 0 < i → ahead (stay (c :: v)) (i + 1) + (if stay v 0 then 1 else 0) = ahead (stay v) i + 1 := by
    intro i hi
    have := hac (i - 1)
    rw [show i - 1 + 2 = i + 1 by omega, show i - 1 + 1 = i by omega] at this
    exact this
  have hmv : ∀ i, 0 < i → i < v.length → stay v i = true → moved (c :: v) (i + 1) = moved v i := by
    intro i hi hil hst
    have hp := hpos i hi
    have hd : ∀ d, ahead (stay (c :: v)) (i + 1 + 1 + d) - ahead (stay (c :: v)) (i + 1) - 1 = ahead (stay v) (i + 1 + d) - ahead (stay v) i - 1 := by
      intro d
      have h2 := hpos (i + 1 + d) (by omega)
      rw [show i + 1 + d + 1 = i + 1 + 1 + d by omega] at h2
      omega
    unfold moved
    rw [cons_succ, hd, hd, hd]
  have hn := hpos v.length (by omega)
  cases h1 : stay v 0
  · right
    rw [h1] at hn hpos
    simp at hn hpos
    refine ⟨?_, rfl⟩
    refine list_ins (by rw [leaveL_len, cons_len, cons_len, leaveL_len, hn]) (fun p hp => ?_)
    rw [leaveL_len, cons_len, hn] at hp
    cases p with
    | zero =>
      have := leaveL_ins (l := c :: v) (i := 0) (by rw [cons_len]; omega) hs0
      rw [show ahead (stay (c :: v)) 0 = 0 from rfl] at this
      rw [this, hc0]; rfl
    | succ p =>
      obtain ⟨i, hi, hst, hpi⟩ := filt_from (stay v) (n := v.length) (p := p) (by omega)
      have hi0 : 0 < i := by
        rcases Nat.eq_zero_or_pos i with rfl | h0
        · rw [h1] at hst; cases hst
        · exact h0
      rw [cons_succ, ← hpi, leaveL_ins hi hst, ← hpos i hi0, leaveL_ins (by rw [cons_len]; omega) (by rw [hs i hi0]; exact hst), hmv i hi0 hi hst]
  · left
    rw [h1] at hn hpos
    simp at hn hpos
    have he1 : 1 < e := by rw [hsv0] at h1; simpa using h1
    refine ⟨?_, he1⟩
    refine list_ins (by rw [leaveL_len, cons_len, leaveL_len, hn]) (fun p hp => ?_)
    rw [leaveL_len, cons_len, hn] at hp
    obtain ⟨i, hi, hst, rfl⟩ := filt_from (stay v) (n := v.length) hp
    rcases Nat.eq_zero_or_pos i with rfl | hi0
    · have e1 := leaveL_ins (l := c :: v) (i := 0) (by rw [cons_len]; omega) hs0
      have e2 := leaveL_ins (l := v) (i := 0) hi hst
      rw [show ahead (stay (c :: v)) 0 = 0 from rfl] at e1
      rw [show ahead (stay v) 0 = 0 from rfl] at e2 ⊢
      have e3 : ahead (stay v) e = 1 := by rw [hme e he (Nat.le_refl _), h1]; rfl
      rw [e1, e2, hc0, moved_ja hj, hk, show 0 + 1 + (e - 1) = e by omega, e3, bare_ja (by exact hj)]
      obtain ⟨q1, _⟩ := ja_form hj
      rw [show ahead (stay v) 0 = 0 from rfl]
      dsimp only
      rw [q1]
      rfl
    · have := hpos i hi0
      rw [leaveL_ins hi hst, ← this, leaveL_ins (by rw [cons_len]; omega) (by rw [hs i hi0]; exact hst), hmv i hi0 hi hst]

theorem cons_once {l : List Insn} (h : Good l) (hl : l.length < 64) : onceL (ja0 :: l) = onceL l ∨ (onceL (ja0 :: l) = ja0 :: onceL l ∧ onceL l ≠ l) := by
  have hv := h.len
  have hg : Good (ja0 :: l) := cons_good h (ja_ok 0 (by omega)) rfl (by show 0 < _; omega) hl
  have he : endOf (ja0 :: l) 0 = endOf l 0 + 1 := by
    rw [endOf_ja hg (by rw [cons_len]; omega) rfl]
    exact cons_end h hg _ 0 (Nat.le_refl _) (by omega)
  have g1 := give_good h
  have g2 := lead_good g1
  have g3 := level_good g2
  unfold onceL
  rw [cons_give h hg]
  by_cases hr : isRet (ins l (endOf l 0)).code = true
  · left
    have e1 : giveAt (ja0 :: l) 0 = ins l (endOf l 0) := by
      unfold giveAt; rw [he, cons_succ, cons_zero, hr]; rfl
    have e2 : ins (giveL l) 0 = ins l (endOf l 0) := by
      rw [giveL_ins (by omega)]
      unfold giveAt
      rw [hr]
      by_cases hj : isJa (ins l 0) = true
      · rw [hj]; rfl
      · have hj' : isJa (ins l 0) = false := by simpa using hj
        rw [endOf_else (by omega) hj', hj']; rfl
    have gg := give_good hg
    rw [cons_give h hg] at gg
    rw [once_ret g1 (by rw [e2]; exact hr), once_ret gg (by rw [cons_zero, e1]; exact hr), cons_zero, e1, e2]
  · have e1 : giveAt (ja0 :: l) 0 = ja0 := by
      unfold giveAt; rw [he, cons_succ, cons_zero]
      have hr' : isRet (ins l (endOf l 0)).code = false := by simpa using hr
      rw [hr']; rfl
    rw [e1]
    have gl : (giveL l).length = l.length := giveL_len l
    generalize hgen : giveL l = g at *
    have hgg : Good (ja0 :: g) := cons_good g1 (ja_ok 0 (by omega)) rfl (by show 0 < _; omega) (by omega)
    have he2 : endOf (ja0 :: g) 0 = endOf g 0 + 1 := by
      rw [endOf_ja hgg (by rw [cons_len]; omega) rfl]
      exact cons_end g1 hgg _ 0 (Nat.le_refl _) (by omega)
    have e3 : leadAt (ja0 :: g) 0 = ⟨5, 0, 0, endOf g 0⟩ := by
      rw [leadAt_ja (by rfl), he2, cons_zero]
      show (⟨5, 0, 0, _⟩ : Insn) = _
      congr 1
    rw [cons_lead g1 hgg, e3, cons_level]
    have e4 : levelAt (⟨5, 0, 0, endOf g 0⟩ :: leadL g) 0 = ⟨5, 0, 0, endOf g 0⟩ := by
      refine levelAt_else ?_
      rintro ⟨q, _⟩
      rw [cons_zero, ja_not_test (by rfl)] at q
      cases q
    rw [e4]
    have vl : (levelL (leadL g)).length = g.length := by rw [levelL_len, leadL_len]
    by_cases hj : isJa (ins g 0) = true
    · have hgt := endOf_ja_gt g1 (by omega) hj
      have d0 : ins (leadL g) 0 = { ins g 0 with k := endOf g 0 - 0 - 1 } := by rw [leadL_ins (by omega), leadAt_ja hj]
      have v0 : ins (levelL (leadL g)) 0 = { ins g 0 with k := endOf g 0 - 0 - 1 } := by
        rw [levelL_ins (by rw [leadL_len]; omega), levelAt_else, d0]
        rw [d0]
        rintro ⟨q, _⟩
        have q1 : isTest ({ ins g 0 with k := endOf g 0 - 0 - 1 } : Insn) = isTest (ins g 0) := rfl
        rw [q1, ja_not_test hj] at q
        cases q
      rcases leave_jaE g3 (by omega) (endOf g 0) hgt (by rw [v0]; exact hj) (by rw [v0]; show _ - 0 - 1 = _; omega) with ⟨q1, _⟩ | ⟨q1, q2⟩
      · exact .inl q1
      · refine .inr ⟨q1, fun hfix => ?_⟩
        have t := tight_of (l := l) (by unfold onceL; rw [hgen, hfix]; exact Nat.le_refl _)
        have a1 := t.give
        rw [hgen] at a1
        have a2 := t.level
        rw [← a1] at a2
        have a3 := t.all 0 (by omega)
        rw [← a1, ← a2, q2] at a3
        cases a3
    · have hj' : isJa (ins g 0) = false := by simpa using hj
      rw [endOf_else (by omega) hj']
      exact .inl (leave_ja0 g3 (by omega))

theorem cons_prune {l : List Insn} (h : Good l) (hl : l.length < 64) : pruneL (ja0 :: l) = pruneL l := by
  have hc : ∀ l, Good l → l.length < 64 → Good (ja0 :: l) := fun l h hl => cons_good h (ja_ok 0 (by omega)) rfl (by have := h.len; show 0 < _; omega) hl
  refine prune_ind (P := fun l => l.length < 64 → pruneL (ja0 :: l) = pruneL l) ?_ ?_ _ l h (Nat.le_refl _) hl
  · intro l h hfix hl
    rcases cons_once h hl with e | ⟨_, e⟩
    · rw [← prune_once (hc l h hl), e, prune_once h]
    · exact absurd hfix e
  · intro l h _ ih hl
    have hlen := once_len h
    rcases cons_once h hl with e | ⟨e, _⟩
    · rw [← prune_once (hc l h hl), e, prune_once h]
    · rw [← prune_once (hc l h hl), e, ih (by omega), prune_once h]
end Go.Proofs.Ytfjbanfibmpalaa

/- Plain: the machine; a pass leaves what a program returns, in no more steps. -/
set_option linter.unusedVariables false
set_option linter.unusedSimpArgs false
namespace Go.Proofs.Ytfjbanfibmpalaa

/-- What becomes of two numbers, by the operation; false: nothing does. -/
def aluL (i a b : Nat) : Nat × Bool :=
  if i = 0 then ((a + b) % 4294967296, true)
  else if i = 1 then ((a + 4294967296 - b) % 4294967296, true)
  else if i = 2 then (a * b % 4294967296, true)
  else if i = 3 then (if b = 0 then (0, false) else (a / b, true))
  else if i = 4 then (a ||| b, true)
  else if i = 5 then (a &&& b, true)
  else if i = 6 then ((if b < 32 then a * 2 ^ b % 4294967296 else 0), true)
  else if i = 7 then ((if b < 32 then a / 2 ^ b else 0), true)
  else if i = 8 then ((4294967296 - a) % 4294967296, true)
  else if i = 10 then (a ^^^ b, true)
  else (0, false)

def holdsL (i a b : Nat) : Bool := (i == 1 && a == b) || (i == 2 && decide (b < a)) || (i == 3 && decide (b ≤ a)) || (i == 4 && (a &&& b) != 0)

/-- The registers and the scratch words. -/
structure Rg where
  a : Nat
  x : Nat
  mem : List Nat

def otherL (y : Insn) (r : Rg) : Nat := if y.code / 8 % 2 = 1 then r.x else y.k
def loadL (y : Insn) (d : Nat → Nat) (r : Rg) : Nat :=
  if y.code / 32 % 8 = 0 then y.k else if y.code / 32 % 8 = 1 then d y.k else if y.code / 32 % 8 = 3 then r.mem.getD y.k 0 else 64

/-- What it makes of the registers. -/
def effL (y : Insn) (d : Nat → Nat) (r : Rg) : Rg :=
  if y.code % 8 = 0 then { r with a := loadL y d r }
  else if y.code % 8 = 1 then { r with x := loadL y d r }
  else if y.code % 8 = 2 then { r with mem := r.mem.set y.k r.a }
  else if y.code % 8 = 3 then { r with mem := r.mem.set y.k r.x }
  else if y.code % 8 = 4 then { r with a := (aluL (y.code / 16 % 16) r.a (otherL y r)).1 }
  else if y.code % 8 = 7 then (if y.code / 128 % 2 = 1 then { r with a := r.x } else { r with x := r.a })
  else r
/-- What it returns, if it does. -/
def endsL (y : Insn) (r : Rg) : Option Nat :=
  if y.code % 8 = 4 then (if (aluL (y.code / 16 % 16) r.a (otherL y r)).2 then none else some 0)
  else if y.code % 8 = 6 then some (if y.code / 16 % 2 = 1 then r.a else y.k)
  else none
/-- How far it jumps. -/
def offL (y : Insn) (r : Rg) : Nat :=
  if y.code % 8 = 5 then (if y.code / 16 % 16 = 0 then y.k else if holdsL (y.code / 16 % 16) r.a (otherL y r) then y.jt else y.jf) else 0

def outF (l : List Insn) (d : Nat → Nat) : Nat → Nat → Rg → Nat
  | 0, _, _ => 0
  | f + 1, pc, r => match endsL (ins l pc) r with
    | some v => v
    | none => outF l d f (pc + 1 + offL (ins l pc) r) (effL (ins l pc) d r)
def traceF (l : List Insn) (d : Nat → Nat) : Nat → Nat → Rg → List (Nat × Rg)
  | 0, _, _ => []
  | f + 1, pc, r => (pc, r) :: match endsL (ins l pc) r with
    | some v => []
    | none => traceF l d f (pc + 1 + offL (ins l pc) r) (effL (ins l pc) d r)
def mostF (l : List Insn) : Nat → Nat → Nat
  | 0, _ => 0
  | f + 1, i => 1 + ((nexts (ins l i) i).map (mostF l f)).foldl max 0

def rg0 : Rg := ⟨0, 0, List.replicate 16 0⟩
def runL (l : List Insn) (d : Nat → Nat) : Nat := outF l d l.length 0 rg0
def traceL (l : List Insn) (d : Nat → Nat) : List (Nat × Rg) := traceF l d l.length 0 rg0
def mostL (l : List Insn) : Nat := mostF l l.length 0

/-! What the codes are -/
theorem code_facts {c : Nat} (h : 0 ≤ form c) : c < 256 ∧
    (form c = 4 → c % 8 = 5 ∧ c / 16 % 16 = 0) ∧ ((form c = 5 ∨ form c = 6) → c % 8 = 5 ∧ c / 16 % 16 ≠ 0) ∧ (form c ≠ 4 → form c ≠ 5 → form c ≠ 6 → c % 8 ≠ 5) ∧ (c % 8 = 6 ↔ isRet c = true) ∧
    (form c = 0 → c % 8 = 4 → c / 16 % 16 = 8 ∨ c / 8 % 2 = 1) ∧ (form c = 0 → (c % 8 = 0 ∨ c % 8 = 1) → c / 32 % 8 = 4) ∧ (form c = 0 → c % 8 = 6 → c / 16 % 2 = 1) ∧ (form c = 0 → c % 8 ≠ 2 ∧ c % 8 ≠ 3) ∧ (form c = 6 → c / 8 % 2 = 1) := by
  have hc : c < 256 := by
    rcases Nat.lt_or_ge c 256 with h1 | h1
    · exact h1
    · rw [form_big c h1] at h; omega
  refine ⟨hc, ?_⟩
  have : ∀ c : Fin 256, 0 ≤ form c.val →
    (form c.val = 4 → c.val % 8 = 5 ∧ c.val / 16 % 16 = 0) ∧ ((form c.val = 5 ∨ form c.val = 6) → c.val % 8 = 5 ∧ c.val / 16 % 16 ≠ 0) ∧ (form c.val ≠ 4 → form c.val ≠ 5 → form c.val ≠ 6 → c.val % 8 ≠ 5) ∧ (c.val % 8 = 6 ↔ isRet c.val = true) ∧
    (form c.val = 0 → c.val % 8 = 4 → c.val / 16 % 16 = 8 ∨ c.val / 8 % 2 = 1) ∧ (form c.val = 0 → (c.val % 8 = 0 ∨ c.val % 8 = 1) → c.val / 32 % 8 = 4) ∧ (form c.val = 0 → c.val % 8 = 6 → c.val / 16 % 2 = 1) ∧ (form c.val = 0 → c.val % 8 ≠ 2 ∧ c.val % 8 ≠ 3) ∧ (form c.val = 6 → c.val / 8 % 2 = 1) := by decide +kernel
  exact this ⟨c, hc⟩ h

theorem alu_neg (a b b' : Nat) : aluL 8 a b = aluL 8 a b' := by
  have e : ∀ b, aluL 8 a b = ((4294967296 - a) % 4294967296, true) := by intro b; simp [aluL]
  rw [e, e]

theorem ja_facts {y : Insn} (h : isJa y = true) (r : Rg) (d : Nat → Nat) : endsL y r = none ∧ effL y d r = r ∧ offL y r = y.k := by
  obtain ⟨hc, _⟩ := ja_form h
  unfold endsL effL offL
  rw [hc]
  exact ⟨rfl, rfl, rfl⟩
theorem test_facts {y : Insn} (h : isTest y = true) (r : Rg) (d : Nat → Nat) : endsL y r = none ∧ effL y d r = r ∧ (offL y r = if holdsL (y.code / 16 % 16) r.a (otherL y r) then y.jt else y.jf) := by
  have hf := test_form h
  obtain ⟨_, _, h5, _⟩ := code_facts (c := y.code) (by omega)
  have := h5 hf
  unfold endsL effL offL
  rw [this.1, if_neg this.2]
  exact ⟨rfl, rfl, rfl⟩
theorem ret_facts {y : Insn} (h : isRet y.code = true) (r : Rg) : endsL y r = some (if y.code / 16 % 2 = 1 then r.a else y.k) := by
  have : y.code % 8 = 6 := by rcases ret_form h with e | e <;> rw [e]
  unfold endsL
  rw [this]; rfl
theorem else_off {y : Insn} (hf : 0 ≤ form y.code) (hj : isJa y = false) (ht : isTest y = false) (r : Rg) : offL y r = 0 := by
  obtain ⟨_, _, _, h5, _⟩ := code_facts hf
  have h1 : form y.code ≠ 4 := fun e => by have := form4_ja e; simp [isJa] at hj; omega
  have h2 : form y.code ≠ 5 ∧ form y.code ≠ 6 := by simpa [isTest] using ht
  unfold offL
  rw [if_neg (h5 h1 h2.1 h2.2)]

/-- What does not count does not count. -/
theorem same_bare {x y : Insn} (hf : 0 ≤ form x.code) (ht : isTest x = false) (h : bare x = bare y) (r : Rg) (d : Nat → Nat) : endsL x r = endsL y r ∧ effL x d r = effL y d r := by
  have hc : x.code = y.code := by rw [← form_bare x, h, form_bare]
  have h2 : form x.code ≠ 5 ∧ form x.code ≠ 6 := by simpa [isTest] using ht
  obtain ⟨_, _, _, _, _, f4, f01, f6, f23, _⟩ := code_facts hf
  by_cases h0 : form x.code = 0
  · have e1 : x.code % 8 = 4 → aluL (x.code / 16 % 16) r.a (otherL x r) = aluL (x.code / 16 % 16) r.a (otherL y r) := by
      intro h4
      rcases f4 h0 h4 with h8 | h8
      · rw [h8]; exact alu_neg _ _ _
      · unfold otherL; rw [← hc, if_pos h8, if_pos h8]
    have e2 : x.code % 8 = 0 ∨ x.code % 8 = 1 → loadL x d r = loadL y d r := by
      intro h01
      have := f01 h0 h01
      unfold loadL
      rw [← hc, this]
      simp
    constructor
    · unfold endsL
      rw [← hc]
      by_cases h4 : x.code % 8 = 4
      · rw [if_pos h4, if_pos h4, e1 h4]
      · rw [if_neg h4, if_neg h4]
        by_cases h6 : x.code % 8 = 6
        · rw [if_pos h6, if_pos h6, if_pos (f6 h0 h6), if_pos (f6 h0 h6)]
        · rw [if_neg h6, if_neg h6]
    · unfold effL
      rw [← hc]
      by_cases q0 : x.code % 8 = 0
      · rw [if_pos q0, if_pos q0, e2 (.inl q0)]
      rw [if_neg q0, if_neg q0]
      by_cases q1 : x.code % 8 = 1
      · rw [if_pos q1, if_pos q1, e2 (.inr q1)]
      rw [if_neg q1, if_neg q1, if_neg (f23 h0).1, if_neg (f23 h0).1, if_neg (f23 h0).2, if_neg (f23 h0).2]
      by_cases q4 : x.code % 8 = 4
      · rw [if_pos q4, if_pos q4, e1 q4]
      · rw [if_neg q4, if_neg q4]
  · have hk : x.k = y.k := by
      rw [← bare_k h0 h2.2, h, bare_k (by rw [← hc]; exact h0) (by rw [← hc]; exact h2.2)]
    unfold endsL effL loadL otherL
    rw [hc, hk]
    exact ⟨rfl, rfl⟩

section
variable {l : List Insn}
/-- A place that does not return leads on within. -/
theorem Good.step {l : List Insn} (h : Good l) {pc : Nat} (hp : pc < l.length) {r : Rg} (he : endsL (ins l pc) r = none) : pc + 1 + offL (ins l pc) r < l.length := by
  have hf := h.form hp
  by_cases hj : isJa (ins l pc) = true
  · rw [(ja_facts hj r (fun _ => 0)).2.2]; exact (h.ja hp hj).1
  by_cases ht : isTest (ins l pc) = true
  · rw [(test_facts ht r (fun _ => 0)).2.2]
    have := h.test hp ht
    split <;> omega
  rw [else_off hf (by simpa using hj) (by simpa using ht)]
  rcases Nat.lt_or_ge (pc + 1) l.length with h1 | h1
  · omega
  · exfalso
    have hl := h.last
    rw [show l.length - 1 = pc by omega] at hl
    rw [ret_facts hl] at he
    cases he

theorem outF_fuel (h : Good l) (d : Nat → Nat) : ∀ f g pc r, pc < l.length → l.length - pc ≤ f → l.length - pc ≤ g → outF l d f pc r = outF l d g pc r ∧ traceF l d f pc r = traceF l d g pc r
  | 0, g, pc, r, hp, h1, h2 => by omega
  | f + 1, 0, pc, r, hp, h1, h2 => by omega
  | f + 1, g + 1, pc, r, hp, h1, h2 => by
    unfold outF traceF
    cases he : endsL (ins l pc) r with
    | some v => exact ⟨rfl, rfl⟩
    | none =>
      have := h.step hp he
      have ih := outF_fuel h d f g _ (effL (ins l pc) d r) this (by omega) (by omega)
      exact ⟨ih.1, by rw [ih.2]⟩

/-- From a place on: what is returned, in how many steps. -/
def outL (l : List Insn) (d : Nat → Nat) (pc : Nat) (r : Rg) : Nat := outF l d (l.length - pc) pc r
def lenL (l : List Insn) (d : Nat → Nat) (pc : Nat) (r : Rg) : Nat := (traceF l d (l.length - pc) pc r).length

theorem out_end (h : Good l) (d : Nat → Nat) {pc : Nat} (hp : pc < l.length) {r : Rg} {v : Nat} (he : endsL (ins l pc) r = some v) : outL l d pc r = v ∧ lenL l d pc r = 1 := by
  unfold outL lenL
  rw [show l.length - pc = (l.length - pc - 1) + 1 by omega, outF, traceF, he]
  exact ⟨rfl, rfl⟩
theorem out_on (h : Good l) (d : Nat → Nat) {pc : Nat} (hp : pc < l.length) {r : Rg} (he : endsL (ins l pc) r = none) :
    outL l d pc r = outL l d (pc + 1 + offL (ins l pc) r) (effL (ins l pc) d r) ∧ lenL l d pc r = lenL l d (pc + 1 + offL (ins l pc) r) (effL (ins l pc) d r) + 1 := by
  have hs := h.step hp he
  have := outF_fuel h d (l.length - pc - 1) (l.length - (pc + 1 + offL (ins l pc) r)) _ (effL (ins l pc) d r) hs (by omega) (Nat.le_refl _)
  unfold outL lenL
  rw [show l.length - pc = (l.length - pc - 1) + 1 by omega, outF, traceF, he]
  exact ⟨this.1, by rw [← this.2]; rfl⟩

theorem mostF_fuel (h : Good l) : ∀ f g i, i < l.length → l.length - i ≤ f → l.length - i ≤ g → mostF l f i = mostF l g i
  | 0, g, i, hp, h1, h2 => by omega
  | f + 1, 0, i, hp, h1, h2 => by omega
  | f + 1, g + 1, i, hp, h1, h2 => by
    unfold mostF
    have : (nexts (ins l i) i).map (mostF l f) = (nexts (ins l i) i).map (mostF l g) := by
      refine List.map_congr_left (fun k hk => ?_)
      have := h.nexts_lt hp k hk
      exact mostF_fuel h f g k this.2 (by omega) (by omega)
    rw [this]
def mostAt (l : List Insn) (i : Nat) : Nat := mostF l (l.length - i) i

theorem foldl_max : ∀ (m : List Nat) (z : Nat), z ≤ m.foldl max z ∧ (∀ x ∈ m, x ≤ m.foldl max z) ∧ (m.foldl max z = z ∨ m.foldl max z ∈ m)
  | [], z => ⟨Nat.le_refl _, by simp, .inl rfl⟩
  | y :: m, z => by
    obtain ⟨h1, h2, h3⟩ := foldl_max m (max z y)
    simp only [List.foldl_cons]
    refine ⟨by omega, ?_, ?_⟩
    · intro x hx
      rcases List.mem_cons.1 hx with rfl | hx
      · omega
      · exact h2 x hx
    · rcases h3 with h3 | h3
      · rw [h3]
        rcases Nat.le_total z y with h | h
        · rw [Nat.max_eq_right h]; exact .inr (by simp)
        · rw [Nat.max_eq_left h]; exact .inl rfl
      · exact .inr (List.mem_cons_of_mem _ h3)

theorem most_le (h : Good l) {i k : Nat} (hi : i < l.length) (hk : k ∈ nexts (ins l i) i) : mostAt l k + 1 ≤ mostAt l i := by
  have hlt := h.nexts_lt hi k hk
  unfold mostAt
  rw [show l.length - i = (l.length - i - 1) + 1 by omega, mostF, mostF_fuel h (l.length - k) (l.length - i - 1) k hlt.2 (Nat.le_refl _) (by omega)]
  have := (foldl_max ((nexts (ins l i) i).map (mostF l (l.length - i - 1))) 0).2.1 _ (List.mem_map_of_mem hk)
  omega
theorem most_from (h : Good l) {i : Nat} (hi : i < l.length) : mostAt l i = 1 ∨ ∃ k ∈ nexts (ins l i) i, mostAt l i = mostAt l k + 1 := by
  unfold mostAt
  rw [show l.length - i = (l.length - i - 1) + 1 by omega, mostF]
  rcases (foldl_max ((nexts (ins l i) i).map (mostF l (l.length - i - 1))) 0).2.2 with e | e
  · rw [e]; exact .inl rfl
  · obtain ⟨k, hk, e⟩ := List.mem_map.1 e
    right
    refine ⟨k, hk, ?_⟩
    have hlt := h.nexts_lt hi k hk
    rw [← e, mostF_fuel h (l.length - k) (l.length - i - 1) k hlt.2 (Nat.le_refl _) (by omega)]
    omega
theorem most_pos (h : Good l) {i : Nat} (hi : i < l.length) : 1 ≤ mostAt l i := by
  unfold mostAt
  rw [show l.length - i = (l.length - i - 1) + 1 by omega, mostF]
  omega
end

/-- Jumps from a place to a place. -/
inductive Ch (l : List Insn) : Nat → Nat → Nat → Prop
  | refl (i : Nat) : Ch l 0 i i
  | step {k i j : Nat} (h : isJa (ins l i) = true) (t : Ch l k (i + 1 + (ins l i).k) j) : Ch l (k + 1) i j

theorem Ch.lt {l : List Insn} (h : Good l) {k i j : Nat} (c : Ch l k i j) (hi : i < l.length) : j < l.length := by
  induction c with
  | refl i => exact hi
  | step hj t ih => exact ih (h.ja hi hj).1
theorem Ch.out {l : List Insn} (h : Good l) {k i j : Nat} (c : Ch l k i j) (hi : i < l.length) (d : Nat → Nat) (r : Rg) : outL l d i r = outL l d j r ∧ lenL l d i r = lenL l d j r + k := by
  induction c with
  | refl i => exact ⟨rfl, rfl⟩
  | step hj t ih =>
    obtain ⟨f1, f2, f3⟩ := ja_facts hj r d
    have := out_on h d hi f1
    rw [f2, f3] at this
    have ih := ih (h.ja hi hj).1
    exact ⟨this.1.trans ih.1, by omega⟩
theorem Ch.most {l : List Insn} (h : Good l) {k i j : Nat} (c : Ch l k i j) (hi : i < l.length) : mostAt l j + k ≤ mostAt l i := by
  induction c with
  | refl i => exact Nat.le_refl _
  | @step k i j hj t ih =>
    have hk := h.ja hi hj
    have ih := ih hk.1
    have := most_le h hi (k := i + 1 + (ins l i).k) (by rw [nexts_ja hj (by have := h.len; omega)]; simp)
    omega
theorem Ch.toEnd {l : List Insn} (h : Good l) : ∀ n i, l.length - i ≤ n → i < l.length → ∃ k, Ch l k i (endOf l i)
  | 0, i, hn, hi => by omega
  | n + 1, i, hn, hi => by
    by_cases hj : isJa (ins l i) = true
    · have hk := h.ja hi hj
      obtain ⟨k, c⟩ := Ch.toEnd h n _ (by omega) hk.1
      rw [endOf_ja h hi hj]
      exact ⟨k + 1, .step hj c⟩
    · rw [endOf_else hi (by simpa using hj)]; exact ⟨0, .refl i⟩

/-- A place of the new program and its place in the old one. -/
inductive Rel (n l : List Insn) (φ : Nat → Nat) (p : Nat) : Prop
  | ret (k u : Nat) (c : Ch l k (φ p) u) (h1 : isRet (ins n p).code = true) (h2 : bare (ins n p) = bare (ins l u))
  | jump (k : Nat) (h1 : isJa (ins n p) = true) (c : Ch l (k + 1) (φ p) (φ (p + 1 + (ins n p).k)))
  | level (k : Nat) (h1 : isJa (ins n p) = true) (h2 : isTest (ins l (φ p)) = true) (h3 : (ins l (φ p)).jt = (ins l (φ p)).jf) (c : Ch l k (φ p + 1 + (ins l (φ p)).jt) (φ (p + 1 + (ins n p).k)))
  | test (k k' : Nat) (h1 : isTest (ins n p) = true) (h2 : (ins n p).code = (ins l (φ p)).code) (h3 : (ins n p).k = (ins l (φ p)).k ∨ form (ins n p).code = 6)
      (c : Ch l k (φ p + 1 + (ins l (φ p)).jt) (φ (p + 1 + (ins n p).jt))) (c' : Ch l k' (φ p + 1 + (ins l (φ p)).jf) (φ (p + 1 + (ins n p).jf)))
  | other (k : Nat) (h1 : isJa (ins n p) = false) (h2 : isTest (ins n p) = false) (h3 : isRet (ins n p).code = false) (h4 : bare (ins n p) = bare (ins l (φ p))) (c : Ch l k (φ p + 1) (φ (p + 1)))

structure Sim (n l : List Insn) (φ : Nat → Nat) : Prop where
  lt : ∀ p, p < n.length → φ p < l.length
  rel : ∀ p, p < n.length → Rel n l φ p

theorem form_of_bare {x y : Insn} (h : bare x = bare y) : x.code = y.code := by rw [← form_bare x, h, form_bare]

theorem Sim.out {n l : List Insn} {φ : Nat → Nat} (s : Sim n l φ) (hn : Good n) (hl : Good l) (d : Nat → Nat) : ∀ m p r, n.length - p ≤ m → p < n.length → outL n d p r = outL l d (φ p) r ∧ lenL n d p r ≤ lenL l d (φ p) r
  | 0, p, r, hm, hp => by omega
  | m + 1, p, r, hm, hp => by
    have hφ := s.lt p hp
    cases s.rel p hp with
    | ret k u c h1 h2 =>
      have e1 := out_end hn d hp (ret_facts h1 r)
      have hu := c.lt hl hφ
      have hc := c.out hl hφ d r
      have hr : isRet (ins l u).code = true := by rw [← form_of_bare h2]; exact h1
      have e2 := out_end hl d hu (ret_facts hr r)
      have e3 := (same_bare (hn.form hp) (ret_not_test h1) h2 r d).1
      rw [ret_facts h1, ret_facts hr] at e3
      injection e3 with e3
      exact ⟨by rw [e1.1, hc.1, e2.1, e3], by omega⟩
    | jump k h1 c =>
      obtain ⟨f1, f2, f3⟩ := ja_facts h1 r d
      have e1 := out_on hn d hp f1
      have hlt := (hn.ja hp h1).1
      rw [f2, f3] at e1
      have ih := Sim.out s hn hl d m _ r (by omega) hlt
      have hc := c.out hl hφ d r
      exact ⟨by rw [e1.1, ih.1, hc.1], by omega⟩
    | level k h1 h2 h3 c =>
      obtain ⟨f1, f2, f3⟩ := ja_facts h1 r d
      obtain ⟨g1, g2, g3⟩ := test_facts h2 r d
      have e1 := out_on hn d hp f1
      have e2 := out_on hl d hφ g1
      have hlt := (hn.ja hp h1).1
      rw [f2, f3] at e1
      rw [g2, g3, ← h3] at e2
      simp only [ite_self] at e2
      have ih := Sim.out s hn hl d m _ r (by omega) hlt
      have hc := c.out hl (hl.test hφ h2).1 d r
      exact ⟨by rw [e1.1, ih.1, e2.1, hc.1], by omega⟩
    | test k k' h1 h2 h3 c c' =>
      have h1' : isTest (ins l (φ p)) = true := by unfold isTest at h1 ⊢; rw [← h2]; exact h1
      obtain ⟨f1, f2, f3⟩ := test_facts h1 r d
      obtain ⟨g1, g2, g3⟩ := test_facts h1' r d
      have e1 := out_on hn d hp f1
      have e2 := out_on hl d hφ g1
      have ho : otherL (ins n p) r = otherL (ins l (φ p)) r := by
        unfold otherL
        rw [← h2]
        rcases h3 with h3 | h3
        · rw [h3]
        · rw [if_pos ((code_facts (hn.form hp)).2.2.2.2.2.2.2.2.2 h3), if_pos ((code_facts (hn.form hp)).2.2.2.2.2.2.2.2.2 h3)]
      have ht := hn.test hp h1
      have ht' := hl.test hφ h1'
      rw [f2, f3] at e1
      rw [g2, g3, ← h2, ← ho] at e2
      split at e1
      · rename_i hh
        rw [if_pos hh] at e2
        have ih := Sim.out s hn hl d m _ r (by omega) ht.1
        have hc := c.out hl ht'.1 d r
        exact ⟨by rw [e1.1, ih.1, e2.1, hc.1], by omega⟩
      · rename_i hh
        rw [if_neg hh] at e2
        have ih := Sim.out s hn hl d m _ r (by omega) ht.2
        have hc := c'.out hl ht'.2 d r
        exact ⟨by rw [e1.1, ih.1, e2.1, hc.1], by omega⟩
    | other k h1 h2 h3 h4 c =>
      obtain ⟨e3, e4⟩ := same_bare (hn.form hp) h2 h4 r d
      have hcode := form_of_bare h4
      have h1' : isJa (ins l (φ p)) = false := by unfold isJa at h1 ⊢; rw [← hcode]; exact h1
      have h2' : isTest (ins l (φ p)) = false := by unfold isTest at h2 ⊢; rw [← hcode]; exact h2
      cases he : endsL (ins n p) r with
      | some v =>
        have e1 := out_end hn d hp he
        have e2 := out_end hl d hφ (by rw [← e3]; exact he)
        exact ⟨by rw [e1.1, e2.1], by omega⟩
      | none =>
        have e1 := out_on hn d hp he
        have e2 := out_on hl d hφ (r := r) (by rw [← e3]; exact he)
        have hlt := hn.step hp he
        have hlt' := hl.step hφ (r := r) (by rw [← e3]; exact he)
        rw [else_off (hn.form hp) h1 h2] at e1 hlt
        rw [else_off (hl.form hφ) h1' h2', ← e4] at e2
        rw [else_off (hl.form hφ) h1' h2'] at hlt'
        have ih := Sim.out s hn hl d m _ (effL (ins n p) d r) (by omega) hlt
        have hc := c.out hl hlt' d (effL (ins n p) d r)
        exact ⟨by rw [e1.1]; exact ih.1.trans (hc.1.symm.trans e2.1.symm), by have := e1.2; have := e2.2; have := ih.2; have := hc.2; simp only [Nat.add_zero] at *; omega⟩

theorem Sim.most {n l : List Insn} {φ : Nat → Nat} (s : Sim n l φ) (hn : Good n) (hl : Good l) : ∀ m p, n.length - p ≤ m → p < n.length → mostAt n p ≤ mostAt l (φ p)
  | 0, p, hm, hp => by omega
  | m + 1, p, hm, hp => by
    have hφ := s.lt p hp
    rcases most_from hn hp with e | ⟨q, hq, e⟩
    · rw [e]; exact most_pos hl hφ
    rw [e]
    have hlt := hn.nexts_lt hp q hq
    have ih := Sim.most s hn hl m q (by omega) hlt.2
    have hnl := hn.len
    have hll := hl.len
    cases s.rel p hp with
    | ret k u c h1 h2 => rw [nexts_ret h1] at hq; simp at hq
    | jump k h1 c =>
      rw [nexts_ja h1 (by have := (hn.ja hp h1).2; omega)] at hq
      simp at hq
      subst hq
      have := c.most hl hφ
      omega
    | level k h1 h2 h3 c =>
      rw [nexts_ja h1 (by have := (hn.ja hp h1).2; omega)] at hq
      simp at hq
      subst hq
      have := c.most hl (hl.test hφ h2).1
      have := most_le hl hφ ((nexts_test h2 _).2 (.inl rfl))
      omega
    | test k k' h1 h2 h3 c c' =>
      have h1' : isTest (ins l (φ p)) = true := by unfold isTest at h1 ⊢; rw [← h2]; exact h1
      rcases (nexts_test h1 q).1 hq with rfl | rfl
      · have := c.most hl (hl.test hφ h1').1
        have := most_le hl hφ ((nexts_test h1' _).2 (.inl rfl))
        omega
      · have := c'.most hl (hl.test hφ h1').2
        have := most_le hl hφ ((nexts_test h1' _).2 (.inr rfl))
        omega
    | other k h1 h2 h3 h4 c =>
      have hcode := form_of_bare h4
      have h1' : isJa (ins l (φ p)) = false := by unfold isJa at h1 ⊢; rw [← hcode]; exact h1
      have h2' : isTest (ins l (φ p)) = false := by unfold isTest at h2 ⊢; rw [← hcode]; exact h2
      rw [nexts_else (hn.form hp) h1 h2 h3] at hq
      simp at hq
      subst hq
      have hk : φ p + 1 ∈ nexts (ins l (φ p)) (φ p) := by rw [nexts_else (hl.form hφ) h1' h2' (by rw [← hcode]; exact h3)]; simp
      have := c.most hl (hl.nexts_lt hφ _ hk).2
      have := most_le hl hφ hk
      omega

theorem rel_same {n l : List Insn} {p : Nat} (h : ins n p = ins l (id p)) (hn : Good n) (hp : p < n.length) : Rel n l id p := by
  by_cases hj : isJa (ins n p) = true
  · exact .jump 0 hj (.step (by rw [← h]; exact hj) (by rw [h]; exact .refl _))
  by_cases ht : isTest (ins n p) = true
  · exact .test 0 0 ht (by rw [h]) (.inl (by rw [h])) (by rw [h]; exact .refl _) (by rw [h]; exact .refl _)
  by_cases hr : isRet (ins n p).code = true
  · exact .ret 0 p (.refl _) hr (by rw [h]; simp)
  · exact .other 0 (by simpa using hj) (by simpa using ht) (by simpa using hr) (by rw [h]) (.refl _)

theorem give_sim {l : List Insn} (h : Good l) : Sim (giveL l) l id := by
  refine ⟨fun p hp => by rw [giveL_len] at hp; exact hp, fun p hp => ?_⟩
  have hp' := hp
  rw [giveL_len] at hp
  have e := giveL_ins hp
  unfold giveAt at e
  by_cases hc : (isJa (ins l p) && isRet (ins l (endOf l p)).code) = true
  · rw [if_pos hc] at e
    simp at hc
    obtain ⟨k, c⟩ := Ch.toEnd h _ p (Nat.le_refl _) hp
    exact .ret k _ c (by rw [e]; exact hc.2) (by rw [e])
  · rw [if_neg hc] at e
    exact rel_same e (give_good h) hp'

theorem lead_sim {l : List Insn} (h : Good l) : Sim (leadL l) l id := by
  refine ⟨fun p hp => by rw [leadL_len] at hp; exact hp, fun p hp => ?_⟩
  have hp' := hp
  rw [leadL_len] at hp
  have e := leadL_ins hp
  by_cases hj : isJa (ins l p) = true
  · rw [leadAt_ja hj] at e
    have hk := h.ja hp hj
    obtain ⟨k, c⟩ := Ch.toEnd h _ _ (Nat.le_refl _) hk.1
    have hgt := endOf_ja_gt h hp hj
    rw [← endOf_ja h hp hj] at c
    refine .jump k (by rw [e]; exact hj) ?_
    rw [e]
    show Ch l (k + 1) p (p + 1 + (endOf l p - p - 1))
    rw [show p + 1 + (endOf l p - p - 1) = endOf l p by omega]
    exact .step hj c
  by_cases ht : isTest (ins l p) = true
  · rw [leadAt_test ht] at e
    have hk := h.test hp ht
    obtain ⟨k, c⟩ := Ch.toEnd h _ _ (Nat.le_refl _) hk.1
    obtain ⟨k', c'⟩ := Ch.toEnd h _ _ (Nat.le_refl _) hk.2
    have g1 := endOf_ge h hk.1
    have g2 := endOf_ge h hk.2
    refine .test k k' (by rw [e]; exact ht) (by rw [e]; rfl) (.inl (by rw [e]; rfl)) ?_ ?_
    · rw [e]
      show Ch l k _ (p + 1 + lead1 l p (ins l p).jt)
      rw [lead1_eq h p _ hk.1, show p + 1 + (endOf l (p + 1 + (ins l p).jt) - p - 1) = endOf l (p + 1 + (ins l p).jt) by omega]
      exact c
    · rw [e]
      show Ch l k' _ (p + 1 + lead1 l p (ins l p).jf)
      rw [lead1_eq h p _ hk.2, show p + 1 + (endOf l (p + 1 + (ins l p).jf) - p - 1) = endOf l (p + 1 + (ins l p).jf) by omega]
      exact c'
  · rw [leadAt_else (by simpa using hj) (by simpa using ht)] at e
    exact rel_same e (lead_good h) hp'

theorem level_sim {l : List Insn} (h : Good l) : Sim (levelL l) l id := by
  refine ⟨fun p hp => by rw [levelL_len] at hp; exact hp, fun p hp => ?_⟩
  have hp' := hp
  rw [levelL_len] at hp
  have e := levelL_ins hp
  by_cases hc : isTest (ins l p) = true ∧ (ins l p).jt = (ins l p).jf
  · rw [levelAt_ja hc.1 hc.2] at e
    exact .level 0 (by rw [e]; rfl) hc.1 hc.2 (by rw [e]; exact .refl _)
  · rw [levelAt_else hc] at e
    exact rel_same e (level_good h) hp'

/-- The first that stays, from a place on that is reached. -/
theorem stay_chain {l : List Insn} (h : Good l) : ∀ n i, l.length - i ≤ n → i < l.length → R l i = true → ∃ k j, Ch l k i j ∧ stay l j = true ∧ ahead (stay l) j = ahead (stay l) i
  | 0, i, hn, hi, _ => by omega
  | n + 1, i, hn, hi, hr => by
    by_cases hs : stay l i = true
    · exact ⟨0, i, .refl i, hs, rfl⟩
    · have hs' : stay l i = false := by simpa using hs
      rw [stay_eq hi, hr] at hs'
      simp at hs'
      have hk := h.ja hi hs'.2
      rw [hs'.1, Nat.add_zero] at hk
      have hnx : i + 1 ∈ nexts (ins l i) i := by rw [nexts_ja hs'.2 (by omega), hs'.1]; simp
      obtain ⟨k, j, c, h1, h2⟩ := stay_chain h n (i + 1) (by omega) hk.1 (R_next hr hnx (by omega))
      refine ⟨k + 1, j, .step hs'.2 (by rw [hs'.1]; exact c), h1, ?_⟩
      rw [h2, aheadS, if_neg hs]; rfl

def whence (l : List Insn) (p : Nat) : Nat := (stays l).getD p 0
theorem whence_ahead {l : List Insn} {i : Nat} (hs : stay l i = true) : whence l (ahead (stay l) i) = i := by
  unfold whence
  rw [stays_eq, List.getD_eq_getElem?_getD, filt_get (stay l) _ i (stay_R hs).1 hs]
  rfl
theorem to_whence {l : List Insn} (h : Good l) {t : Nat} (ht : t < l.length) (hr : R l t = true) : ∃ k, Ch l k t (whence l (ahead (stay l) t)) := by
  obtain ⟨k, j, c, h1, h2⟩ := stay_chain h _ t (Nat.le_refl _) ht hr
  rw [← h2, whence_ahead h1]
  exact ⟨k, c⟩

theorem leave_sim {l : List Insn} (h : Good l) : Sim (leaveL l) l (whence l) := by
  have hsome : ∀ p, p < (leaveL l).length → ∃ i, i < l.length ∧ stay l i = true ∧ ahead (stay l) i = p := by
    intro p hp
    rw [leaveL_len] at hp
    exact filt_from _ hp
  refine ⟨fun p hp => ?_, fun p hp => ?_⟩
  · obtain ⟨i, hi, hs, rfl⟩ := hsome p hp
    rw [whence_ahead hs]; exact hi
  obtain ⟨i, hi, hs, rfl⟩ := hsome p hp
  have hr := (stay_R hs).2
  have e := leaveL_ins hi hs
  have hw := whence_ahead hs
  by_cases hj : isJa (ins l i) = true
  · have hk := h.ja hi hj
    have hnx : i + 1 + (ins l i).k ∈ nexts (ins l i) i := by rw [nexts_ja hj (by omega)]; simp
    obtain ⟨t1, _, _, t4⟩ := target h hs hnx
    obtain ⟨k, c⟩ := to_whence h hk.1 t4
    have ek : (bare (moved l i)).k = ahead (stay l) (i + 1 + (ins l i).k) - ahead (stay l) i - 1 := by rw [moved_ja hj, bare_ja (by exact hj)]
    refine .jump k (by rw [e, bare_isJa]; unfold isJa; rw [moved_code]; exact hj) ?_
    rw [e, ek, hw, show ahead (stay l) i + 1 + (ahead (stay l) (i + 1 + (ins l i).k) - ahead (stay l) i - 1) = ahead (stay l) (i + 1 + (ins l i).k) by omega]
    exact .step hj c
  by_cases ht : isTest (ins l i) = true
  · have hk := h.test hi ht
    obtain ⟨t1, _, _, t4⟩ := target h hs ((nexts_test ht (i + 1 + (ins l i).jt)).2 (.inl rfl))
    obtain ⟨s1, _, _, s4⟩ := target h hs ((nexts_test ht (i + 1 + (ins l i).jf)).2 (.inr rfl))
    obtain ⟨k, c⟩ := to_whence h hk.1 t4
    obtain ⟨k', c'⟩ := to_whence h hk.2 s4
    have hm : isTest (moved l i) = true := by unfold isTest; rw [moved_code]; exact ht
    have eb := bare_test hm
    have ec : (bare (moved l i)).code = (ins l i).code := by rw [form_bare, moved_code]
    refine .test k k' (by rw [e, bare_isTest]; exact hm) (by rw [e, hw, ec]) ?_ ?_ ?_
    · rw [e, hw, ec]
      by_cases h6 : form (ins l i).code = 6
      · exact .inr h6
      · left
        have hf := test_form ht
        rw [bare_k (by rw [moved_code]; omega) (by rw [moved_code]; exact h6), moved_test ht]
    · rw [e, eb.1, hw, moved_test ht]
      show Ch l k _ (whence l (ahead (stay l) i + 1 + (ahead (stay l) (i + 1 + (ins l i).jt) - ahead (stay l) i - 1)))
      rw [show ahead (stay l) i + 1 + (ahead (stay l) (i + 1 + (ins l i).jt) - ahead (stay l) i - 1) = ahead (stay l) (i + 1 + (ins l i).jt) by omega]
      exact c
    · rw [e, eb.2, hw, moved_test ht]
      show Ch l k' _ (whence l (ahead (stay l) i + 1 + (ahead (stay l) (i + 1 + (ins l i).jf) - ahead (stay l) i - 1)))
      rw [show ahead (stay l) i + 1 + (ahead (stay l) (i + 1 + (ins l i).jf) - ahead (stay l) i - 1) = ahead (stay l) (i + 1 + (ins l i).jf) by omega]
      exact c'
  have hj' : isJa (ins l i) = false := by simpa using hj
  have ht' : isTest (ins l i) = false := by simpa using ht
  rw [moved_else hj' ht'] at e
  by_cases hret : isRet (ins l i).code = true
  · exact .ret 0 i (by rw [hw]; exact .refl _) (by rw [e, form_bare]; exact hret) (by rw [e, bare_bare])
  · have hret' : isRet (ins l i).code = false := by simpa using hret
    have hnx : i + 1 ∈ nexts (ins l i) i := by rw [nexts_else (h.form hi) hj' ht' hret']; simp
    have hlt := h.nexts_lt hi _ hnx
    obtain ⟨t1, _, _, t4⟩ := target h hs hnx
    obtain ⟨k, c⟩ := to_whence h hlt.2 t4
    refine .other k (by rw [e, bare_isJa]; exact hj') (by rw [e, bare_isTest]; exact ht') (by rw [e, form_bare]; exact hret') (by rw [e, bare_bare, hw]) ?_
    rw [hw]
    have : ahead (stay l) (i + 1) = ahead (stay l) i + 1 := by rw [aheadS, if_pos hs]
    rw [← this]
    exact c

/-- One program says what another one says, in no more steps. -/
structure Says (n l : List Insn) : Prop where
  run : ∀ d, runL n d = runL l d
  len : ∀ d, (traceL n d).length ≤ (traceL l d).length
  most : mostL n ≤ mostL l

theorem says_of {n l : List Insn} {φ : Nat → Nat} (s : Sim n l φ) (hn : Good n) (hl : Good l) (k : Nat) (c : Ch l k 0 (φ 0)) : Says n l := by
  have h1 := hn.len
  have h2 := hl.len
  have ho := fun d => s.out hn hl d _ 0 rg0 (Nat.le_refl _) (by omega)
  have hm := s.most hn hl _ 0 (Nat.le_refl _) (by omega)
  have hc := fun d => c.out hl (by omega) d rg0
  have hcm := c.most hl (by omega)
  refine ⟨fun d => ?_, fun d => ?_, ?_⟩
  · have := (ho d).1.trans (hc d).1.symm
    unfold outL at this
    exact this
  · have q1 := (ho d).2
    have q2 := (hc d).2
    have : lenL n d 0 rg0 ≤ lenL l d 0 rg0 := by omega
    unfold lenL at this
    exact this
  · have : mostAt n 0 ≤ mostAt l 0 := by omega
    unfold mostAt at this
    exact this
theorem Says.trans {a b c : List Insn} (h : Says a b) (k : Says b c) : Says a c :=
  ⟨fun d => (h.run d).trans (k.run d), fun d => Nat.le_trans (h.len d) (k.len d), Nat.le_trans h.most k.most⟩
theorem Says.refl (a : List Insn) : Says a a := ⟨fun _ => rfl, fun _ => Nat.le_refl _, Nat.le_refl _⟩

theorem once_says {l : List Insn} (h : Good l) : Says (onceL l) l := by
  have g1 := give_good h
  have g2 := lead_good g1
  have g3 := level_good g2
  have g4 := (leave_good g3).1
  have s1 := says_of (give_sim h) g1 h 0 (.refl _)
  have s2 := says_of (lead_sim g1) g2 g1 0 (.refl _)
  have s3 := says_of (level_sim g2) g3 g2 0 (.refl _)
  obtain ⟨k, c⟩ := to_whence g3 (t := 0) (by have := g3.len; omega) (R_zero _)
  have s4 := says_of (leave_sim g3) g4 g3 k c
  exact ((s4.trans s3).trans s2).trans s1
theorem prune_says {l : List Insn} (h : Good l) : Says (pruneL l) l := by
  refine prune_ind (P := fun l => Says (pruneL l) l) ?_ ?_ _ l h (Nat.le_refl _)
  · intro l h hl; rw [prune_fixed hl]; exact .refl _
  · intro l h _ ih
    rw [← prune_once h]
    exact ih.trans (once_says h)
end Go.Proofs.Ytfjbanfibmpalaa

/- Plain: a call's data as bytes and as words. -/
set_option linter.unusedVariables false
set_option linter.unusedSimpArgs false
namespace Go.Proofs.Ytfjbanfibmpalaa

/-- The bytes of a number, the least one first. -/
def lowL : Nat → Nat → List Nat
  | 0, _ => []
  | n + 1, x => x % 256 :: lowL n (x / 256)

theorem lowL_len : ∀ n x, (lowL n x).length = n
  | 0, _ => rfl
  | n + 1, x => by simp [lowL, lowL_len n]
theorem lowL_snoc : ∀ n x, lowL (n + 1) x = lowL n x ++ [x / 256 ^ n % 256]
  | 0, x => by simp [lowL]
  | n + 1, x => by
    rw [lowL, lowL_snoc n, lowL, List.cons_append, Nat.div_div_eq_div_mul, Nat.pow_succ, Nat.mul_comm (256 ^ n)]
theorem lowL_lt : ∀ n x, ∀ y ∈ lowL n x, y < 256
  | 0, _, y, h => by simp [lowL] at h
  | n + 1, x, y, h => by
    rw [lowL] at h
    rcases List.mem_cons.1 h with rfl | h
    · exact Nat.mod_lt _ (by decide)
    · exact lowL_lt n _ y h

/-- The number of bytes, the least one first. -/
def numL : List Nat → Nat
  | [] => 0
  | b :: l => b + 256 * numL l
theorem numL_low : ∀ n x, numL (lowL n x) = x % 256 ^ n
  | 0, x => by simp [lowL, numL, Nat.mod_one]
  | n + 1, x => by
    rw [lowL, numL, numL_low n, Nat.pow_succ, Nat.mul_comm (256 ^ n), Nat.mod_mul]
theorem numL_snoc : ∀ (l : List Nat) b, numL (l ++ [b]) = numL l + b * 256 ^ l.length
  | [], b => by simp [numL]
  | a :: l, b => by
    rw [List.cons_append, numL, numL_snoc l, numL, List.length_cons, Nat.pow_succ, Nat.mul_add, Nat.add_assoc, ← Nat.mul_assoc, Nat.mul_comm 256 b, Nat.mul_assoc, Nat.mul_comm 256 (256 ^ l.length), Nat.mul_comm 256 (numL l)]
    try omega
theorem numL_lt : ∀ (l : List Nat), (∀ y ∈ l, y < 256) → numL l < 256 ^ l.length
  | [], _ => by simp [numL]
  | a :: l, h => by
    have h1 := numL_lt l (fun y hy => h y (List.mem_cons_of_mem _ hy))
    have h2 := h a List.mem_cons_self
    rw [numL, List.length_cons, Nat.pow_succ]
    omega

/-- A call's data. -/
structure Dt where
  nr : Nat
  arch : Nat
  ip : Nat
  a0 : Nat
  a1 : Nat
  a2 : Nat
  a3 : Nat
  a4 : Nat
  a5 : Nat

structure Dt.Ok (d : Dt) : Prop where
  nr : d.nr < 4294967296
  arch : d.arch < 4294967296
  ip : d.ip < 18446744073709551616
  a0 : d.a0 < 18446744073709551616
  a1 : d.a1 < 18446744073709551616
  a2 : d.a2 < 18446744073709551616
  a3 : d.a3 < 18446744073709551616
  a4 : d.a4 < 18446744073709551616
  a5 : d.a5 < 18446744073709551616

/-- As bytes. -/
def encL (d : Dt) : List Nat := lowL 4 d.nr ++ lowL 4 d.arch ++ lowL 8 d.ip ++ lowL 8 d.a0 ++ lowL 8 d.a1 ++ lowL 8 d.a2 ++ lowL 8 d.a3 ++ lowL 8 d.a4 ++ lowL 8 d.a5

theorem encL_len (d : Dt) : (encL d).length = 64 := by simp [encL, lowL_len]
theorem encL_lt (d : Dt) : ∀ y ∈ encL d, y < 256 := by
  intro y hy
  simp only [encL, List.mem_append] at hy
  rcases hy with ((((((((h | h) | h) | h) | h) | h) | h) | h) | h) <;> exact lowL_lt _ _ _ h

/-- As words. -/
def wordsD (d : Dt) : List Nat :=
  [d.nr, d.arch, d.ip % 4294967296, d.ip / 4294967296, d.a0 % 4294967296, d.a0 / 4294967296, d.a1 % 4294967296, d.a1 / 4294967296, d.a2 % 4294967296, d.a2 / 4294967296, d.a3 % 4294967296, d.a3 / 4294967296,
   d.a4 % 4294967296, d.a4 / 4294967296, d.a5 % 4294967296, d.a5 / 4294967296]
theorem wordsD_len (d : Dt) : (wordsD d).length = 16 := rfl
theorem wordsD_lt {d : Dt} (h : d.Ok) : ∀ y ∈ wordsD d, y < 4294967296 := by
  obtain ⟨h0, h1, h2, h3, h4, h5, h6, h7, h8⟩ := h
  intro y hy
  simp only [wordsD, List.mem_cons, List.not_mem_nil, or_false] at hy
  rcases hy with rfl | rfl | rfl | rfl | rfl | rfl | rfl | rfl | rfl | rfl | rfl | rfl | rfl | rfl | rfl | rfl <;> omega

theorem low8 (x : Nat) : lowL 8 x = lowL 4 (x % 4294967296) ++ lowL 4 (x / 4294967296) := by
  simp only [lowL, List.cons_append, List.nil_append, Nat.div_div_eq_div_mul, Nat.reduceMul]
  congr 1 <;> first | omega | (congr 1 <;> first | omega | (congr 1 <;> first | omega | (congr 1; omega)))
theorem encL_words (d : Dt) : encL d = (wordsD d).flatMap (lowL 4) := by
  simp only [encL, low8, wordsD, List.flatMap_cons, List.flatMap_nil, List.append_assoc, List.append_nil]

/-- The four bytes from a word's place on. -/
theorem chunk_flat : ∀ (l : List Nat) (i : Nat), i < l.length → ((l.flatMap (lowL 4)).drop (4 * i)).take 4 = lowL 4 (l.getD i 0)
  | [], i, h => by simp at h
  | a :: l, 0, _ => by
    rw [List.flatMap_cons, Nat.mul_zero, List.drop_zero, List.take_append_of_le_length (by rw [lowL_len]; exact Nat.le_refl 4), List.take_of_length_le (by rw [lowL_len]; exact Nat.le_refl 4)]
    rfl
  | a :: l, i + 1, h => by
    rw [List.flatMap_cons, show 4 * (i + 1) = (lowL 4 a).length + 4 * i by rw [lowL_len]; omega, List.drop_append]
    rw [show (lowL 4 a).drop ((lowL 4 a).length + 4 * i) = [] from List.drop_of_length_le (by omega), List.nil_append, Nat.add_sub_cancel_left]
    rw [chunk_flat l i (by simp at h; omega)]
    rfl
theorem chunk_enc (d : Dt) (i : Nat) (hi : i < 16) : ((encL d).drop (4 * i)).take 4 = lowL 4 ((wordsD d).getD i 0) := by
  rw [encL_words]; exact chunk_flat _ i (by rw [wordsD_len]; exact hi)
theorem byte_enc (d : Dt) (i j : Nat) (hi : i < 16) (hj : j < 4) : (encL d).getD (4 * i + j) 0 = (lowL 4 ((wordsD d).getD i 0)).getD j 0 := by
  rw [← chunk_enc d i hi]
  simp only [List.getD_eq_getElem?_getD, List.getElem?_take, List.getElem?_drop]
  rw [if_pos hj]
theorem numL_word {x : Nat} (h : x < 4294967296) : numL (lowL 4 x) = x := by
  rw [numL_low]; exact Nat.mod_eq_of_lt h

/-- The word at an offset; the fault. -/
def wordD (d : Dt) (k : Nat) : Nat := (wordsD d).getD (k / 4) 0
def placeOk (k : Nat) : Bool := decide (k % 4 = 0 ∧ k ≤ 60)
theorem wordD_lt {d : Dt} (h : d.Ok) (k : Nat) : wordD d k < 4294967296 := by
  unfold wordD
  rw [List.getD_eq_getElem?_getD]
  rcases Nat.lt_or_ge (k / 4) (wordsD d).length with h1 | h1
  · rw [List.getElem?_eq_getElem h1]; exact wordsD_lt h _ (List.getElem_mem h1)
  · rw [List.getElem?_eq_none h1]; decide
end Go.Proofs.Ytfjbanfibmpalaa
